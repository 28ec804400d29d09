/- Regions whose last operations may come in several orders: each order is walked. No program in sight. -/
import Derived.Test.YtpnaooajmdildaaGreatDoorDec2
namespace Go.Proofs.YtpnaooajmdildaaGreatDoor
open Go.RowKit
open Go
/-! ### what is left of a region, in each order that may be drawn -/
section
variable {P : Program} {md : Region.Mode} {Q : Exit → Act → World → Prop} {w0 w : World} {S : List Nat} {R : List (World → Prop)} {L : List Res} {l : List Oper} {m n : Nat} {listed : Array Bool} {M : List (World → Prop)} {N : List Res} {a : Act}
def upQ (Q : Exit → Act → World → Prop) (K : Act → World → Prop) : Exit → Act → World → Prop := fun e a w => match e with
  | .normal => K a w
  | e => Q e a w
theorem wpOp_of_list {i : Nat} {o : Oper} {K : Act → World → Prop} (hi : l[i]? = some o) (h : wpList P l.toArray (upQ Q K) [o] a w) : wpOp P l.toArray Q i K a w := by
  have h0 : l.toArray[i]? = some o := by simpa using hi
  unfold wpOp
  simp only [h0]
  unfold wpList at h
  split
  · rename_i hw
    simp only [hw, if_true] at h
    exact h.imp (Oper.wp_mono fun a' w' h' => by unfold wpList at h'; exact h') id
  · rename_i hw
    simp only [hw] at h
    unfold wpList at h
    exact h
theorem wa_any (hge : (Region.ready md l.toArray listed).all (fun i => Nat.ble m i) = true) (hne : (Region.ready md l.toArray listed).isEmpty = false)
    (h : ∀ w, Own w0 S (M ++ R) (N ++ L) w → wpAny P md l.toArray Q (n + 1) listed a w) : wpX P md l.toArray Q w0 S R L m (n + 1) listed M N a :=
  ⟨fun h0 => (by rw [h0] at hne; cases hne), fun i hi => .inr ⟨Nat.le_of_ble_eq_true (List.all_eq_true.1 hge i hi), fun w hX => (h w hX.1).2 i hi⟩⟩
theorem wa_1 (i : Nat) {o : Oper} (hi : l[i]? = some o) (hr : Region.ready md l.toArray listed = [i])
    (h : wpList P l.toArray (upQ Q (wpAny P md l.toArray Q n (listed.setIfInBounds i true))) [o] a w) : wpAny P md l.toArray Q (n + 1) listed a w :=
  wpAny_all hr (by simp) fun k hk => by
    simp only [List.mem_cons, List.not_mem_nil, or_false] at hk
    subst hk
    exact wpOp_of_list hi h
theorem wa_2 (i j : Nat) {o o' : Oper} (hi : l[i]? = some o) (hj : l[j]? = some o') (hr : Region.ready md l.toArray listed = [i, j])
    (h : wpList P l.toArray (upQ Q (wpAny P md l.toArray Q n (listed.setIfInBounds i true))) [o] a w)
    (h' : wpList P l.toArray (upQ Q (wpAny P md l.toArray Q n (listed.setIfInBounds j true))) [o'] a w) : wpAny P md l.toArray Q (n + 1) listed a w :=
  wpAny_all hr (by simp) fun k hk => by
    simp only [List.mem_cons, List.not_mem_nil, or_false] at hk
    rcases hk with rfl | rfl
    · exact wpOp_of_list hi h
    · exact wpOp_of_list hj h'
theorem wa_3 (i j k : Nat) {o o' o2 : Oper} (hi : l[i]? = some o) (hj : l[j]? = some o') (hk : l[k]? = some o2) (hr : Region.ready md l.toArray listed = [i, j, k])
    (h : wpList P l.toArray (upQ Q (wpAny P md l.toArray Q n (listed.setIfInBounds i true))) [o] a w)
    (h' : wpList P l.toArray (upQ Q (wpAny P md l.toArray Q n (listed.setIfInBounds j true))) [o'] a w)
    (h2 : wpList P l.toArray (upQ Q (wpAny P md l.toArray Q n (listed.setIfInBounds k true))) [o2] a w) : wpAny P md l.toArray Q (n + 1) listed a w :=
  wpAny_all hr (by simp) fun q hq => by
    simp only [List.mem_cons, List.not_mem_nil, or_false] at hq
    rcases hq with rfl | rfl | rfl
    · exact wpOp_of_list hi h
    · exact wpOp_of_list hj h'
    · exact wpOp_of_list hk h2
theorem wa_0 (hr : Region.ready md l.toArray listed = []) (h : Q .normal a w) : wpAny P md l.toArray Q n listed a w := by
  exact wpAny_done hr h n
theorem wa_tail (i : Nat) (l' : List Oper) (hl : l'.length = n) (hg : l.drop i = l') (ht : tailLex md l.toArray n i listed = true) (h : wpList P l.toArray Q l' a w) : wpAny P md l.toArray Q n listed a w :=
  wpAny_tail n i listed l' a w hl (fun j => by rw [← hg, List.getElem?_drop]; simp) ht h
end
section
variable {P : Program} {o : Oper} {a : Act} {w w0 : World} {S : List Nat} {R : List (World → Prop)} {L : List Res}
theorem rp_umax2 {x y : Operand} {dst : Option Tmp} {ats : Array TypeId} {ty : TypeId} {pos : String} {after : Array Edge} {guard : Option (Nat × Bool)} (p q : UInt8) (hx : a.eval x = bv p) (hy : a.eval y = bv q) :
    (execOp a.eval { dst, op := .call { callee := .builtin .max, args := #[x, y], argTypes := ats }, type := ty, pos, after, guard }).run P w = .ok (.value (bv (if p < q then q else p))) w := by
  rw [BigFrame.execOp_builtin, show (#[x, y].map a.eval) = #[a.eval x, a.eval y] by simp, hx, hy]
  rw [BigFrame.builtin_max]
  have e : (if (q.toNat : Int) > (p.toNat : Int) then (q.toNat : Int) else (p.toNat : Int)) = ((if p < q then q else p).toNat : Int) := by
    by_cases h : p < q
    · have h' := UInt8.lt_iff_toNat_lt.1 h
      rw [if_pos h, if_pos (by omega)]
    · have h' : ¬ p.toNat < q.toNat := fun h' => h (UInt8.lt_iff_toNat_lt.2 h')
      rw [if_neg h, if_neg (by omega)]
  have h2 : Builtin.max2 (bv p) (bv q) = pure (bv (if p < q then q else p)) := by
    show (pure (Value.int .u8 (if (q.toNat : Int) > (p.toNat : Int) then (q.toNat : Int) else (p.toNat : Int))) : Sem Value) = _
    rw [e]
  simp [Builtin.max_, h2]
theorem rp_min2 {x y : Operand} {dst : Option Tmp} {ats : Array TypeId} {ty : TypeId} {pos : String} {after : Array Edge} {guard : Option (Nat × Bool)} (ho : x = x) (p q : Int) (hx : a.eval x = iv p) (hy : a.eval y = iv q) :
    (execOp a.eval { dst, op := .call { callee := .builtin .min, args := #[x, y], argTypes := ats }, type := ty, pos, after, guard }).run P w = .ok (.value (iv (min p q))) w := by
  rw [BigFrame.execOp_builtin, show (#[x, y].map a.eval) = #[a.eval x, a.eval y] by simp, hx, hy]
  rw [BigFrame.builtin_min]
  have e : (if q < p then q else p) = min p q := by omega
  have h2 : Builtin.min2 (iv p) (iv q) = pure (iv (min p q)) := by
    show (pure (Value.int .i64 (if q < p then q else p)) : Sem Value) = _
    rw [e]
  simp [Builtin.min_, h2]
/-- A row that is let go of, as a slice that is read. -/
theorem row_sl {β : Type} [Inhabited β] {n e len : Nat} {en : β → List Value} {v : Value} {xs : List Value} (H : Own w0 [] R L w) (i : Nat) (hi : L[i]? = some (.row v e n len xs)) (l : List β) (hxs : xs = l.flatMap en) (hlen : len = l.length) (hen : ∀ x, (en x).length = n ∧ 0 < n) (hl : l.length ≤ 140737488355328) :
    ∃ x : Option Addr × Nat, v = (⟨x.1, x.2, l⟩ : Sl β).val ∧ ∀ w', (Res.row v e n len xs).ok w' → SlIn n en ⟨x.1, x.2, l⟩ w' := by
  have hr := H.at hi
  subst hlen
  rcases hr.2 with ⟨rfl, h0⟩ | ⟨g, cap, cur, rfl, _, hg, hnc, _, hcs, htk⟩
  · refine ⟨(none, 0), by simp [Sl.val, h0], fun w'' _ => ⟨fun i hi => ?_, hen, hl, by show l.length ≤ 0; omega⟩⟩
    simp only at hi
    omega
  · refine ⟨(some ⟨g, 0, none⟩, cap), rfl, fun w'' hw => ?_⟩
    rcases hw.2 with ⟨h, _⟩ | ⟨g', cap', cur', hv, _, hg', hnc', _, hcs', htk'⟩
    · cases h
    · cases hv
      refine slin_blk (w := w'') hg' ?_ hen hl hnc
      rw [← hxs, ← htk']
      exact List.take_prefix ..
def rowSl {β : Type} (v : Value) (l : List β) : Sl β := match v with
  | .slice a _ c => ⟨a, c, l⟩
  | _ => ⟨none, 0, l⟩
/-- An owned row, read as a slice. -/
theorem row_slin {β : Type} [Inhabited β] {n e len : Nat} {en : β → List Value} {v : Value} {xs : List Value} (H : Own w0 S R L w) (i : Nat) (hi : L[i]? = some (.row v e n len xs)) (l : List β) (hxs : xs = l.flatMap en) (hlen : len = l.length) (hen : ∀ x, (en x).length = n ∧ 0 < n) (hl : l.length ≤ 140737488355328) :
    v = (rowSl v l).val ∧ SlIn n en (rowSl v l) w := by
  have hr := H.at hi
  subst hlen
  rcases hr.2 with ⟨rfl, h0⟩ | ⟨g, cap, cur, rfl, _, hg, hnc, _, hcs, htk⟩
  · refine ⟨by simp [rowSl, Sl.val, h0], fun i hi => ?_, hen, hl, by show l.length ≤ 0; omega⟩
    simp only [rowSl] at hi
    omega
  · refine ⟨rfl, ?_⟩
    refine slin_blk (w := w) hg ?_ hen hl hnc
    rw [← hxs, ← htk]
    exact List.take_prefix ..
end
end Go.Proofs.YtpnaooajmdildaaGreatDoor
