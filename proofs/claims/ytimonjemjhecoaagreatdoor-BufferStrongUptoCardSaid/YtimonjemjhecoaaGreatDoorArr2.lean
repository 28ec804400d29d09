/- Walks, printed by a program of this repository (wip/tool). -/
import Derived.Test.YtimonjemjhecoaaGreatDoorAt7
import Derived.Test.YtimonjemjhecoaaGreatDoorDec2
namespace Go.Proofs.YtimonjemjhecoaaGreatDoor
open Go.RowKit
open Go
attribute [local irreducible] wpList wpQuiet wpX Code.wp
set_option maxHeartbeats 1000000
set_option maxRecDepth 100000
set_option linter.unusedSimpArgs false
set_option linter.unusedVariables false


theorem Prog.cells_one (p : Prog) : ∀ v ∈ p.cells.toArray.toList, v.oneCell' = true := by
  simp [Prog.cells, Value.oneCell', Sl.val]
/-- The program without the places where its parts lie. -/
def er (p : Prog) : Prog := ⟨p.name, ⟨none, 0, p.locs.l⟩, ⟨none, 0, p.init.l⟩, ⟨none, 0, p.threads.l.map fun t => ⟨none, 0, t.l⟩⟩, p.ask, p.cond⟩
theorem er_len (p : Prog) : (er p).threads.l.length = p.threads.l.length := by simp [er]
theorem er_at (p : Prog) (k : Nat) : ((er p).threads.l.getD k default).l = (p.threads.l.getD k default).l := by
  simp only [er, List.getD_eq_getElem?_getD, List.getElem?_map]
  cases p.threads.l[k]? <;> rfl
theorem er_any (p : Prog) (f : List Ins → Bool) : (er p).threads.l.any (fun k => f k.l) = p.threads.l.any (fun k => f k.l) := by
  simp only [er, List.any_map]; rfl
attribute [simp] localF_length
theorem namesF_er (p : Prog) : namesF (er p) = namesF p := rfl
theorem rightF_er (p : Prog) : rightF (er p) = rightF p := by
  have h1 := er_any p (fun k => decide (((12 : Nat) : Int) < ((k.length : Nat) : Int)))
  have h2 := er_any p (fun k => !threadF k p.locs.l.length)
  unfold rightF
  rw [namesF_er, er_len, h1, show (er p).locs.l.length = p.locs.l.length from rfl, h2]
  rfl
theorem mayN_er (p : Prog) (S : List UInt8) (k : Nat) : mayN (er p) S k = mayN p S k := by unfold mayN; rw [er_len, er_at]
theorem mayF_er (p : Prog) (S : List UInt8) (t : Int) : mayF (er p) S t = mayF p S t := by unfold mayF; rw [mayN_er]
theorem insAt_er (p : Prog) (k n : Nat) : insAt (er p) k n = insAt p k n := by unfold insAt; rw [er_at]
theorem goesF_er (p : Prog) (S : List UInt8) (k : Nat) : goesF (er p) S k = goesF p S k := by unfold goesF; rw [insAt_er]
theorem aRightF_er (p : Prog) (s : List UInt8) : aRightF (er p) s = aRightF p s := by
  have h1 : aRightF_a (er p) s = aRightF_a p s := by
    funext r a
    simp only [aRightF_a, er_len, er_at]
  unfold aRightF
  rw [rightF_er, h1]
  rfl
theorem startF_er (p : Prog) : startF (er p) = startF p := by unfold startF; rw [rightF_er]; rfl
theorem moveF_er (p : Prog) (s : List UInt8) (t : Int) : moveF (er p) s t = moveF p s t := by unfold moveF; rw [aRightF_er, mayF_er, goesF_er]
end Go.Proofs.YtimonjemjhecoaaGreatDoor

namespace Go.Proofs.YtimonjemjhecoaaGreatDoor
open Go.RowKit
open Go
/-! ### what is left of a region, in each order that may be drawn -/
section
variable {P : Program} {md : Region.Mode} {Q : Exit → Act → World → Prop} {w0 w : World} {S : List Nat} {R : List (World → Prop)} {L : List Res} {l : List Oper} {m n : Nat} {listed : Array Bool} {M : List (World → Prop)} {N : List Res} {a : Act}
def upQ (Q : Exit → Act → World → Prop) (K : Act → World → Prop) : Exit → Act → World → Prop := fun e a w => match e with
  | .normal => K a w
  | e => Q e a w
theorem wpOp_of_list {i : Nat} {o : Oper} {K : Act → World → Prop} (hi : l[i]? = some o) (h : wpList P l.toArray (upQ Q K) [o] a w) : wpOp P l.toArray Q i K a w := by
  have h0 : l.toArray[i]? = some o := by simpa using hi
  unfold wpOp
  simp only [h0]
  unfold wpList at h
  split
  · rename_i hw
    simp only [hw, if_true] at h
    exact h.imp (Oper.wp_mono fun a' w' h' => by unfold wpList at h'; exact h') id
  · rename_i hw
    simp only [hw] at h
    unfold wpList at h
    exact h
theorem wa_any (hge : (Region.ready md l.toArray listed).all (fun i => Nat.ble m i) = true) (hne : (Region.ready md l.toArray listed).isEmpty = false)
    (h : ∀ w, Own w0 S (M ++ R) (N ++ L) w → wpAny P md l.toArray Q (n + 1) listed a w) : wpX P md l.toArray Q w0 S R L m (n + 1) listed M N a :=
  ⟨fun h0 => (by rw [h0] at hne; cases hne), fun i hi => .inr ⟨Nat.le_of_ble_eq_true (List.all_eq_true.1 hge i hi), fun w hX => (h w hX.1).2 i hi⟩⟩
theorem wa_1 (i : Nat) {o : Oper} (hi : l[i]? = some o) (hr : Region.ready md l.toArray listed = [i])
    (h : wpList P l.toArray (upQ Q (wpAny P md l.toArray Q n (listed.setIfInBounds i true))) [o] a w) : wpAny P md l.toArray Q (n + 1) listed a w :=
  wpAny_all hr (by simp) fun k hk => by
    simp only [List.mem_cons, List.not_mem_nil, or_false] at hk
    subst hk
    exact wpOp_of_list hi h
theorem wa_2 (i j : Nat) {o o' : Oper} (hi : l[i]? = some o) (hj : l[j]? = some o') (hr : Region.ready md l.toArray listed = [i, j])
    (h : wpList P l.toArray (upQ Q (wpAny P md l.toArray Q n (listed.setIfInBounds i true))) [o] a w)
    (h' : wpList P l.toArray (upQ Q (wpAny P md l.toArray Q n (listed.setIfInBounds j true))) [o'] a w) : wpAny P md l.toArray Q (n + 1) listed a w :=
  wpAny_all hr (by simp) fun k hk => by
    simp only [List.mem_cons, List.not_mem_nil, or_false] at hk
    rcases hk with rfl | rfl
    · exact wpOp_of_list hi h
    · exact wpOp_of_list hj h'
theorem wa_tail (i : Nat) (l' : List Oper) (hl : l'.length = n) (hg : l.drop i = l') (ht : tailLex md l.toArray n i listed = true) (h : wpList P l.toArray Q l' a w) : wpAny P md l.toArray Q n listed a w :=
  wpAny_tail n i listed l' a w hl (fun j => by rw [← hg, List.getElem?_drop]; simp) ht h
end
section
variable {P : Program} {o : Oper} {a : Act} {w w0 : World} {S : List Nat} {R : List (World → Prop)} {L : List Res}
theorem rp_min2 {x y : Operand} {dst : Option Tmp} {ats : Array TypeId} {ty : TypeId} {pos : String} {after : Array Edge} {guard : Option (Nat × Bool)} (ho : x = x) (p q : Int) (hx : a.eval x = iv p) (hy : a.eval y = iv q) :
    (execOp a.eval { dst, op := .call { callee := .builtin .min, args := #[x, y], argTypes := ats }, type := ty, pos, after, guard }).run P w = .ok (.value (iv (min p q))) w := by
  rw [BigFrame.execOp_builtin, show (#[x, y].map a.eval) = #[a.eval x, a.eval y] by simp, hx, hy]
  rw [BigFrame.builtin_min]
  have e : (if q < p then q else p) = min p q := by omega
  have h2 : Builtin.min2 (iv p) (iv q) = pure (iv (min p q)) := by
    show (pure (Value.int .i64 (if q < p then q else p)) : Sem Value) = _
    rw [e]
  simp [Builtin.min_, h2]
/-- A row that is let go of, as a slice that is read. -/
theorem row_sl {β : Type} [Inhabited β] {n e len : Nat} {en : β → List Value} {v : Value} {xs : List Value} (H : Own w0 [] R L w) (i : Nat) (hi : L[i]? = some (.row v e n len xs)) (l : List β) (hxs : xs = l.flatMap en) (hlen : len = l.length) (hen : ∀ x, (en x).length = n ∧ 0 < n) (hl : l.length ≤ 140737488355328) :
    ∃ x : Option Addr × Nat, v = (⟨x.1, x.2, l⟩ : Sl β).val ∧ ∀ w', (Res.row v e n len xs).ok w' → SlIn n en ⟨x.1, x.2, l⟩ w' := by
  have hr := H.at hi
  subst hlen
  rcases hr.2 with ⟨rfl, h0⟩ | ⟨g, cap, cur, rfl, _, hg, hnc, _, hcs, htk⟩
  · refine ⟨(none, 0), by simp [Sl.val, h0], fun w'' _ => ⟨fun i hi => ?_, hen, hl, by show l.length ≤ 0; omega⟩⟩
    simp only at hi
    omega
  · refine ⟨(some ⟨g, 0, none⟩, cap), rfl, fun w'' hw => ?_⟩
    rcases hw.2 with ⟨h, _⟩ | ⟨g', cap', cur', hv, _, hg', hnc', _, hcs', htk'⟩
    · cases h
    · cases hv
      refine slin_blk (w := w'') hg' ?_ hen hl hnc
      rw [← hxs, ← htk']
      exact List.take_prefix ..
end
end Go.Proofs.YtimonjemjhecoaaGreatDoor

namespace Go.Proofs.YtimonjemjhecoaaGreatDoor
open Go.RowKit
open Go
section
variable {P : Program} {o : Oper} {a : Act} {w w0 : World} {S : List Nat} {R : List (World → Prop)} {L : List Res}
theorem rp_umin2 {x y : Operand} {dst : Option Tmp} {ats : Array TypeId} {ty : TypeId} {pos : String} {after : Array Edge} {guard : Option (Nat × Bool)} (p q : UInt8) (hx : a.eval x = bv p) (hy : a.eval y = bv q) :
    (execOp a.eval { dst, op := .call { callee := .builtin .min, args := #[x, y], argTypes := ats }, type := ty, pos, after, guard }).run P w = .ok (.value (bv (if q < p then q else p))) w := by
  rw [BigFrame.execOp_builtin, show (#[x, y].map a.eval) = #[a.eval x, a.eval y] by simp, hx, hy]
  rw [BigFrame.builtin_min]
  have e : (if (q.toNat : Int) < (p.toNat : Int) then (q.toNat : Int) else (p.toNat : Int)) = ((if q < p then q else p).toNat : Int) := by
    by_cases h : q < p
    · have h' := UInt8.lt_iff_toNat_lt.1 h
      rw [if_pos h, if_pos (by omega)]
    · have h' : ¬ q.toNat < p.toNat := fun h' => h (UInt8.lt_iff_toNat_lt.2 h')
      rw [if_neg h, if_neg (by omega)]
  have h2 : Builtin.min2 (bv p) (bv q) = pure (bv (if q < p then q else p)) := by
    show (pure (Value.int .u8 (if (q.toNat : Int) < (p.toNat : Int) then (q.toNat : Int) else (p.toNat : Int))) : Sem Value) = _
    rw [e]
  simp [Builtin.min_, h2]
/-- Where the part of an array begins that a slice expression takes. -/
def slO (off lo len n : Nat) : Nat := if len = lo then off else off + lo * n
theorem slO_lt {off lo len n : Nat} (h : lo < len) : slO off lo len n = off + lo * n := if_neg (by omega)
theorem rp_slice_arr_lh {T : TypeId} {x y z : Operand} (ho : o.op = .slice T x (some y) (some z) none) {len e : Nat} (hT : P.underlying T = some (.array len e)) {n : Nat} (hn : (P.info? e).map (·.size) = some n) {b off : Nat} (hx : a.eval x = .pointer (some ⟨b, off, none⟩))
    (lo hi : Nat) (hy : a.eval y = iv (lo : Int)) (hz : a.eval z = iv (hi : Int)) (hb : lo ≤ hi ∧ hi ≤ len) :
    (execOp a.eval o).run P w = .ok (.value (.slice (some ⟨b, slO off lo len n, none⟩) (hi - lo) (len - lo))) w := by
  obtain ⟨i, hi', hs⟩ := Option.map_eq_some_iff.1 hn
  have hl : P.arrayLen T = len := by simp [Program.arrayLen, hT]
  have he : P.elem T = e := by simp [Program.elem, hT]
  have hsz : (sizeOf e).run P w = .ok n w := by simp [sizeOf, typeInfo, hi', hs]
  have := run_sliceAt_array_lh (P := P) w T ⟨b, off, none⟩ (by rw [hT, hl, he]) .i64 .i64 (lo : Int) (hi : Int) (by omega) (by omega) (by rw [hl]; omega)
  rw [he, hsz, Result.andThen_ok, hl] at this
  unfold execOp; rw [ho]
  simp only [hx, hy, hz, Option.map_none, Option.map_some, Sem.run_bind, this, Result.andThen_ok]
  simp only [slicedAt, Int.toNat_natCast, slO]
  split <;> simp [Addr.add_mid]
theorem rp_slice_arr_hi {T : TypeId} {x z : Operand} (ho : o.op = .slice T x none (some z) none) {len e : Nat} (hT : P.underlying T = some (.array len e)) {n : Nat} (hn : (P.info? e).map (·.size) = some n) {b off : Nat} (hx : a.eval x = .pointer (some ⟨b, off, none⟩))
    {kd : IntKind} (hi : Nat) (hz : a.eval z = .int kd (hi : Int)) (hb : hi ≤ len) :
    (execOp a.eval o).run P w = .ok (.value (.slice (some ⟨b, off, none⟩) hi len)) w := by
  obtain ⟨i, hi', hs⟩ := Option.map_eq_some_iff.1 hn
  have hl : P.arrayLen T = len := by simp [Program.arrayLen, hT]
  have he : P.elem T = e := by simp [Program.elem, hT]
  have hsz : (sizeOf e).run P w = .ok n w := by simp [sizeOf, typeInfo, hi', hs]
  have := run_sliceAt_array_h (P := P) w T ⟨b, off, none⟩ (by rw [hT, hl, he]) kd (hi : Int) (by omega) (by rw [hl]; omega)
  rw [he, hsz, Result.andThen_ok, hl] at this
  unfold execOp; rw [ho]
  simp only [hx, hz, Option.map_none, Option.map_some, Sem.run_bind, this, Result.andThen_ok]
  simp [slicedAt, Addr.add_mid]
theorem rp_slice_arr_l {T : TypeId} {x y : Operand} (ho : o.op = .slice T x (some y) none none) {len e : Nat} (hT : P.underlying T = some (.array len e)) {n : Nat} (hn : (P.info? e).map (·.size) = some n) {b off : Nat} (hx : a.eval x = .pointer (some ⟨b, off, none⟩))
    (lo : Nat) (hy : a.eval y = iv (lo : Int)) (hb : lo ≤ len) :
    (execOp a.eval o).run P w = .ok (.value (.slice (some ⟨b, slO off lo len n, none⟩) (len - lo) (len - lo))) w := by
  obtain ⟨i, hi', hs⟩ := Option.map_eq_some_iff.1 hn
  have hl : P.arrayLen T = len := by simp [Program.arrayLen, hT]
  have he : P.elem T = e := by simp [Program.elem, hT]
  have hsz : (sizeOf e).run P w = .ok n w := by simp [sizeOf, typeInfo, hi', hs]
  have := run_sliceAt_array_l (P := P) w T ⟨b, off, none⟩ (by rw [hT, hl, he]) .i64 (lo : Int) (by omega) (by rw [hl]; omega)
  rw [he, hsz, Result.andThen_ok, hl] at this
  unfold execOp; rw [ho]
  simp only [hx, hy, Option.map_none, Option.map_some, Sem.run_bind, this, Result.andThen_ok]
  simp only [slicedAt, Int.toNat_natCast, slO]
  split <;> simp [Addr.add_mid]
theorem run_copy_rowN (w : World) (dT sT ty elem : TypeId) (n g o dLen dCap : Nat) (a : Addr) (sLen sCap : Nat) (cur : Array Value) (t : TypeId) (cs : List Value)
    (hu : P.underlying dT = some (.slice elem)) (hs : (P.info? elem).map (·.size) = some n)
    (hg : w.heap[g]? = some (.cells cur t (0, 0))) (hn : cs.length = Nat.min sLen dLen * n)
    (hsrc : ∀ j v, cs[j]? = some v → w.cell? (a.add j) = some v) (hfit : o + cs.length ≤ cur.size) (h1 : ∀ v ∈ cs, v.oneCell' = true) :
    (Builtin.copy_ #[dT, sT] ty #[.slice (some ⟨g, o, none⟩) dLen dCap, .slice (some a) sLen sCap]).run P w =
      .ok (goInt (Nat.min sLen dLen)) (w.setRow g (cur.toList.take o ++ cs ++ cur.toList.drop (o + cs.length)).toArray) := by
  have hl := run_loadCells_list (P := P) w a cs hsrc
  have hst := run_storeCells_at P g o t cs 0 cur w hg (by simpa using hfit) h1
  cases hq : P.info? elem with
  | none => simp [hq] at hs
  | some i =>
    have hi : i.size = n := by simpa [hq] using hs
    simp [Builtin.copy_, run_underlying hu, Builtin.lenOf, Builtin.firstCells, sizeOf, typeInfo, hq, hi, ← hn, hl, hst]
variable {ops : Array Oper} {Q : Exit → Act → World → Prop} {rest : List Oper}
/-- copy, from a part of a block of one's own into another part of it. -/
theorem wl_copyAA (H : Own w0 S R L w) (i : Nat) {dst : Option Tmp} {x y : Operand} {T T' ty : TypeId} {pos : String} {after : Array Edge} {guard : Option (Nat × Bool)}
    (hw : Region.wanted { dst, op := .call { callee := .builtin .copy, args := #[x, y], argTypes := #[T, T'] }, type := ty, pos, after, guard } (yielded ops a.tmps) = true)
    {e : Nat} (hT : P.underlying T = some (.slice e)) {k : Nat} (hs : (P.info? e).map (·.size) = some k) {b : Nat} {l : List UInt8} {E : TypeId} (hi : L[i]? = some (.blk b (.cells (enc l).toArray E (0, 0)))) {off n c : Nat} (hx : a.eval x = .slice (some ⟨b, off, none⟩) n c)
    {so m c' : Nat} (hy : a.eval y = .slice (some ⟨b, so, none⟩) m c') (q : Nat) (hq : min m n = q) (hfit : off + q * k ≤ l.length ∧ so + q * k ≤ l.length)
    (h : ∀ w', Own w0 S R (L.set i (.blk b (.cells (enc (l.take off ++ (l.drop so).take (q * k) ++ l.drop (off + q * k))).toArray E (0, 0)))) w' → wpList P ops Q rest (a.put dst (iv (q : Int))) w') :
    wpList P ops Q ({ dst, op := .call { callee := .builtin .copy, args := #[x, y], argTypes := #[T, T'] }, type := ty, pos, after, guard } :: rest) a w := by
  have hb := H.blk hi
  have hlen : ((l.drop so).take (q * k)).length = q * k := by simp; omega
  have hmin : Nat.min m n = q := hq
  have hr := run_copy_rowN (P := P) w T T' ty e k b off n c ⟨b, so, none⟩ m c' (enc l).toArray E (enc ((l.drop so).take (q * k))) hT hs hb (by rw [enc_length, hlen, hmin]) (fun j v hv => by
    have hj : j < ((l.drop so).take (q * k)).length := by have := (List.getElem?_eq_some_iff.1 hv).1; simpa using this
    rw [enc_get hj] at hv
    cases hv
    have hj2 : so + j < l.length := by omega
    have e1 : ((l.drop so).take (q * k)).getD j 0 = l.getD (so + j) 0 := by
      simp [List.getD, List.getElem?_take, List.getElem?_drop, show j < q * k by omega]
    rw [Addr.add_mid, e1]
    have := enc_get hj2
    simp only [World.cell?, hb, List.getElem?_toArray, this]
    rfl) (by rw [enc_length, hlen]; simp; omega) (fun v hv => enc_one v hv)
  rw [enc_length, hlen, hmin] at hr
  refine wl_run (v := iv (q : Int)) hw ?_ (h _ (H.setBlk hi (w' := w.setRow b ((enc l).toArray.toList.take off ++ enc ((l.drop so).take (q * k)) ++ (enc l).toArray.toList.drop (off + q * k)).toArray) ⟨rfl, rfl, rfl, by simp, fun c' _ hne => setRow_other w b c' _ (by simpa using hne)⟩ (by
    rw [setRow_heap w b _ _ E (0, 0) hb]
    simp only [enc_take, enc_drop, enc_append, List.toList_toArray])))
  rw [BigFrame.execOp_builtin, BigFrame.builtin_copy]
  rw [show (#[x, y].map a.eval) = #[a.eval x, a.eval y] by simp, hx, hy]
  simp only [Sem.run_bind, hr, Result.andThen_ok]
  rfl
/-- copy between parts of one array: where the parts begin is told by their first numbers. -/
theorem wl_copySS (H : Own w0 S R L w) (i : Nat) {dst : Option Tmp} {x y : Operand} {T T' ty : TypeId} {pos : String} {after : Array Edge} {guard : Option (Nat × Bool)}
    (hw : Region.wanted { dst, op := .call { callee := .builtin .copy, args := #[x, y], argTypes := #[T, T'] }, type := ty, pos, after, guard } (yielded ops a.tmps) = true)
    {e : Nat} (hT : P.underlying T = some (.slice e)) {k : Nat} (hs : (P.info? e).map (·.size) = some k) {b : Nat} {l : List UInt8} {E : TypeId} (hi : L[i]? = some (.blk b (.cells (enc l).toArray E (0, 0)))) {off lo len n c : Nat} (hx : a.eval x = .slice (some ⟨b, slO off lo len k, none⟩) n c)
    {off' lo' len' m c' : Nat} (hy : a.eval y = .slice (some ⟨b, slO off' lo' len' k, none⟩) m c') (q : Nat) (hq : min m n = q) (hlo : n ≤ len - lo ∧ m ≤ len' - lo') (hfit : off + lo * k + q * k ≤ l.length ∧ off' + lo' * k + q * k ≤ l.length ∧ off + len * k ≤ l.length ∧ off' + len' * k ≤ l.length)
    (h : ∀ w', Own w0 S R (L.set i (.blk b (.cells (enc (l.take (off + lo * k) ++ (l.drop (off' + lo' * k)).take (q * k) ++ l.drop (off + lo * k + q * k))).toArray E (0, 0)))) w' → wpList P ops Q rest (a.put dst (iv (q : Int))) w') :
    wpList P ops Q ({ dst, op := .call { callee := .builtin .copy, args := #[x, y], argTypes := #[T, T'] }, type := ty, pos, after, guard } :: rest) a w := by
  rcases Nat.eq_zero_or_pos q with h0 | h0
  · subst h0
    have e1 : ∀ o o' : Nat, l.take o ++ (l.drop o').take (0 * k) ++ l.drop (o + 0 * k) = l := fun o o' => by simp
    refine wl_copyAA H i hw hT hs hi hx hy 0 hq ⟨?_, ?_⟩ fun w' H' => h w' ?_
    · simp only [slO]; split <;> simp <;> omega
    · simp only [slO]; split <;> simp <;> omega
    · rw [e1] at H' ⊢; exact H'
  · rw [slO_lt (by omega)] at hx
    rw [slO_lt (by omega)] at hy
    exact wl_copyAA H i hw hT hs hi hx hy q hq ⟨by omega, by omega⟩ h
end
end Go.Proofs.YtimonjemjhecoaaGreatDoor
