/- An element taken out of a row of one's own; blocks of booleans. No program in sight. -/
import Derived.Test.YtimonjemjhecoaaGreatDoorApp
namespace Go.Proofs.YtimonjemjhecoaaGreatDoor
open Go.RowKit
open Go
section
variable {P : Program} {o : Oper} {a : Act} {w w0 : World} {S : List Nat} {R : List (World → Prop)} {L : List Res} {ops : Array Oper} {rest : List Oper} {Q : Exit → Act → World → Prop}
theorem rp_slice_slhm {α : Type} [Inhabited α] {n : Nat} {en : α → List Value} {s : Sl α} (hs : SlIn n en s w) {T : TypeId} {x hi mx : Operand} (ho : o.op = .slice T x none (some hi) (some mx)) {e : Nat} (hT : P.underlying T = some (.slice e)) (hn : (P.info? e).map (·.size) = some n)
    (hx : a.eval x = s.val) {kd km : IntKind} (h : Nat) (hk : a.eval hi = .int kd (h : Int)) (hm : a.eval mx = .int km (h : Int)) (hlt : h ≤ s.l.length) :
    (execOp a.eval o).run P w = .ok (.value ((⟨s.ad, h, s.l.take h⟩ : Sl α).val)) w := by
  obtain ⟨i, hi', hsz⟩ := Option.map_eq_some_iff.1 hn
  have he : P.elem T = e := by simp [Program.elem, hT]
  have hz : (sizeOf e).run P w = .ok n w := by simp [sizeOf, typeInfo, hi', hsz]
  have hc := hs.2.2
  have := run_slice_hm (P := P) w T s.ad s.l.length s.cap (by rw [hT, he]) kd km (h : Int) (h : Int) (by omega) (by omega) (by omega)
  rw [he, hz, Result.andThen_ok] at this
  unfold execOp; rw [ho]
  simp only [hx, hk, hm, Option.map_none, Option.map_some, Sl.val, Instr.sliceAt, Sem.run_bind, run_underlying hT w, Result.andThen_ok, this]
  simp only [sliced, Int.toNat_natCast, List.length_take, Nat.min_eq_left hlt, Nat.sub_zero, Nat.zero_mul]
  have e0 : (s.ad.map (·.add 0)) = s.ad := by
    cases s.ad with
    | none => rfl
    | some x => simp [Addr.add]
  rw [e0, ite_self]
  rfl
theorem Own.rowHead (H : Own w0 S R L w) (i : Nat) {e size n g cap k : Nat} {xs : List Value} (hi : L[i]? = some (.row (.slice (some ⟨g, 0, none⟩) n cap) e size n xs)) (hk : k ≤ n) :
    Own w0 S R (L.set i (.row (.slice (some ⟨g, 0, none⟩) k k) e size k (xs.take (k * size)))) w := by
  have hr := H.at hi
  refine H.turn hi rfl rfl rfl (Nat.le_refl _) (fun _ _ _ => rfl) ?_ (fun b hb => .inl hb) (fun b _ hb => hb)
  rcases hr.2 with ⟨h, _⟩ | ⟨g', cap', cur, hv, _, hg, hnc, hcm, hcs, htk⟩
  · cases h
  · cases hv
    refine ⟨?_, .inr ⟨g, k, cur, rfl, Nat.zero_le _, hg, Nat.le_refl _, by omega, Nat.le_trans (Nat.mul_le_mul_right _ (by omega)) hcs, ?_⟩⟩
    · rw [List.length_take, hr.1]
      exact Nat.min_eq_left (Nat.mul_le_mul_right _ hk)
    · rw [← htk, List.take_take, Nat.min_eq_left (Nat.mul_le_mul_right _ hk)]
theorem flat_take {α : Type} {en : α → List Value} {size : Nat} (hen : ∀ x, (en x).length = size ∧ 0 < size) : ∀ (l : List α) (k : Nat), (l.flatMap en).take (k * size) = (l.take k).flatMap en
  | [], k => by simp
  | x :: l, 0 => by simp
  | x :: l, k + 1 => by
    rw [List.flatMap_cons, List.take_succ_cons, List.flatMap_cons, Nat.add_mul, Nat.one_mul, Nat.add_comm, List.take_add, ← flat_take hen l k]
    have h := (hen x).1
    rw [← h, List.take_left, List.drop_left]
theorem wl_cut {α : Type} [Inhabited α] (en : α → List Value) (H : Own w0 S R L w) (i : Nat) {dst : Option Tmp} {x y : Operand} {T : TypeId} {ty : TypeId} {pos : String} {after : Array Edge} {guard : Option (Nat × Bool)}
    (hw : Region.wanted { dst, op := .call { callee := .builtin .append, args := #[x, y], argTypes := #[T, T] }, type := ty, pos, after, guard } (yielded ops a.tmps) = true)
    {e size bytes : Nat} {z v : Value} (l : List α) (k : Nat) (hT : P.underlying T = some (.slice e)) (hs : (P.info? e).map (·.size) = some size) (hz : (P.info? e).bind (·.zero) = some z) (hby : (P.info? e).map (·.bytes) = some bytes)
    (hzs : z.cells.size = size) (hsz : 0 < size) (hi : L[i]? = some (.row v e size l.length (l.flatMap en))) (hk : k < l.length) (hx : a.eval x = (⟨(rowSl v l).ad, k, (rowSl v l).l.take k⟩ : Sl α).val) (hy : a.eval y = (⟨slAd (rowSl v l) (k + 1) size, (rowSl v l).cap - (k + 1), ((rowSl v l).l.take (rowSl v l).l.length).drop (k + 1)⟩ : Sl α).val)
    (hen : ∀ x, (en x).length = size ∧ 0 < size) (h1 : ∀ y, ∀ u ∈ en y, u.oneCell' = true) (hl : l.length ≤ 140737488355328) (hb : (k + (l.length - (k + 1))) * bytes ≤ 140737488355328)
    (hS : ∀ b ∈ S, v.ownBlock ≠ some b)
    (h : ∀ v' w', Own w0 S R (L.set i (.row v' e size (l.take k ++ l.drop (k + 1)).length ((l.take k ++ l.drop (k + 1)).flatMap en))) w' → wpList P ops Q rest (a.put dst v') w') :
    wpList P ops Q ({ dst, op := .call { callee := .builtin .append, args := #[x, y], argTypes := #[T, T] }, type := ty, pos, after, guard } :: rest) a w := by
  obtain ⟨hv, hsl⟩ := row_slin H i hi l rfl rfl hen hl
  have hr := H.at hi
  rcases hr.2 with ⟨_, h0⟩ | ⟨g, cap, cur, rfl, _, hg, hnc, hcm, hcs, htk⟩
  · omega
  · have H2 := H.rowHead i (k := k) hi (by omega)
    rw [flat_take hen] at H2
    have hll : (l.take k).length = k := by rw [List.length_take]; omega
    have hsub := hsl.part (k + 1) l.length (by omega) (Nat.le_refl _)
    have ht : (l.take l.length) = l := List.take_length
    have hiL : i < L.length := (List.getElem?_eq_some_iff.1 hi).1
    refine wl_appendS en H2 i (l := l.take k) (s := ⟨slAd (rowSl (.slice (some ⟨g, 0, none⟩) l.length cap) l) (k + 1) size, (rowSl (.slice (some ⟨g, 0, none⟩) l.length cap) l).cap - (k + 1), (l.take l.length).drop (k + 1)⟩) (v := .slice (some ⟨g, 0, none⟩) k k) hw hT hs hz hby hzs hsz (by rw [List.getElem?_set_self hiL, hll]) ?_ hy hsub hen h1 ?_ ?_ hS ?_
    · rw [hx]
      simp only [rowSl, Sl.val, vAd, vCap, hll]
    · rw [hll, List.length_drop, List.length_take, Nat.min_self]
      exact hb
    · rw [hll, List.length_drop, List.length_take, Nat.min_self]
      omega
    · intro v' w' H3
      rw [ht, List.set_set] at H3
      exact h v' w' H3
def encB (l : List Bool) : List Value := l.map .bool
@[simp] theorem encB_length (l : List Bool) : (encB l).length = l.length := by simp [encB]
theorem encB_get {l : List Bool} {i : Nat} (h : i < l.length) : (encB l)[i]? = some (.bool (l.getD i false)) := by
  simp [encB, List.getElem?_eq_getElem h, List.getD]
theorem encB_set (l : List Bool) (i : Nat) (b : Bool) : (encB l).set i (.bool b) = encB (l.set i b) := by simp [encB, List.map_set]
theorem rp_load1b (H : Own w0 S R L w) (i : Nat) {t : TypeId} {x : Operand} (ho : o.op = .load t x)
    {b off : Nat} (hx : a.eval x = .pointer (some ⟨b, off, none⟩)) {s : List Bool} {T : TypeId} {fr : Nat × Nat} (hi : L[i]? = some (.blk b (.cells (encB s).toArray T fr)))
    {d : TypeDesc} (hu : P.underlying t = some d) (hd : oneCellType d = true) (k : Nat) (hk : off = k) (hl : k < s.length) : (execOp a.eval o).run P w = .ok (.value (.bool (s.getD k false))) w := by
  subst hk
  exact run_load1 ho hu hd hx (H.cell1 hi (by simpa using encB_get hl))
theorem wl_store1b (H : Own w0 S R L w) (i : Nat) {t : TypeId} {x y : Operand} (ho : o.op = .store t x y) (hw : Region.wanted o (yielded ops a.tmps) = true)
    {b off : Nat} (hx : a.eval x = .pointer (some ⟨b, off, none⟩)) {s : List Bool} {T : TypeId} (hi : L[i]? = some (.blk b (.cells (encB s).toArray T (0, 0))))
    (v : Bool) (hy : a.eval y = .bool v) (hn : (P.info? t).map (·.size) = some 1) (k : Nat) (hk : off = k) (hoff : k < s.length)
    (h : ∀ w', Own w0 S R (L.set i (.blk b (.cells (encB (s.set k v)).toArray T (0, 0)))) w' → wpList P ops Q rest (a.put o.dst undef) w') : wpList P ops Q (o :: rest) a w := by
  subst hk
  refine wl_store1 H i ho hw hx hi hy rfl hn (by simpa using hoff) ?_
  simpa [encB_set] using h
theorem xs_1e {t : TypeId} {x y : Operand} (ho : o.op = .store t x y) {b off : Nat} (hx : a.eval x = .pointer (some ⟨b, off, none⟩)) (v : UInt8) (hy : a.eval y = bv v) (hn : (P.info? t).map (·.size) = some 1) (k : Nat) (hk : off = k) {s : List UInt8} (hl : k < s.length) {T : TypeId} :
    xStore P o a b (.cells (enc s).toArray T (0, 0)) (.cells (enc (s.set k v)).toArray T (0, 0)) := fun w hb => by
  subst hk
  refine ⟨_, run_store1 ho hx hy rfl hn hb (by simpa using hl), ⟨rfl, rfl, rfl, by simp [World.setCell], fun c _ hne => Below.heap_setCell _ _ _ _ (by simpa using hne)⟩, ?_⟩
  rw [setCell_eq_setRow w b off _ T (0, 0) (bv v) hb, setRow_heap w b _ _ T (0, 0) hb]
  simp [← enc_set]
theorem xs_1b {t : TypeId} {x y : Operand} (ho : o.op = .store t x y) {b off : Nat} (hx : a.eval x = .pointer (some ⟨b, off, none⟩)) (v : Bool) (hy : a.eval y = .bool v) (hn : (P.info? t).map (·.size) = some 1) (k : Nat) (hk : off = k) {s : List Bool} (hl : k < s.length) {T : TypeId} :
    xStore P o a b (.cells (encB s).toArray T (0, 0)) (.cells (encB (s.set k v)).toArray T (0, 0)) := fun w hb => by
  subst hk
  refine ⟨_, run_store1 ho hx hy rfl hn hb (by simpa using hl), ⟨rfl, rfl, rfl, by simp [World.setCell], fun c _ hne => Below.heap_setCell _ _ _ _ (by simpa using hne)⟩, ?_⟩
  rw [setCell_eq_setRow w b off _ T (0, 0) (.bool v) hb, setRow_heap w b _ _ T (0, 0) hb]
  simp [← encB_set]
end
end Go.Proofs.YtimonjemjhecoaaGreatDoor
