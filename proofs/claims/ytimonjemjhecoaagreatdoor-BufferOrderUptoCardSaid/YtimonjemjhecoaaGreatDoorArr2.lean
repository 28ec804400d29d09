/- Slices of arrays in blocks of one's own; copy within such a block. No program in sight. -/
import Derived.Test.YtimonjemjhecoaaGreatDoorAny
namespace Go.Proofs.YtimonjemjhecoaaGreatDoor
open Go.RowKit
open Go
section
variable {P : Program} {o : Oper} {a : Act} {w w0 : World} {S : List Nat} {R : List (World → Prop)} {L : List Res}
theorem rp_umin2 {x y : Operand} {dst : Option Tmp} {ats : Array TypeId} {ty : TypeId} {pos : String} {after : Array Edge} {guard : Option (Nat × Bool)} (p q : UInt8) (hx : a.eval x = bv p) (hy : a.eval y = bv q) :
    (execOp a.eval { dst, op := .call { callee := .builtin .min, args := #[x, y], argTypes := ats }, type := ty, pos, after, guard }).run P w = .ok (.value (bv (if q < p then q else p))) w := by
  rw [BigFrame.execOp_builtin, show (#[x, y].map a.eval) = #[a.eval x, a.eval y] by simp, hx, hy]
  rw [BigFrame.builtin_min]
  have e : (if (q.toNat : Int) < (p.toNat : Int) then (q.toNat : Int) else (p.toNat : Int)) = ((if q < p then q else p).toNat : Int) := by
    by_cases h : q < p
    · have h' := UInt8.lt_iff_toNat_lt.1 h
      rw [if_pos h, if_pos (by omega)]
    · have h' : ¬ q.toNat < p.toNat := fun h' => h (UInt8.lt_iff_toNat_lt.2 h')
      rw [if_neg h, if_neg (by omega)]
  have h2 : Builtin.min2 (bv p) (bv q) = pure (bv (if q < p then q else p)) := by
    show (pure (Value.int .u8 (if (q.toNat : Int) < (p.toNat : Int) then (q.toNat : Int) else (p.toNat : Int))) : Sem Value) = _
    rw [e]
  simp [Builtin.min_, h2]
def slO (off lo len n : Nat) : Nat := if len = lo then off else off + lo * n
theorem slO_lt {off lo len n : Nat} (h : lo < len) : slO off lo len n = off + lo * n := if_neg (by omega)
theorem rp_slice_arr_lh {T : TypeId} {x y z : Operand} (ho : o.op = .slice T x (some y) (some z) none) {len e : Nat} (hT : P.underlying T = some (.array len e)) {n : Nat} (hn : (P.info? e).map (·.size) = some n) {b off : Nat} (hx : a.eval x = .pointer (some ⟨b, off, none⟩))
    (lo hi : Nat) (hy : a.eval y = iv (lo : Int)) (hz : a.eval z = iv (hi : Int)) (hb : lo ≤ hi ∧ hi ≤ len) :
    (execOp a.eval o).run P w = .ok (.value (.slice (some ⟨b, slO off lo len n, none⟩) (hi - lo) (len - lo))) w := by
  obtain ⟨i, hi', hs⟩ := Option.map_eq_some_iff.1 hn
  have hl : P.arrayLen T = len := by simp [Program.arrayLen, hT]
  have he : P.elem T = e := by simp [Program.elem, hT]
  have hsz : (sizeOf e).run P w = .ok n w := by simp [sizeOf, typeInfo, hi', hs]
  have := run_sliceAt_array_lh (P := P) w T ⟨b, off, none⟩ (by rw [hT, hl, he]) .i64 .i64 (lo : Int) (hi : Int) (by omega) (by omega) (by rw [hl]; omega)
  rw [he, hsz, Result.andThen_ok, hl] at this
  unfold execOp; rw [ho]
  simp only [hx, hy, hz, Option.map_none, Option.map_some, Sem.run_bind, this, Result.andThen_ok]
  simp only [slicedAt, Int.toNat_natCast, slO]
  split <;> simp [Addr.add_mid]
theorem rp_slice_arr_hi {T : TypeId} {x z : Operand} (ho : o.op = .slice T x none (some z) none) {len e : Nat} (hT : P.underlying T = some (.array len e)) {n : Nat} (hn : (P.info? e).map (·.size) = some n) {b off : Nat} (hx : a.eval x = .pointer (some ⟨b, off, none⟩))
    {kd : IntKind} (hi : Nat) (hz : a.eval z = .int kd (hi : Int)) (hb : hi ≤ len) :
    (execOp a.eval o).run P w = .ok (.value (.slice (some ⟨b, off, none⟩) hi len)) w := by
  obtain ⟨i, hi', hs⟩ := Option.map_eq_some_iff.1 hn
  have hl : P.arrayLen T = len := by simp [Program.arrayLen, hT]
  have he : P.elem T = e := by simp [Program.elem, hT]
  have hsz : (sizeOf e).run P w = .ok n w := by simp [sizeOf, typeInfo, hi', hs]
  have := run_sliceAt_array_h (P := P) w T ⟨b, off, none⟩ (by rw [hT, hl, he]) kd (hi : Int) (by omega) (by rw [hl]; omega)
  rw [he, hsz, Result.andThen_ok, hl] at this
  unfold execOp; rw [ho]
  simp only [hx, hz, Option.map_none, Option.map_some, Sem.run_bind, this, Result.andThen_ok]
  simp [slicedAt, Addr.add_mid]
theorem rp_slice_arr_l {T : TypeId} {x y : Operand} (ho : o.op = .slice T x (some y) none none) {len e : Nat} (hT : P.underlying T = some (.array len e)) {n : Nat} (hn : (P.info? e).map (·.size) = some n) {b off : Nat} (hx : a.eval x = .pointer (some ⟨b, off, none⟩))
    (lo : Nat) (hy : a.eval y = iv (lo : Int)) (hb : lo ≤ len) :
    (execOp a.eval o).run P w = .ok (.value (.slice (some ⟨b, slO off lo len n, none⟩) (len - lo) (len - lo))) w := by
  obtain ⟨i, hi', hs⟩ := Option.map_eq_some_iff.1 hn
  have hl : P.arrayLen T = len := by simp [Program.arrayLen, hT]
  have he : P.elem T = e := by simp [Program.elem, hT]
  have hsz : (sizeOf e).run P w = .ok n w := by simp [sizeOf, typeInfo, hi', hs]
  have := run_sliceAt_array_l (P := P) w T ⟨b, off, none⟩ (by rw [hT, hl, he]) .i64 (lo : Int) (by omega) (by rw [hl]; omega)
  rw [he, hsz, Result.andThen_ok, hl] at this
  unfold execOp; rw [ho]
  simp only [hx, hy, Option.map_none, Option.map_some, Sem.run_bind, this, Result.andThen_ok]
  simp only [slicedAt, Int.toNat_natCast, slO]
  split <;> simp [Addr.add_mid]
theorem run_copy_rowN (w : World) (dT sT ty elem : TypeId) (n g o dLen dCap : Nat) (a : Addr) (sLen sCap : Nat) (cur : Array Value) (t : TypeId) (cs : List Value)
    (hu : P.underlying dT = some (.slice elem)) (hs : (P.info? elem).map (·.size) = some n)
    (hg : w.heap[g]? = some (.cells cur t (0, 0))) (hn : cs.length = Nat.min sLen dLen * n)
    (hsrc : ∀ j v, cs[j]? = some v → w.cell? (a.add j) = some v) (hfit : o + cs.length ≤ cur.size) (h1 : ∀ v ∈ cs, v.oneCell' = true) :
    (Builtin.copy_ #[dT, sT] ty #[.slice (some ⟨g, o, none⟩) dLen dCap, .slice (some a) sLen sCap]).run P w =
      .ok (goInt (Nat.min sLen dLen)) (w.setRow g (cur.toList.take o ++ cs ++ cur.toList.drop (o + cs.length)).toArray) := by
  have hl := run_loadCells_list (P := P) w a cs hsrc
  have hst := run_storeCells_at P g o t cs 0 cur w hg (by simpa using hfit) h1
  cases hq : P.info? elem with
  | none => simp [hq] at hs
  | some i =>
    have hi : i.size = n := by simpa [hq] using hs
    simp [Builtin.copy_, run_underlying hu, Builtin.lenOf, Builtin.firstCells, sizeOf, typeInfo, hq, hi, ← hn, hl, hst]
variable {ops : Array Oper} {Q : Exit → Act → World → Prop} {rest : List Oper}
theorem wl_copyAA (H : Own w0 S R L w) (i : Nat) {dst : Option Tmp} {x y : Operand} {T T' ty : TypeId} {pos : String} {after : Array Edge} {guard : Option (Nat × Bool)}
    (hw : Region.wanted { dst, op := .call { callee := .builtin .copy, args := #[x, y], argTypes := #[T, T'] }, type := ty, pos, after, guard } (yielded ops a.tmps) = true)
    {e : Nat} (hT : P.underlying T = some (.slice e)) {k : Nat} (hs : (P.info? e).map (·.size) = some k) {b : Nat} {l : List UInt8} {E : TypeId} (hi : L[i]? = some (.blk b (.cells (enc l).toArray E (0, 0)))) {off n c : Nat} (hx : a.eval x = .slice (some ⟨b, off, none⟩) n c)
    {so m c' : Nat} (hy : a.eval y = .slice (some ⟨b, so, none⟩) m c') (q : Nat) (hq : min m n = q) (hfit : off + q * k ≤ l.length ∧ so + q * k ≤ l.length)
    (h : ∀ w', Own w0 S R (L.set i (.blk b (.cells (enc (l.take off ++ (l.drop so).take (q * k) ++ l.drop (off + q * k))).toArray E (0, 0)))) w' → wpList P ops Q rest (a.put dst (iv (q : Int))) w') :
    wpList P ops Q ({ dst, op := .call { callee := .builtin .copy, args := #[x, y], argTypes := #[T, T'] }, type := ty, pos, after, guard } :: rest) a w := by
  have hb := H.blk hi
  have hlen : ((l.drop so).take (q * k)).length = q * k := by simp; omega
  have hmin : Nat.min m n = q := hq
  have hr := run_copy_rowN (P := P) w T T' ty e k b off n c ⟨b, so, none⟩ m c' (enc l).toArray E (enc ((l.drop so).take (q * k))) hT hs hb (by rw [enc_length, hlen, hmin]) (fun j v hv => by
    have hj : j < ((l.drop so).take (q * k)).length := by have := (List.getElem?_eq_some_iff.1 hv).1; simpa using this
    rw [enc_get hj] at hv
    cases hv
    have hj2 : so + j < l.length := by omega
    have e1 : ((l.drop so).take (q * k)).getD j 0 = l.getD (so + j) 0 := by
      simp [List.getD, List.getElem?_take, List.getElem?_drop, show j < q * k by omega]
    rw [Addr.add_mid, e1]
    have := enc_get hj2
    simp only [World.cell?, hb, List.getElem?_toArray, this]
    rfl) (by rw [enc_length, hlen]; simp; omega) (fun v hv => enc_one v hv)
  rw [enc_length, hlen, hmin] at hr
  refine wl_run (v := iv (q : Int)) hw ?_ (h _ (H.setBlk hi (w' := w.setRow b ((enc l).toArray.toList.take off ++ enc ((l.drop so).take (q * k)) ++ (enc l).toArray.toList.drop (off + q * k)).toArray) ⟨rfl, rfl, rfl, by simp, fun c' _ hne => setRow_other w b c' _ (by simpa using hne)⟩ (by
    rw [setRow_heap w b _ _ E (0, 0) hb]
    simp only [enc_take, enc_drop, enc_append, List.toList_toArray])))
  rw [BigFrame.execOp_builtin, BigFrame.builtin_copy]
  rw [show (#[x, y].map a.eval) = #[a.eval x, a.eval y] by simp, hx, hy]
  simp only [Sem.run_bind, hr, Result.andThen_ok]
  rfl
theorem wl_copySS (H : Own w0 S R L w) (i : Nat) {dst : Option Tmp} {x y : Operand} {T T' ty : TypeId} {pos : String} {after : Array Edge} {guard : Option (Nat × Bool)}
    (hw : Region.wanted { dst, op := .call { callee := .builtin .copy, args := #[x, y], argTypes := #[T, T'] }, type := ty, pos, after, guard } (yielded ops a.tmps) = true)
    {e : Nat} (hT : P.underlying T = some (.slice e)) {k : Nat} (hs : (P.info? e).map (·.size) = some k) {b : Nat} {l : List UInt8} {E : TypeId} (hi : L[i]? = some (.blk b (.cells (enc l).toArray E (0, 0)))) {off lo len n c : Nat} (hx : a.eval x = .slice (some ⟨b, slO off lo len k, none⟩) n c)
    {off' lo' len' m c' : Nat} (hy : a.eval y = .slice (some ⟨b, slO off' lo' len' k, none⟩) m c') (q : Nat) (hq : min m n = q) (hlo : n ≤ len - lo ∧ m ≤ len' - lo') (hfit : off + lo * k + q * k ≤ l.length ∧ off' + lo' * k + q * k ≤ l.length ∧ off + len * k ≤ l.length ∧ off' + len' * k ≤ l.length)
    (h : ∀ w', Own w0 S R (L.set i (.blk b (.cells (enc (l.take (off + lo * k) ++ (l.drop (off' + lo' * k)).take (q * k) ++ l.drop (off + lo * k + q * k))).toArray E (0, 0)))) w' → wpList P ops Q rest (a.put dst (iv (q : Int))) w') :
    wpList P ops Q ({ dst, op := .call { callee := .builtin .copy, args := #[x, y], argTypes := #[T, T'] }, type := ty, pos, after, guard } :: rest) a w := by
  rcases Nat.eq_zero_or_pos q with h0 | h0
  · subst h0
    have e1 : ∀ o o' : Nat, l.take o ++ (l.drop o').take (0 * k) ++ l.drop (o + 0 * k) = l := fun o o' => by simp
    refine wl_copyAA H i hw hT hs hi hx hy 0 hq ⟨?_, ?_⟩ fun w' H' => h w' ?_
    · simp only [slO]; split <;> simp <;> omega
    · simp only [slO]; split <;> simp <;> omega
    · rw [e1] at H' ⊢; exact H'
  · rw [slO_lt (by omega)] at hx
    rw [slO_lt (by omega)] at hy
    exact wl_copyAA H i hw hT hs hi hx hy q hq ⟨by omega, by omega⟩ h
end
end Go.Proofs.YtimonjemjhecoaaGreatDoor
