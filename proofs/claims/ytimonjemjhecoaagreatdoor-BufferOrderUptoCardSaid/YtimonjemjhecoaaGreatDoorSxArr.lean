/- Arrays of bytes by value, parts of arrays, copy. No program in sight. -/
import Derived.Test.YtimonjemjhecoaaGreatDoorDec
import Derived.Laws.CopyRow
import Derived.Laws.IdiomCopy
namespace Go.Proofs.YtimonjemjhecoaaGreatDoor
open Go.RowKit
open Go
section
variable {P : Program} {ops : Array Oper} {rest : List Oper} {o : Oper} {a : Act} {w w0 : World} {Q : Exit → Act → World → Prop} {S : List Nat} {R : List (World → Prop)} {L : List Res}
theorem rp_index_enc1 {T : TypeId} {x ix : Operand} (ho : o.op = .index T x ix) {len e : Nat} (hT : P.underlying T = some (.array len e)) (hn : (P.info? e).map (·.size) = some 1) {d : TypeDesc} (hu : P.underlying e = some d) (hd : oneCellType d = true)
    {l : List UInt8} (hx : a.eval x = .agg (enc l).toArray) {kd : IntKind} (k : Nat) (hk : a.eval ix = .int kd (k : Int)) (hlt : k < len ∧ k < l.length) :
    (execOp a.eval o).run P w = .ok (.value (bv (l.getD k 0))) w := by
  obtain ⟨i, hi, hs⟩ := Option.map_eq_some_iff.1 hn
  have hsz : (sizeOf e).run P w = .ok 1 w := by simp [sizeOf, typeInfo, hi, hs]
  have hagg : (isAgg e).run P w = .ok false w := by
    unfold isAgg
    rw [Sem.run_bind, run_underlying hu w]
    cases d <;> simp_all [oneCellType]
  unfold execOp; rw [ho]
  have hk2 : 0 ≤ (k : Int) ∧ (k : Int) < len := by omega
  simp only [hx, hk, Instr.index, asIntOf, Sem.run_bind, Sem.run_pure, run_underlying hT w, Result.andThen_ok, hk2, and_self, if_true, hsz, part, hagg, Bool.false_eq_true, if_false, Int.toNat_natCast, Nat.mul_one, List.getElem?_toArray, enc_get hlt.2]
theorem rp_index_encN {T : TypeId} {x ix : Operand} (ho : o.op = .index T x ix) {len e : Nat} (hT : P.underlying T = some (.array len e)) {n : Nat} (hn : (P.info? e).map (·.size) = some n) {d : TypeDesc} (hu : P.underlying e = some d) (hd : d.isRow = true)
    {l : List UInt8} (hx : a.eval x = .agg (enc l).toArray) {kd : IntKind} (k : Nat) (hk : a.eval ix = .int kd (k : Int)) (hlt : k < len) :
    (execOp a.eval o).run P w = .ok (.value (.agg (enc ((l.drop (k * n)).take n)).toArray)) w := by
  obtain ⟨i, hi, hs⟩ := Option.map_eq_some_iff.1 hn
  have hsz : (sizeOf e).run P w = .ok n w := by simp [sizeOf, typeInfo, hi, hs]
  have hagg : (isAgg e).run P w = .ok true w := by
    unfold isAgg
    rw [Sem.run_bind, run_underlying hu w]
    cases d <;> simp_all [TypeDesc.isRow]
  unfold execOp; rw [ho]
  have hk2 : 0 ≤ (k : Int) ∧ (k : Int) < len := by omega
  simp only [hx, hk, Instr.index, asIntOf, Sem.run_bind, Sem.run_pure, run_underlying hT w, Result.andThen_ok, hk2, and_self, if_true, hsz, part, hagg, Int.toNat_natCast, List.extract_toArray, List.extract_eq_take_drop, enc_drop, enc_take, Nat.add_sub_cancel_left]
theorem rp_slice_arr {T : TypeId} {x : Operand} (ho : o.op = .slice T x none none none) {len e : Nat} (hT : P.underlying T = some (.array len e)) {n : Nat} (hn : (P.info? e).map (·.size) = some n) {b off : Nat} (hx : a.eval x = .pointer (some ⟨b, off, none⟩)) :
    (execOp a.eval o).run P w = .ok (.value (.slice (some ⟨b, off, none⟩) len len)) w := by
  obtain ⟨i, hi', hs⟩ := Option.map_eq_some_iff.1 hn
  have hl : P.arrayLen T = len := by simp [Program.arrayLen, hT]
  have he : P.elem T = e := by simp [Program.elem, hT]
  have hsz : (sizeOf e).run P w = .ok n w := by simp [sizeOf, typeInfo, hi', hs]
  have := run_sliceAt_array_all (P := P) w T ⟨b, off, none⟩ (by rw [hT, hl, he])
  rw [he, hsz, Result.andThen_ok, hl] at this
  unfold execOp; rw [ho]
  simp only [hx, Option.map_none, Sem.run_bind, this, Result.andThen_ok]
  simp [slicedAt, Addr.add_mid]
theorem wl_copyB (H : Own w0 S R L w) (i : Nat) {dst : Option Tmp} {x y : Operand} {T T' ty : TypeId} {pos : String} {after : Array Edge} {guard : Option (Nat × Bool)}
    (hw : Region.wanted { dst, op := .call { callee := .builtin .copy, args := #[x, y], argTypes := #[T, T'] }, type := ty, pos, after, guard } (yielded ops a.tmps) = true)
    {e : Nat} (hT : P.underlying T = some (.slice e)) (hs : (P.info? e).map (·.size) = some 1) {b : Nat} {l : List UInt8} {E : TypeId} (hi : L[i]? = some (.blk b (.cells (enc l).toArray E (0, 0)))) {off n c : Nat} (hx : a.eval x = .slice (some ⟨b, off, none⟩) n c)
    {s : Sl UInt8} (hsl : SlIn 1 eByte s w) (hy : a.eval y = s.val) (hfit : off + n ≤ l.length)
    (h : ∀ w', Own w0 S R (L.set i (.blk b (.cells (enc (l.take off ++ s.l.take n ++ l.drop (off + (s.l.take n).length))).toArray E (0, 0)))) w' → wpList P ops Q rest (a.put dst (iv ((s.l.take n).length : Int))) w') :
    wpList P ops Q ({ dst, op := .call { callee := .builtin .copy, args := #[x, y], argTypes := #[T, T'] }, type := ty, pos, after, guard } :: rest) a w := by
  have hb := H.blk hi
  have hlen : (s.l.take n).length = min s.l.length n := by simp [Nat.min_comm]
  have hrun : ∃ w', (Builtin.copy_ #[T, T'] ty #[.slice (some ⟨b, off, none⟩) n c, s.val]).run P w = .ok (goInt (s.l.take n).length) w' ∧ Chg [b] w w' ∧ w'.heap[b]? = some (.cells (enc (l.take off ++ s.l.take n ++ l.drop (off + (s.l.take n).length))).toArray E (0, 0)) := by
    rcases Nat.eq_zero_or_pos (s.l.take n).length with h0 | h0
    · have h1 : s.l.take n = [] := List.eq_nil_of_length_eq_zero h0
      refine ⟨w, ?_, ⟨rfl, rfl, rfl, Nat.le_refl _, fun _ _ _ => rfl⟩, ?_⟩
      · rw [h0]
        exact run_copy_none w T T' ty e _ _ _ _ _ _ hT hs (by show min s.l.length n = 0; rw [← hlen]; exact h0)
      · rw [h1]; simpa using hb
    · have hpos : 0 < s.l.length ∧ 0 < n := by rw [hlen] at h0; omega
      have had := (hsl.1 0 hpos.1).1
      have hr := run_copy_row (P := P) w T T' ty e b off n c ⟨s.blk, s.off, none⟩ s.l.length s.cap (enc l).toArray E (enc (s.l.take n)) hT hs hb (by rw [enc_length, hlen]) (fun j v hv => by
        have hj : j < (s.l.take n).length := by have := (List.getElem?_eq_some_iff.1 hv).1; simpa using this
        rw [enc_get hj] at hv
        have hj2 : j < s.l.length := by rw [hlen] at hj; omega
        have hjn : j < n := by rw [hlen] at hj; omega
        have h2 := (hsl.1 j hj2).2 0 (bv (s.l.getD j default)) rfl
        rw [Addr.add_mid]
        have e1 : (s.l.take n).getD j 0 = s.l.getD j default := by (simp [List.getD, List.getElem?_take, hjn]; try rfl)
        rw [e1] at hv
        cases hv
        simpa using h2) (by rw [enc_length, hlen]; simp; omega) (fun v hv => enc_one v hv)
      rw [enc_length] at hr
      refine ⟨_, (by rw [show s.val = .slice (some ⟨s.blk, s.off, none⟩) s.l.length s.cap by rw [Sl.val, ← had]]; exact hr : _ = Result.ok _ (w.setRow b ((enc l).toArray.toList.take off ++ enc (s.l.take n) ++ (enc l).toArray.toList.drop (off + (s.l.take n).length)).toArray)), ⟨rfl, rfl, rfl, by simp, fun c' _ hne => setRow_other w b c' _ (by simpa using hne)⟩, ?_⟩
      rw [setRow_heap w b _ _ E (0, 0) hb]
      simp only [enc_take, enc_drop, enc_append, List.toList_toArray]
  obtain ⟨w', hr, hc, hb'⟩ := hrun
  refine wl_run (w' := w') (v := iv ((s.l.take n).length : Int)) hw ?_ (h w' (H.setBlk hi hc hb'))
  rw [BigFrame.execOp_builtin, BigFrame.builtin_copy]
  rw [show (#[x, y].map a.eval) = #[a.eval x, a.eval y] by simp, hx, hy]
  simp only [Sem.run_bind, hr, Result.andThen_ok]
  rfl
end
theorem len6 {l : List UInt8} (h : l.length = 6) : ∃ a b c d e f, l = [a, b, c, d, e, f] := by
  match l, h with
  | [a, b, c, d, e, f], _ => exact ⟨a, b, c, d, e, f, rfl⟩
end Go.Proofs.YtimonjemjhecoaaGreatDoor
