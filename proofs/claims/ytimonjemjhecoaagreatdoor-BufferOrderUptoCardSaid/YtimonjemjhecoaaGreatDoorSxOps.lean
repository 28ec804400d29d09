/- The steps of a walk over what it owns: boxes, loads, stores, calls, and regions that draw their order. No program in sight. -/
import Derived.Test.YtimonjemjhecoaaGreatDoorSx
namespace Go.Proofs.YtimonjemjhecoaaGreatDoor
open Go.RowKit
open Go
section
variable {P : Program} {ops : Array Oper} {rest : List Oper} {o : Oper} {a : Act} {w w0 : World} {Q : Exit → Act → World → Prop} {S : List Nat} {R : List (World → Prop)} {L : List Res}

theorem wl_run {v : Value} {w' : World} (hw : Region.wanted o (yielded ops a.tmps) = true) (hrun : (execOp a.eval o).run P w = .ok (.value v) w')
    (h : wpList P ops Q rest (a.put o.dst v) w') : wpList P ops Q (o :: rest) a w :=
  wpList_step fun K hK => by
    rw [if_pos hw]
    unfold Oper.wp
    rw [hrun, Oper.upon_value]
    exact hK _ _ h

theorem wl_runS {w' : World} (hw : Region.wanted o (yielded ops a.tmps) = true) (hrun : (execOp a.eval o).run P w = .ok .skip w')
    (h : wpList P ops Q rest (a.put o.dst undef) w') : wpList P ops Q (o :: rest) a w :=
  wpList_step fun K hK => by
    rw [if_pos hw]
    unfold Oper.wp
    rw [hrun, Oper.upon_skip]
    exact hK _ _ h

theorem run_box (T : TypeId) (x : Operand) (ho : o.op = .box T x) (w : World) : (execOp a.eval o).run P w = .ok (.value (.pointer (some ⟨w.heap.size, 0, none⟩))) (w.alloc (.cells (a.eval x).cells T)) := by
  unfold execOp
  rw [ho]
  rfl

theorem wl_box (H : Own w0 S R L w) {T : TypeId} {x : Operand} (ho : o.op = .box T x) (hw : Region.wanted o (yielded ops a.tmps) = true) {v : Value} (hx : a.eval x = v)
    (h : ∀ b w', w0.heap.size ≤ b → Own w0 S R (.blk b (.cells v.cells T) :: L) w' → wpList P ops Q rest (a.put o.dst (.pointer (some ⟨b, 0, none⟩))) w') : wpList P ops Q (o :: rest) a w := by
  subst hx
  exact wl_run hw (run_box T x ho w) (h _ _ H.size (H.alloc _))

theorem run_allocOp (T : TypeId) (ho : o.op = .alloc T) {z : Value} (hz : (P.info? T).bind (·.zero) = some z) (w : World) :
    (execOp a.eval o).run P w = .ok (.value (.pointer (some ⟨w.heap.size, 0, none⟩))) (w.alloc (.cells z.cells T)) := by
  obtain ⟨i, hi, hzz⟩ := Option.bind_eq_some_iff.1 hz
  unfold execOp
  rw [ho]
  have hzv : (zeroValue T).run P w = .ok z w := by simp [zeroValue, typeInfo, hi, hzz]
  simp only [Instr.alloc, Sem.run_bind, hzv, Result.andThen_ok]
  rfl

theorem wl_alloc (H : Own w0 S R L w) {T : TypeId} (ho : o.op = .alloc T) (hw : Region.wanted o (yielded ops a.tmps) = true) {z : Value} (hz : (P.info? T).bind (·.zero) = some z)
    (h : ∀ b w', w0.heap.size ≤ b → Own w0 S R (.blk b (.cells z.cells T) :: L) w' → wpList P ops Q rest (a.put o.dst (.pointer (some ⟨b, 0, none⟩))) w') : wpList P ops Q (o :: rest) a w :=
  wl_run hw (run_allocOp T ho hz w) (h _ _ H.size (H.alloc _))

def oneCellType : TypeDesc → Bool
  | .struct _ | .array _ _ => false
  | _ => true

theorem run_load1 {t : TypeId} {x : Operand} (ho : o.op = .load t x) {d : TypeDesc} (hu : P.underlying t = some d) (hd : oneCellType d = true)
    {b off : Nat} (hx : a.eval x = .pointer (some ⟨b, off, none⟩)) {v : Value} (hv : w.cell? ⟨b, off, none⟩ = some v) : (execOp a.eval o).run P w = .ok (.value v) w := by
  unfold execOp
  rw [ho]
  have hagg : (isAgg t).run P w = .ok false w := by
    unfold isAgg
    rw [Sem.run_bind, run_underlying hu w]
    cases d <;> simp_all [oneCellType]
  simp only [hx, Instr.loadAt, Instr.sureAddr, Sem.run_bind, Sem.run_pure, Result.andThen_ok, loadVar, hagg, Bool.false_eq_true, if_false, run_load, hv]

theorem run_loadN {t : TypeId} {x : Operand} (ho : o.op = .load t x) {d : TypeDesc} (hu : P.underlying t = some d) (hd : d.isRow = true)
    {b off : Nat} (hx : a.eval x = .pointer (some ⟨b, off, none⟩)) {cs : List Value} (hi : (P.info? t).map (·.size) = some cs.length) (hv : w.rangeAt b off cs) :
    (execOp a.eval o).run P w = .ok (.value (.agg cs.toArray)) w := by
  unfold execOp
  rw [ho]
  simp only [hx, run_loadAt_mid w b off t cs d hv hu hd hi, Sem.run_bind, Result.andThen_ok]
  rfl

theorem Own.cell1 (H : Own w0 S R L w) {i b off : Nat} {cs : Array Value} {T : TypeId} {fr : Nat × Nat} (hi : L[i]? = some (.blk b (.cells cs T fr))) {v : Value} (hv : cs[off]? = some v) : w.cell? ⟨b, off, none⟩ = some v := by
  rw [cell_of_row w b off cs T fr (H.blk hi)]; exact hv

theorem Own.range (H : Own w0 S R L w) {i b off n : Nat} {cs : Array Value} {T : TypeId} {fr : Nat × Nat} (hi : L[i]? = some (.blk b (.cells cs T fr))) :
    w.rangeAt b off ((cs.toList.drop off).take n) := by
  intro j v hv
  rw [cell_of_row w b (off + j) cs T fr (H.blk hi)]
  rw [List.getElem?_take] at hv
  split at hv
  · rw [List.getElem?_drop] at hv; simpa using hv
  · cases hv

theorem run_store1 {t : TypeId} {x y : Operand} (ho : o.op = .store t x y) {b off : Nat} (hx : a.eval x = .pointer (some ⟨b, off, none⟩)) {v : Value} (hy : a.eval y = v) (h1 : v.oneCell' = true)
    (hn : (P.info? t).map (·.size) = some 1) {cs : Array Value} {T : TypeId} (hb : w.heap[b]? = some (.cells cs T (0, 0))) (hoff : off < cs.size) :
    (execOp a.eval o).run P w = .ok .skip (w.setCell ⟨b, off, none⟩ v) := by
  unfold execOp
  rw [ho]
  have hc : v.cells = #[v] := by cases v <;> first | rfl | cases h1
  obtain ⟨i, hi, hs⟩ := Option.map_eq_some_iff.1 hn
  have hcell : w.cell? ⟨b, off, none⟩ = some cs[off] := by rw [cell_of_row w b off cs T (0, 0) hb]; simp [hoff]
  have hfro : w.frozen? ⟨b, off, none⟩ = false := by simp [World.frozen?, hb]
  have hadd : (⟨b, off, none⟩ : Addr).add 0 = ⟨b, off, none⟩ := rfl
  have hsz : (sizeOf t).run P w = .ok 1 w := by simp [sizeOf, typeInfo, hi, hs]
  have hst : (storeVar t ⟨b, off, none⟩ v).run P w = .ok () (w.setCell ⟨b, off, none⟩ v) := by
    simp [storeVar, Sem.run_bind, hsz, hc, storeCells, hadd, run_store P w _ v _ h1, hcell, hfro]
  simp only [hx, hy, Instr.storeAt, Instr.sureAddr, Sem.run_bind, Sem.run_pure, Result.andThen_ok, hst]

theorem wl_store1 (H : Own w0 S R L w) (i : Nat) {t : TypeId} {x y : Operand} (ho : o.op = .store t x y) (hw : Region.wanted o (yielded ops a.tmps) = true)
    {b off : Nat} (hx : a.eval x = .pointer (some ⟨b, off, none⟩)) {cs : Array Value} {T : TypeId} (hi : L[i]? = some (.blk b (.cells cs T (0, 0))))
    {v : Value} (hy : a.eval y = v) (h1 : v.oneCell' = true) (hn : (P.info? t).map (·.size) = some 1) (hoff : off < cs.size)
    (h : ∀ w', Own w0 S R (L.set i (.blk b (.cells (cs.setIfInBounds off v) T (0, 0)))) w' → wpList P ops Q rest (a.put o.dst undef) w') : wpList P ops Q (o :: rest) a w :=
  wl_runS hw (run_store1 ho hx hy h1 hn (H.blk hi) hoff) (h _ (H.setCell hi v))

theorem run_storeN {t : TypeId} {x y : Operand} (ho : o.op = .store t x y) {b off : Nat} (hx : a.eval x = .pointer (some ⟨b, off, none⟩)) {vs : Array Value} (hy : a.eval y = .agg vs) (h1 : ∀ v ∈ vs.toList, v.oneCell' = true)
    (hn : (P.info? t).map (·.size) = some vs.size) {cs : Array Value} {T : TypeId} (hb : w.heap[b]? = some (.cells cs T (0, 0))) (hoff : off + vs.size ≤ cs.size) :
    (execOp a.eval o).run P w = .ok .skip (w.setRow b (cs.toList.take off ++ vs.toList ++ cs.toList.drop (off + vs.size)).toArray) := by
  unfold execOp
  rw [ho]
  obtain ⟨i, hi, hs⟩ := Option.map_eq_some_iff.1 hn
  have hst := run_storeCells_at P b off T vs.toList 0 cs w hb (by simpa using hoff) h1
  simp only [Nat.add_zero, Array.length_toList] at hst
  have hsz : (sizeOf t).run P w = .ok vs.size w := by simp [sizeOf, typeInfo, hi, hs]
  have hst2 : (storeVar t ⟨b, off, none⟩ (.agg vs)).run P w = .ok () (w.setRow b (cs.toList.take off ++ vs.toList ++ cs.toList.drop (off + vs.size)).toArray) := by
    simp [storeVar, Sem.run_bind, hsz, Value.cells, hst]
  simp only [hx, hy, Instr.storeAt, Instr.sureAddr, Sem.run_bind, Sem.run_pure, Result.andThen_ok, hst2]

theorem wl_storeN (H : Own w0 S R L w) (i : Nat) {t : TypeId} {x y : Operand} (ho : o.op = .store t x y) (hw : Region.wanted o (yielded ops a.tmps) = true)
    {b off : Nat} (hx : a.eval x = .pointer (some ⟨b, off, none⟩)) {cs : Array Value} {T : TypeId} (hi : L[i]? = some (.blk b (.cells cs T (0, 0))))
    {vs : Array Value} (hy : a.eval y = .agg vs) (h1 : ∀ v ∈ vs.toList, v.oneCell' = true) (hn : (P.info? t).map (·.size) = some vs.size) (hoff : off + vs.size ≤ cs.size)
    (h : ∀ w', Own w0 S R (L.set i (.blk b (.cells (cs.toList.take off ++ vs.toList ++ cs.toList.drop (off + vs.size)).toArray T (0, 0)))) w' → wpList P ops Q rest (a.put o.dst undef) w') : wpList P ops Q (o :: rest) a w :=
  wl_runS hw (run_storeN ho hx hy h1 hn (H.blk hi) hoff) (h _ (H.setRow hi _))

theorem wp_region_own {id : Nat} {l : List Oper} (H : Own w0 S R L w) (hm : P.follows .mixedOrders = true) (hB : Region.lexB .any l.toArray = true)
    (h : wpQuiet P l.toArray (Own w0 S R L) (fun a' => ∀ w', Own w0 S R L w' → Q .normal a' w') l a) : (Code.region id l.toArray true).wp P Q a w :=
  wp_region_quiet (C := Own w0 S R L) hm hB H.drew (by simpa using h)

variable {C : World → Prop} {K : Act → Prop} {QQ : Act → Prop}

theorem wq_run {v : Value} (hw : Region.wanted o (yielded ops a.tmps) = true) (hrun : ∀ w, C w → (execOp a.eval o).run P w = .ok (.value v) w)
    (h : wpQuiet P ops C QQ rest (a.put o.dst v)) : wpQuiet P ops C QQ (o :: rest) a := by
  unfold wpQuiet
  rw [if_pos hw]
  exact ⟨v, fun w hC => by unfold Oper.quietAt; rw [hrun w hC]; exact ⟨rfl, rfl⟩, h⟩

theorem wq_call {f : FuncId} {args : Array Value} (hw : Region.wanted o (yielded ops a.tmps) = true) (hrun : ∀ w, (execOp a.eval o).run P w = .ok (.enter f args) w) {v : Value}
    (hc : ∀ w, Own w0 S R L w → Calls P f args w fun e w' => e = .returned v ∧ Ext w w')
    (h : wpQuiet P ops (Own w0 S R L) QQ rest (a.put o.dst v)) : wpQuiet P ops (Own w0 S R L) QQ (o :: rest) a := by
  unfold wpQuiet
  rw [if_pos hw]
  refine ⟨v, fun w hC => ?_, h⟩
  unfold Oper.quietAt
  rw [hrun w]
  exact ⟨rfl, (hc w hC).mono fun e w' ⟨he, hE⟩ => ⟨he, hC.step hE⟩⟩

theorem wq_skip (hw : Region.wanted o (yielded ops a.tmps) = false) (h : wpQuiet P ops C QQ rest (a.put o.dst undef)) : wpQuiet P ops C QQ (o :: rest) a := by
  unfold wpQuiet
  rw [hw]
  exact h

theorem wq_nil (h : QQ a) : wpQuiet P ops C QQ [] a := h

theorem run_callGo {dst : Option Tmp} {f : FuncId} {xs : Array Operand} {ats : Array TypeId} {ty : TypeId} {pos : String} {after : Array Edge} {guard : Option (Nat × Bool)} {fn : Func} {c : Code}
    (hf : P.funcs[f]? = some fn) (hn : (fn.name == "runtime.NumGoroutine") = false) (hb : fn.body = some c) (w : World) :
    (execOp a.eval { dst, op := .call { callee := .value (.func f), args := xs, argTypes := ats }, type := ty, pos, after, guard }).run P w = .ok (.enter f (xs.map a.eval)) w := by
  rw [execOp_call_go]
  simp only [callFunc, program, Sem.run_bind]
  simp [Sem.run, hf, hb]
  simpa using hn
end
section
variable {P : Program} {o : Oper} {a : Act} {ops : Array Oper} {rest : List Oper} {Q : Exit → Act → World → Prop} {w w' : World} {v : Value}
theorem wsr {id : Nat} {l : List Oper} {y : Code} (h : wpList P l.toArray (Exit.then (y.wp P Q) Q) l a w) : (Code.seq (Code.region id l.toArray false) y).wp P Q a w := wp_seq (wp_region_lit h)
theorem wnr {id : Nat} {l : List Oper} {y : Code} {Q2 : Exit → Act → World → Prop} (h : wpList P l.toArray (Exit.then (y.wp P Q) Q) l a w) : wpList P ops (Exit.then ((Code.seq (Code.region id l.toArray false) y).wp P Q) Q2) [] a w := wpList_nil (wsr h)
abbrev uU : Value := undef
theorem wmv {x : Operand} (v : Value) (h : wpList P ops Q rest (a.put o.dst v) w) (ho : o.op = .move x := by rfl) (hx : a.eval x = v := by rfl) (hw : Region.wanted o (yielded ops a.tmps) = true := by rfl) : wpList P ops Q (o :: rest) a w :=
  wl_run hw (by subst hx; unfold execOp; rw [ho]; rfl) h
theorem wasg {x : Operand} (v : Value) (h : wpList P ops Q rest (a.put o.dst v) w) (ho : o.op = .assign x := by rfl) (hx : a.eval x = v := by rfl) (hw : Region.wanted o (yielded ops a.tmps) = true := by rfl) : wpList P ops Q (o :: rest) a w :=
  wl_run hw (by subst hx; unfold execOp; rw [ho]; rfl) h
theorem wr (hrun : (execOp a.eval o).run P w = .ok (.value v) w') (h : wpList P ops Q rest (a.put o.dst v) w') (hw : Region.wanted o (yielded ops a.tmps) = true := by rfl) : wpList P ops Q (o :: rest) a w := wl_run hw hrun h
end
end Go.Proofs.YtimonjemjhecoaaGreatDoor
