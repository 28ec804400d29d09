/- Calls under a contract, what a call hands back, and slices that are only read. No program in sight. -/
import Derived.Test.YtimonjemjhecoaaGreatDoorSxPure
namespace Go.Proofs.YtimonjemjhecoaaGreatDoor
open Go.RowKit
open Go
section
variable {P : Program} {ops : Array Oper} {rest : List Oper} {o : Oper} {a : Act} {w w0 : World} {Q : Exit → Act → World → Prop} {S : List Nat} {R : List (World → Prop)} {L : List Res}

theorem Own.ro_at (H : Own w0 S R L w) (i : Nat) {φ : World → Prop} (h : R[i]? = some φ) : φ w := H.get (List.mem_of_getElem? h)

theorem Own.start_blks (w : World) (l : List (Nat × Obj)) (h : ∀ x ∈ l, w.heap[x.1]? = some x.2) : Own w [] (l.map fun x w' => w'.heap[x.1]? = some x.2) [] w :=
  Own.start_ro w _ (fun φ hφ w' hw => by
    obtain ⟨x, hx, rfl⟩ := List.mem_map.1 hφ
    have := h x hx
    exact (hw _ (Array.getElem?_eq_some_iff.1 this).1).trans this)

theorem rp_load1ro (H : Own w0 S R L w) (i : Nat) {t : TypeId} {x : Operand} (ho : o.op = .load t x)
    {b off : Nat} (hx : a.eval x = .pointer (some ⟨b, off, none⟩)) {cs : Array Value} {T : TypeId} {fr : Nat × Nat} (hi : R[i]? = some (fun w => w.heap[b]? = some (.cells cs T fr)))
    {d : TypeDesc} (hu : P.underlying t = some d) (hd : oneCellType d = true) {v : Value} (hv : cs[off]? = some v) : (execOp a.eval o).run P w = .ok (.value v) w :=
  run_load1 ho hu hd hx (by rw [cell_of_row w b off cs T fr (H.ro_at i hi)]; exact hv)

theorem rc_go {dst : Option Tmp} {f : FuncId} {l : List Operand} {ats : Array TypeId} {ty : TypeId} {pos : String} {after : Array Edge} {guard : Option (Nat × Bool)} {fn : Func} {c : Code}
    (hf : P.funcs[f]? = some fn) (hn : (fn.name == "runtime.NumGoroutine") = false) (hb : fn.body = some c) (w : World) :
    (execOp a.eval { dst, op := .call { callee := .value (.func f), args := l.toArray, argTypes := ats }, type := ty, pos, after, guard }).run P w = .ok (.enter f (l.map a.eval).toArray) w := by
  rw [run_callGo hf hn hb w, List.map_toArray]

theorem rc_fn {dst : Option Tmp} {f : FuncId} {x : Operand} {l : List Operand} {ats : Array TypeId} {ty : TypeId} {pos : String} {after : Array Edge} {guard : Option (Nat × Bool)} {fn : Func} {c : Code} {first captured : List Value}
    (hx : a.eval x = .func (.func f) first.toArray captured.toArray)
    (hf : P.funcs[f]? = some fn) (hn : (fn.name == "runtime.NumGoroutine") = false) (hb : fn.body = some c) (w : World) :
    (execOp a.eval { dst, op := .call { callee := .value x, args := l.toArray, argTypes := ats }, type := ty, pos, after, guard }).run P w = .ok (.enter f (first ++ l.map a.eval ++ captured).toArray) w := by
  unfold execOp
  simp only [resolve, hx, Deferred.ofValue, List.map_toArray, List.append_toArray, Sem.run_bind, Sem.run_pure, Result.andThen_ok, invoke, callFunc, program]
  simp [Sem.run, hf, hb]
  simpa using hn

theorem rp_makeFuncL {fn : Fn} {fl cl : List Operand} (ho : o.op = .makeFunc fn fl.toArray cl.toArray) {fs cs : List Value} (hf : fl.map a.eval = fs) (hc : cl.map a.eval = cs) :
    (execOp a.eval o).run P w = .ok (.value (.func fn fs.toArray cs.toArray)) w :=
  rp_makeFunc ho (by rw [List.map_toArray, hf]) (by rw [List.map_toArray, hc])

theorem wl_callE (H : Own w0 S R L w) (hw : Region.wanted o (yielded ops a.tmps) = true) {f : FuncId} {args : Array Value} (hrun : ∀ w, (execOp a.eval o).run P w = .ok (.enter f args) w) {v : Value}
    (hc : Calls P f args w fun e w' => e = .returned v ∧ Ext w w')
    (h : ∀ w', Own w0 S R L w' → wpList P ops Q rest (a.put o.dst v) w') : wpList P ops Q (o :: rest) a w :=
  wpList_step fun K hK => by
    rw [if_pos hw]
    unfold Oper.wp
    rw [hrun, Oper.upon_enter]
    exact hc.mono fun e w' ⟨he, hE⟩ => by subst he; exact hK _ _ (h _ (H.step hE))

theorem wl_callP (H : Own w0 S R L w) (i : Nat) (hw : Region.wanted o (yielded ops a.tmps) = true) {f : FuncId} {args : Array Value} (hrun : ∀ w, (execOp a.eval o).run P w = .ok (.enter f args) w) {v : Value}
    {b : Nat} {ob ob' : Obj} (hi : L[i]? = some (.blk b ob))
    (hc : Calls P f args w fun e w' => e = .returned v ∧ Chg [b] w w' ∧ w'.heap[b]? = some ob')
    (h : ∀ w', Own w0 S R (L.set i (.blk b ob')) w' → wpList P ops Q rest (a.put o.dst v) w') : wpList P ops Q (o :: rest) a w :=
  wpList_step fun K hK => by
    rw [if_pos hw]
    unfold Oper.wp
    rw [hrun, Oper.upon_enter]
    exact hc.mono fun e w' ⟨he, hE, hb⟩ => by subst he; exact hK _ _ (h _ (H.setBlk hi hE hb))

theorem wl_callR (hw : Region.wanted o (yielded ops a.tmps) = true) {f : FuncId} {args : Array Value} (hrun : ∀ w, (execOp a.eval o).run P w = .ok (.enter f args) w) {Rr : Value → World → Prop}
    (hc : Calls P f args w fun e w' => ∃ v, e = .returned v ∧ Rr v w')
    (h : ∀ v w', Rr v w' → wpList P ops Q rest (a.put o.dst v) w') : wpList P ops Q (o :: rest) a w :=
  wpList_step fun K hK => by
    rw [if_pos hw]
    unfold Oper.wp
    rw [hrun, Oper.upon_enter]
    exact hc.mono fun e w' ⟨v, he, hE⟩ => by subst he; exact hK _ _ (h _ _ hE)

theorem wl_skip (hw : Region.wanted o (yielded ops a.tmps) = false) (h : wpList P ops Q rest (a.put o.dst undef) w) : wpList P ops Q (o :: rest) a w := by
  unfold wpList
  rw [hw]
  exact h

theorem unwanted {j : Nat} {want b : Bool} (hg : o.guard = some (j, want)) (hy : yielded ops a.tmps j = some b) (hb : b ≠ want) : Region.wanted o (yielded ops a.tmps) = false := by
  unfold Region.wanted
  simp only [hg, hy]
  cases b <;> cases want <;> simp_all
theorem unwanted0 {j : Nat} {want : Bool} (hg : o.guard = some (j, want)) (hy : yielded ops a.tmps j = none) : Region.wanted o (yielded ops a.tmps) = false := by
  unfold Region.wanted
  simp only [hg, hy]
  rfl

variable {m : Nat} {fuel : Nat} {listed : Array Bool} {N : List Res}
theorem xa_alloc {T : TypeId} (ho : o.op = .alloc T) {z : Value} (hz : (P.info? T).bind (·.zero) = some z) : xAlloc P o a (.cells z.cells T) (fun b => .pointer (some ⟨b, 0, none⟩)) := fun w => run_allocOp T ho hz w
theorem xs_whole {t : TypeId} {x y : Operand} (ho : o.op = .store t x y) {b : Nat} (hx : a.eval x = .pointer (some ⟨b, 0, none⟩)) {vs : Array Value} (hy : a.eval y = .agg vs) (h1 : ∀ v ∈ vs.toList, v.oneCell' = true)
    (hn : (P.info? t).map (·.size) = some vs.size) {cs : Array Value} {T : TypeId} (hcs : cs.size = vs.size) : xStore P o a b (.cells cs T (0, 0)) (.cells vs T (0, 0)) := fun w hb => by
  refine ⟨_, run_storeN ho hx hy h1 hn hb (by omega), ⟨rfl, rfl, rfl, by simp, fun c _ hne => setRow_other w b c _ (by simpa using hne)⟩, ?_⟩
  rw [setRow_heap w b cs _ T (0, 0) hb]
  have e : (cs.toList.take 0 ++ vs.toList ++ cs.toList.drop (0 + vs.size)).toArray = vs := by
    have : cs.toList.drop (0 + vs.size) = [] := by apply List.drop_eq_nil_of_le; simp; omega
    rw [this]; simp
  rw [e]
theorem xs_one {t : TypeId} {x y : Operand} (ho : o.op = .store t x y) {b : Nat} (hx : a.eval x = .pointer (some ⟨b, 0, none⟩)) {v : Value} (hy : a.eval y = v) (h1 : v.oneCell' = true)
    (hn : (P.info? t).map (·.size) = some 1) {u : Value} {T : TypeId} : xStore P o a b (.cells #[u] T (0, 0)) (.cells #[v] T (0, 0)) := fun w hb => by
  refine ⟨_, run_store1 ho hx hy h1 hn hb (by simp), ⟨rfl, rfl, rfl, by simp [World.setCell], fun c _ hne => Below.heap_setCell _ _ _ _ (by simpa using hne)⟩, ?_⟩
  rw [setCell_eq_setRow w b 0 _ T (0, 0) v hb, setRow_heap w b _ _ T (0, 0) hb]
  rfl

theorem wl_storeW (H : Own w0 S R L w) (i : Nat) {t : TypeId} {x y : Operand} (ho : o.op = .store t x y) (hw : Region.wanted o (yielded ops a.tmps) = true)
    {b : Nat} (hx : a.eval x = .pointer (some ⟨b, 0, none⟩)) {cs : Array Value} {T : TypeId} (hi : L[i]? = some (.blk b (.cells cs T (0, 0))))
    {vs : Array Value} (hy : a.eval y = .agg vs) (h1 : ∀ v ∈ vs.toList, v.oneCell' = true) (hn : (P.info? t).map (·.size) = some vs.size) (hcs : cs.size = vs.size)
    (h : ∀ w', Own w0 S R (L.set i (.blk b (.cells vs T (0, 0)))) w' → wpList P ops Q rest (a.put o.dst undef) w') : wpList P ops Q (o :: rest) a w := by
  obtain ⟨w', hr, hc, hb⟩ := xs_whole (P := P) ho hx hy h1 hn hcs w (H.blk hi)
  exact wl_runS hw hr (h _ (H.setBlk hi hc hb))

theorem wp_cutO {c : Code} (H : Own w0 S R L w) (I : Act → Prop) (h1 : c.wp P (fun e a' w' => e = .normal ∧ I a' ∧ Own w0 S R L w') a w) (h2 : ∀ a' w', I a' → Own w0 S R L w' → Q .normal a' w') : c.wp P Q a w :=
  wp_mono h1 fun e a' w' ⟨he, hI, hO⟩ => by subst he; exact h2 a' w' hI hO
theorem wp_cutI {c : Code} (I : Act → World → Prop) (h1 : c.wp P (fun e a' w' => e = .normal ∧ I a' w') a w) (h2 : ∀ a' w', I a' w' → Q .normal a' w') : c.wp P Q a w :=
  wp_mono h1 fun e a' w' ⟨he, hI⟩ => by subst he; exact h2 a' w' hI

def RV (P : Program) (w : World) (tmps : Array Value) : ResultVar → Value → Prop
  | .tmp t, v => tmps.getD t undef = v
  | .cell t T, v => ∃ ad, tmps.getD t undef = .pointer (some ad) ∧ (loadVar T ad).run P w = .ok v w

def rvSem (tmps : Array Value) : ResultVar → Sem Value
  | .tmp t => pure (tmps.getD t undef)
  | .cell t T => do loadVar T (← asAddr (tmps.getD t undef))

theorem results_sem (fn : Func) (tmps : Array Value) : results fn tmps = (do
    let vs ← fn.results.mapM (rvSem tmps)
    pure (if h : vs.size = 1 then vs[0] else .tuple vs)) := rfl

theorem rv_run {tmps : Array Value} {r : ResultVar} {v : Value} (h : RV P w tmps r v) : (rvSem tmps r).run P w = .ok v w := by
  cases r with
  | tmp t => show Result.ok (tmps.getD t undef) w = _; simp only [RV] at h; rw [h]
  | cell t T =>
    obtain ⟨ad, h1, h2⟩ := h
    simp only [rvSem, h1, asAddr, Sem.run_bind, Sem.run_pure, Result.andThen_ok, h2]

theorem results1 {fn : Func} {tmps : Array Value} {r : ResultVar} (h : fn.results = #[r]) {v : Value} (hv : RV P w tmps r v) : (results fn tmps).run P w = .ok v w := by
  have h1 := rv_run hv
  rw [results_sem, h]
  generalize rvSem tmps = g at *
  simp [h1]
theorem results2 {fn : Func} {tmps : Array Value} {r s : ResultVar} (h : fn.results = #[r, s]) {v u : Value} (hv : RV P w tmps r v) (hu : RV P w tmps s u) : (results fn tmps).run P w = .ok (.tuple #[v, u]) w := by
  have h1 := rv_run hv
  have h2 := rv_run hu
  rw [results_sem, h]
  generalize rvSem tmps = g at *
  simp [h1, h2]
theorem results3 {fn : Func} {tmps : Array Value} {r s t : ResultVar} (h : fn.results = #[r, s, t]) {v u x : Value} (hv : RV P w tmps r v) (hu : RV P w tmps s u) (hx : RV P w tmps t x) : (results fn tmps).run P w = .ok (.tuple #[v, u, x]) w := by
  have h1 := rv_run hv
  have h2 := rv_run hu
  have h3 := rv_run hx
  rw [results_sem, h]
  generalize rvSem tmps = g at *
  simp [h1, h2, h3]

theorem rv_tmp {tmps : Array Value} {t : Tmp} {v : Value} (h : tmps.getD t undef = v) : RV P w tmps (.tmp t) v := h
theorem rv_agg (H : Own w0 S R L w) (i : Nat) {tmps : Array Value} {t : Tmp} {T : TypeId} {b : Nat} (hp : tmps.getD t undef = .pointer (some ⟨b, 0, none⟩)) {cs : Array Value} {T' : TypeId} {fr : Nat × Nat}
    (hi : L[i]? = some (.blk b (.cells cs T' fr))) {d : TypeDesc} (hu : P.underlying T = some d) (hd : d.isRow = true) (hn : (P.info? T).map (·.size) = some cs.size) : RV P w tmps (.cell t T) (.agg cs) := by
  refine ⟨_, hp, ?_⟩
  have := run_loadVar_mid (P := P) w b 0 T cs.toList d (fun j v hv => by rw [cell_of_row w b _ cs T' fr (H.blk hi)]; simpa using hv) hu hd (by simpa using hn)
  simpa using this
theorem rv_one (H : Own w0 S R L w) (i : Nat) {tmps : Array Value} {t : Tmp} {T : TypeId} {b : Nat} (hp : tmps.getD t undef = .pointer (some ⟨b, 0, none⟩)) {v : Value} {T' : TypeId} {fr : Nat × Nat}
    (hi : L[i]? = some (.blk b (.cells #[v] T' fr))) {d : TypeDesc} (hu : P.underlying T = some d) (hd : oneCellType d = true) : RV P w tmps (.cell t T) v := by
  refine ⟨_, hp, ?_⟩
  have hagg : (isAgg T).run P w = .ok false w := by
    unfold isAgg
    rw [Sem.run_bind, run_underlying hu w]
    cases d <;> simp_all [oneCellType]
  simp only [loadVar, Sem.run_bind, hagg, Result.andThen_ok, Bool.false_eq_true, if_false, run_load, H.cell1 hi (v := v) (off := 0) rfl]
end

structure Sl (α : Type) where
  ad : Option Addr
  cap : Nat
  l : List α

def Sl.val {α : Type} (s : Sl α) : Value := .slice s.ad s.l.length s.cap
def Sl.blk {α : Type} (s : Sl α) : Nat := (s.ad.getD default).block
def Sl.off {α : Type} (s : Sl α) : Nat := (s.ad.getD default).off

def SlIn {α : Type} [Inhabited α] (n : Nat) (en : α → List Value) (s : Sl α) (w : World) : Prop :=
  (∀ i, i < s.l.length → s.ad = some ⟨s.blk, s.off, none⟩ ∧ w.rangeAt s.blk (s.off + i * n) (en (s.l.getD i default))) ∧ (∀ x, (en x).length = n ∧ 0 < n) ∧ s.l.length ≤ 140737488355328 ∧ s.l.length ≤ s.cap

theorem rangeAt_lt {w : World} {b o : Nat} {cs : List Value} (h : w.rangeAt b o cs) (hc : 0 < cs.length) : b < w.heap.size :=
  World.block_lt_of_cell? w _ (h 0 _ (List.getElem?_eq_getElem hc))

theorem SlIn.keep {α : Type} [Inhabited α] {n : Nat} {en : α → List Value} {s : Sl α} {w w' : World} (h : SlIn n en s w) (hs : ∀ b, b < w.heap.size → w'.heap[b]? = w.heap[b]?) : SlIn n en s w' := by
  refine ⟨fun i hi => ⟨(h.1 i hi).1, ?_⟩, h.2⟩
  have hr := (h.1 i hi).2
  intro j v hv
  have hj : j < (en (s.l.getD i default)).length := (List.getElem?_eq_some_iff.1 hv).1
  have hb : s.blk < w.heap.size := rangeAt_lt hr (by omega)
  rw [World.cell?_of_block (w := w) (a := ⟨s.blk, s.off + i * n + j, none⟩) (hs _ hb)]
  exact hr j v hv

section
variable {P : Program} {o : Oper} {a : Act} {w : World} {α : Type} [Inhabited α] {n : Nat} {en : α → List Value} {s : Sl α}
theorem rp_indexAddr_sl (hs : SlIn n en s w) {T : TypeId} {x ix : Operand} (ho : o.op = .indexAddr T x ix) {e : Nat} (hT : P.underlying T = some (.slice e)) (hn : (P.info? e).map (·.size) = some n)
    (hx : a.eval x = s.val) {kd : IntKind} (k : Nat) (hk : a.eval ix = .int kd (k : Int)) (hlt : k < s.l.length) :
    (execOp a.eval o).run P w = .ok (.value (.pointer (some ⟨s.blk, s.off + k * n, none⟩))) w :=
  rp_indexAddr_slice ho hT hn (by rw [hx, Sl.val, ← (hs.1 k hlt).1]) k hk hlt
omit [Inhabited α] in
theorem rp_len_sl {x : Operand} {T : TypeId} {dst : Option Tmp} {ty : TypeId} {pos : String} {after : Array Edge} {guard : Option (Nat × Bool)}
    {e : TypeId} (hT : P.underlying T = some (.slice e)) (hx : a.eval x = s.val) :
    (execOp a.eval { dst, op := .call { callee := .builtin .len, args := #[x], argTypes := #[T] }, type := ty, pos, after, guard }).run P w = .ok (.value (iv (s.l.length : Int))) w :=
  rp_len_slice hT hx
theorem rp_load1_sl (hs : SlIn n en s w) (k : Nat) (hlt : k < s.l.length) {t : TypeId} {x : Operand} (ho : o.op = .load t x) {d : TypeDesc} (hu : P.underlying t = some d) (hd : oneCellType d = true)
    (j : Nat) {off : Nat} (hx : a.eval x = .pointer (some ⟨s.blk, off, none⟩)) (hoff : off = s.off + k * n + j) {v : Value} (hv : (en (s.l.getD k default))[j]? = some v) : (execOp a.eval o).run P w = .ok (.value v) w := by
  subst hoff
  exact run_load1 ho hu hd hx ((hs.1 k hlt).2 j v hv)
theorem rp_loadN_sl (hs : SlIn n en s w) (k : Nat) (hlt : k < s.l.length) {t : TypeId} {x : Operand} (ho : o.op = .load t x) {d : TypeDesc} (hu : P.underlying t = some d) (hd : d.isRow = true)
    (hx : a.eval x = .pointer (some ⟨s.blk, s.off + k * n, none⟩)) (hi : (P.info? t).map (·.size) = some n) : (execOp a.eval o).run P w = .ok (.value (.agg (en (s.l.getD k default)).toArray)) w :=
  run_loadN ho hu hd hx (by rw [hi, (hs.2.1 _).1]) (hs.1 k hlt).2
end
section
variable {P : Program} {o : Oper} {a : Act} {w w0 : World} {S : List Nat} {R : List (World → Prop)} {L : List Res} {ops : Array Oper} {rest : List Oper} {Q : Exit → Act → World → Prop}
theorem wskt {j : Nat} {want : Bool} (h : wpList P ops Q rest (a.put o.dst undef) w) (hg : o.guard = some (j, want) := by rfl) (hy : yielded ops a.tmps j = some true := by rfl) (hb : true ≠ want := by decide) : wpList P ops Q (o :: rest) a w := wl_skip (unwanted hg hy hb) h
theorem wskf {j : Nat} {want : Bool} (h : wpList P ops Q rest (a.put o.dst undef) w) (hg : o.guard = some (j, want) := by rfl) (hy : yielded ops a.tmps j = some false := by rfl) (hb : false ≠ want := by decide) : wpList P ops Q (o :: rest) a w := wl_skip (unwanted hg hy hb) h
theorem rv_aggA (H : Own w0 S R L w) (i : Nat) {tmps : Array Value} {t : Tmp} {T : TypeId} {b : Nat} (hp : tmps.getD t undef = .pointer (some ⟨b, 0, none⟩)) {cs : Array Value} {T' : TypeId} {fr : Nat × Nat}
    (hi : L[i]? = some (.blk b (.cells cs T' fr))) {d : TypeDesc} (hu : P.underlying T = some d) (hd : d.isRow = true) {n : Nat} (hn : (P.info? T).map (·.size) = some n) (hl : n = cs.size := by first | omega | simp [-List.reduceReplicate] <;> omega | simp [*, -List.reduceReplicate] <;> omega) : RV P w tmps (.cell t T) (.agg cs) := rv_agg H i hp hi hu hd (hl ▸ hn)
theorem wl_storeA (H : Own w0 S R L w) (i : Nat) {t : TypeId} {x y : Operand} (ho : o.op = .store t x y) (hw : Region.wanted o (yielded ops a.tmps) = true)
    {b : Nat} (hx : a.eval x = .pointer (some ⟨b, 0, none⟩)) {cs : Array Value} {T : TypeId} (hi : L[i]? = some (.blk b (.cells cs T (0, 0))))
    (v : List UInt8) (hy : a.eval y = .agg (enc v).toArray) {n : Nat} (hn : (P.info? t).map (·.size) = some n)
    (h : ∀ w', Own w0 S R (L.set i (.blk b (.cells (enc v).toArray T (0, 0)))) w' → wpList P ops Q rest (a.put o.dst undef) w') (hl : n = (enc v).toArray.size := by first | omega | simp [-List.reduceReplicate] <;> omega | simp [*, -List.reduceReplicate] <;> omega) (hcs : cs.size = (enc v).toArray.size := by first | omega | simp [-List.reduceReplicate] <;> omega | simp [*, -List.reduceReplicate] <;> omega) : wpList P ops Q (o :: rest) a w :=
  wl_storeW H i ho hw hx hi hy (fun v hv => enc_one v (by simpa using hv)) (hl ▸ hn) hcs h
theorem wl_storeV (H : Own w0 S R L w) (i : Nat) {t : TypeId} {x y : Operand} (ho : o.op = .store t x y) (hw : Region.wanted o (yielded ops a.tmps) = true)
    {b : Nat} (hx : a.eval x = .pointer (some ⟨b, 0, none⟩)) {cs : Array Value} {T : TypeId} (hi : L[i]? = some (.blk b (.cells cs T (0, 0))))
    (vs : Array Value) (hy : a.eval y = .agg vs) (h1 : ∀ v ∈ vs.toList, v.oneCell' = true) {n : Nat} (hn : (P.info? t).map (·.size) = some n)
    (h : ∀ w', Own w0 S R (L.set i (.blk b (.cells vs T (0, 0)))) w' → wpList P ops Q rest (a.put o.dst undef) w') (hl : n = vs.size := by first | rfl | first | omega | simp [-List.reduceReplicate] <;> omega | simp [*, -List.reduceReplicate] <;> omega) (hcs : cs.size = vs.size := by first | rfl | first | omega | simp [-List.reduceReplicate] <;> omega | simp [*, -List.reduceReplicate] <;> omega) : wpList P ops Q (o :: rest) a w :=
  wl_storeW H i ho hw hx hi hy h1 (hl ▸ hn) hcs h
end
end Go.Proofs.YtimonjemjhecoaaGreatDoor
