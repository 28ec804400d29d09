/- The program's data as Lean data, and how each lies in memory. No program in sight. -/
import Derived.Test.YtimonjemjhecoaaGreatDoorSxCall
namespace Go.Proofs.YtimonjemjhecoaaGreatDoor
open Go.RowKit
open Go

structure Arg where
  reg : Bool
  n : UInt8
  deriving DecidableEq, Inhabited
def Arg.cells (a : Arg) : List Value := [.bool a.reg, bv a.n]

structure Ins where
  op : UInt8
  dst : UInt8
  loc : UInt8
  a : Arg
  b : Arg
  fn : UInt8
  mode : UInt8
  skip : UInt8
  deriving DecidableEq, Inhabited
def Ins.cells (i : Ins) : List Value := [bv i.op, bv i.dst, bv i.loc, .bool i.a.reg, bv i.a.n, .bool i.b.reg, bv i.b.n, bv i.fn, bv i.mode, bv i.skip]

theorem Arg.cells_one (a : Arg) : ∀ v ∈ a.cells.toArray.toList, v.oneCell' = true := by
  simp [Arg.cells, Value.oneCell']
theorem Ins.cells_one (i : Ins) : ∀ v ∈ i.cells.toArray.toList, v.oneCell' = true := by
  simp [Ins.cells, Value.oneCell']

/-- A condition; ad and cap say where its Kids lie. -/
inductive Cond where
  | mk (kind thread n val : UInt8) (ad : Option Addr) (cap : Nat) (kids : List Cond)
  deriving Inhabited
def Cond.kind : Cond → UInt8 | .mk k _ _ _ _ _ _ => k
def Cond.thread : Cond → UInt8 | .mk _ t _ _ _ _ _ => t
def Cond.n : Cond → UInt8 | .mk _ _ n _ _ _ _ => n
def Cond.valu : Cond → UInt8 | .mk _ _ _ v _ _ _ => v
def Cond.kids : Cond → Sl Cond | .mk _ _ _ _ ad cap ks => ⟨ad, cap, ks⟩
def Cond.cells (c : Cond) : List Value := [bv c.kind, bv c.thread, bv c.n, bv c.valu, c.kids.val]

mutual
/-- How deep a condition is. -/
def deepF : Cond → Nat
  | .mk _ _ _ _ _ _ kids => deepsF kids 0 + 1
def deepsF : List Cond → Nat → Nat
  | [], d => d
  | k :: r, d => deepsF r (max d (deepF k))
end
inductive CondIn (w : World) : Cond → Prop
  | mk (c : Cond) (hs : SlIn 5 Cond.cells c.kids w) (hk : ∀ k ∈ c.kids.l, CondIn w k) : CondIn w c

theorem CondIn.sl {w : World} {c : Cond} (h : CondIn w c) : SlIn 5 Cond.cells c.kids w := by cases h with | mk _ hs _ => exact hs
theorem CondIn.keep {w w' : World} (hs : ∀ b, b < w.heap.size → w'.heap[b]? = w.heap[b]?) {c : Cond} (h : CondIn w c) : CondIn w' c := by
  induction h with
  | mk c h1 _ ih => exact .mk c (h1.keep hs) ih

structure Prog where
  name : ByteArray
  locs : Sl ByteArray
  init : Sl UInt8
  threads : Sl (Sl Ins)
  ask : UInt8
  cond : Cond
def Prog.cells (p : Prog) : List Value := [.string p.name, p.locs.val, p.init.val, p.threads.val, bv p.ask, bv p.cond.kind, bv p.cond.thread, bv p.cond.n, bv p.cond.valu, p.cond.kids.val]

instance {α : Type} : Inhabited (Sl α) := ⟨⟨none, 0, []⟩⟩
def eStr (s : ByteArray) : List Value := [.string s]
def eByte (b : UInt8) : List Value := [bv b]
def eSl {α : Type} (t : Sl α) : List Value := [t.val]
def eInt (n : Int) : List Value := [iv n]

structure IsProg (p : Prog) (w : World) : Prop where
  locs : SlIn 1 eStr p.locs w
  init : SlIn 1 eByte p.init w
  threads : SlIn 1 eSl p.threads w
  ins : ∀ t ∈ p.threads.l, SlIn 10 Ins.cells t w
  cond : CondIn w p.cond
  name : p.name.size ≤ 140737488355328
  loc : ∀ s ∈ p.locs.l, s.size ≤ 140737488355328
  deep : deepF p.cond ≤ 140737488355328

theorem IsProg.keep {p : Prog} {w w' : World} (h : IsProg p w) (hs : ∀ b, b < w.heap.size → w'.heap[b]? = w.heap[b]?) : IsProg p w' :=
  ⟨h.locs.keep hs, h.init.keep hs, h.threads.keep hs, fun t ht => (h.ins t ht).keep hs, h.cond.keep hs, h.name, h.loc, h.deep⟩

theorem IsProg.ins_at {p : Prog} {w : World} (h : IsProg p w) {t : Nat} (ht : t < p.threads.l.length) : SlIn 10 Ins.cells (p.threads.l.getD t default) w :=
  h.ins _ (by rw [List.getD_eq_getElem?_getD, List.getElem?_eq_getElem ht]; exact List.getElem_mem ht)

/-- The walk of a function that reads a program. -/
theorem Own.prog {p : Prog} {w : World} (h : IsProg p w) : Own w [] [IsProg p] [] w :=
  Own.start_ro w _ (fun φ hφ w' hw => by
    obtain rfl : φ = IsProg p := by simpa using hφ
    exact h.keep hw)
theorem Ext.prog {p : Prog} {w w' : World} (h : Ext w w') (hp : IsProg p w) : IsProg p w' := hp.keep h.block
end Go.Proofs.YtimonjemjhecoaaGreatDoor

namespace Go.Proofs.YtimonjemjhecoaaGreatDoor
open Go.RowKit
open Go

def mfind (k : UInt8) : List (UInt8 × Value) → Option Value
  | [] => none
  | (j, v) :: r => if k == j then some v else mfind k r

def mentFrom : Nat → List (UInt8 × Value) → List MapEntry
  | _, [] => []
  | n, (k, v) :: r => ⟨bv k, v, n⟩ :: mentFrom (n + 1) r

/-- A map's block that holds just these. -/
def mobj (l : List (UInt8 × Value)) : Obj := .map (mentFrom 0 l).toArray l.length

theorem mentFrom_snoc (k : UInt8) (v : Value) : ∀ (l : List (UInt8 × Value)) (n : Nat), mentFrom n (l ++ [(k, v)]) = mentFrom n l ++ [⟨bv k, v, n + l.length⟩]
  | [], n => rfl
  | (j, u) :: r, n => by
    simp only [List.cons_append, mentFrom, mentFrom_snoc k v r (n + 1), List.length_cons]
    rw [show n + (r.length + 1) = n + 1 + r.length by omega]

theorem findNow_ment (k : UInt8) : ∀ (l : List (UInt8 × Value)) (n i : Nat), ∃ r, Instr.findNow (.int .u8) (bv k) (mentFrom n l) i = some r ∧ r.map (·.2) = mfind k l
  | [], n, i => ⟨none, rfl, rfl⟩
  | (j, u) :: r, n, i => by
    by_cases h : k = j
    · subst h
      exact ⟨some (i, u), by simp [mentFrom, Instr.findNow, Instr.sameNow, bv], by simp [mfind]⟩
    · obtain ⟨r', h1, h2⟩ := findNow_ment k r (n + 1) (i + 1)
      have hne : ((k.toNat : Int) == (j.toNat : Int)) = false := by
        rw [beq_eq_false_iff_ne]
        intro e
        exact h (UInt8.toNat_inj.1 (by omega))
      refine ⟨r', ?_, ?_⟩
      · simp only [mentFrom, Instr.findNow, Instr.sameNow, bv, if_true, hne]
        exact h1
      · rw [h2]; simp [mfind, h]

section
variable {P : Program} {ops : Array Oper} {rest : List Oper} {o : Oper} {a : Act} {w w0 : World} {Q : Exit → Act → World → Prop} {S : List Nat} {R : List (World → Prop)} {L : List Res}

theorem run_makeMap0 {T : TypeId} (ho : o.op = .makeMap T none) (w : World) : (execOp a.eval o).run P w = .ok (.value (.map (some w.heap.size))) (w.alloc (.map #[] 0)) := by
  unfold execOp; rw [ho]; rfl

theorem wl_makeMap (H : Own w0 S R L w) {T : TypeId} (ho : o.op = .makeMap T none) (hw : Region.wanted o (yielded ops a.tmps) = true)
    (h : ∀ b w', w0.heap.size ≤ b → Own w0 S R (.blk b (mobj []) :: L) w' → wpList P ops Q rest (a.put o.dst (.map (some b))) w') : wpList P ops Q (o :: rest) a w :=
  wl_run hw (run_makeMap0 ho w) (h _ _ H.size (H.alloc _))

theorem checkKey_int {e : Bool} {t : TypeId} {k : IntKind} {n : Int} (ht : P.underlying t = some (.int k)) (w : World) : (Instr.checkKey e 10000 t (.int k n)).run P w = .ok () w := by
  have key : ∀ d, (Instr.checkKey e (d + 1) t (.int k n)).run P w = .ok () w := fun d => by
    rw [Instr.checkKey, Sem.run_bind, run_underlying ht w, Result.andThen_ok]
    rfl
  exact key 9999

theorem wl_insert (H : Own w0 S R L w) (i : Nat) {T kt et : TypeId} {m k x : Operand} (ho : o.op = .insert T m k x) (hw : Region.wanted o (yielded ops a.tmps) = true)
    (hT : P.underlying T = some (.map kt et)) (hk : P.underlying kt = some (.int .u8)) {b : Nat} {l : List (UInt8 × Value)} (hm : a.eval m = .map (some b)) (hi : L[i]? = some (.blk b (mobj l)))
    (key : UInt8) (hkey : a.eval k = bv key) {v : Value} (hx : a.eval x = v) (hnew : mfind key l = none)
    (h : ∀ w', Own w0 S R (L.set i (.blk b (mobj (l ++ [(key, v)])))) w' → wpList P ops Q rest (a.put o.dst undef) w') : wpList P ops Q (o :: rest) a w := by
  subst hx
  have hb := H.blk hi
  obtain ⟨r, h1, h2⟩ := findNow_ment key l 0 0
  have hr : r = none := by cases r with | none => rfl | some y => rw [hnew] at h2; simp at h2
  subst hr
  have hlt : b < w.heap.size := (Array.getElem?_eq_some_iff.1 hb).1
  let w' : World := { w with heap := w.heap.setIfInBounds b (mobj (l ++ [(key, a.eval x)])) }
  have hrun : (execOp a.eval o).run P w = .ok .skip w' := by
    unfold execOp; rw [ho]
    have hg : (getObj b).run P w = .ok (mobj l) w := by
      simp only [getObj, Sem.run, hb]; rfl
    have hs : (setObj b (.map ((mentFrom 0 l).toArray.push { key := bv key, val := a.eval x, born := l.length }) (l.length + 1))).run P w = .ok () w' := by
      simp only [setObj, Sem.run, hb]
      show Result.ok () _ = Result.ok () w'
      congr 3
      simp [mobj, mentFrom_snoc]
    simp only [hm, hkey, Instr.mapUpdate, Sem.run_bind, run_underlying hT w, Result.andThen_ok, hg]
    simp only [mobj, checkKey_int hk, Sem.run_bind, Result.andThen_ok, Instr.findKey, run_underlying hk w, h1, hs, Sem.run_pure]
  refine wl_runS hw hrun (h _ (H.setBlk hi ⟨rfl, rfl, rfl, by simp [w'], fun c _ hne => ?_⟩ ?_))
  · simp only [w']
    rw [Array.getElem?_setIfInBounds_ne (by simpa using fun e : b = c => hne (by simp [e]))]
  · simp [w', hlt]

theorem rp_lookup8 (H : Own w0 S R L w) (i : Nat) {T kt et : TypeId} {m k : Operand} (ho : o.op = .lookup T m k false)
    (hT : P.underlying T = some (.map kt et)) (hk : P.underlying kt = some (.int .u8)) {z : Value} (hz : (P.info? et).bind (·.zero) = some z) {b : Nat} {l : List (UInt8 × Value)} (hm : a.eval m = .map (some b)) (hi : L[i]? = some (.blk b (mobj l)))
    (key : UInt8) (hkey : a.eval k = bv key) {v : Value} (hv : (mfind key l).getD z = v) : (execOp a.eval o).run P w = .ok (.value v) w := by
  subst hv
  have hb := H.blk hi
  obtain ⟨r, h1, h2⟩ := findNow_ment key l 0 0
  rw [← h2]
  unfold execOp; rw [ho]
  have hg : (getObj b).run P w = .ok (mobj l) w := by
    simp only [getObj, Sem.run, hb]; rfl
  have hzv : (zeroValue et).run P w = .ok z w := by
    obtain ⟨j, hj, hzz⟩ := Option.bind_eq_some_iff.1 hz
    simp [zeroValue, typeInfo, hj, hzz]
  simp only [hm, hkey, Instr.lookup, Sem.run_bind, run_underlying hT w, Result.andThen_ok, hg]
  simp only [mobj, Sem.run_bind, Sem.run_pure, checkKey_int hk, Result.andThen_ok, Instr.findKey, run_underlying hk w, h1]
  cases r with
  | none => simp [hzv]
  | some y => simp
end
end Go.Proofs.YtimonjemjhecoaaGreatDoor
