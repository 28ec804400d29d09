/- The program's data as Lean data, and how each lies in memory. No program in sight. -/
import Derived.Test.YtpnaooajmdildaaGreatDoorSxCall
namespace Go.Proofs.YtpnaooajmdildaaGreatDoor
open Go.RowKit
open Go

structure Arg where
  reg : Bool
  n : UInt8
  deriving DecidableEq, Inhabited
def Arg.cells (a : Arg) : List Value := [.bool a.reg, bv a.n]

structure Ins where
  op : UInt8
  dst : UInt8
  loc : UInt8
  a : Arg
  b : Arg
  fn : UInt8
  mode : UInt8
  skip : UInt8
  deriving DecidableEq, Inhabited
def Ins.cells (i : Ins) : List Value := [bv i.op, bv i.dst, bv i.loc, .bool i.a.reg, bv i.a.n, .bool i.b.reg, bv i.b.n, bv i.fn, bv i.mode, bv i.skip]

theorem Arg.cells_one (a : Arg) : ∀ v ∈ a.cells.toArray.toList, v.oneCell' = true := by
  simp [Arg.cells, Value.oneCell']
theorem Ins.cells_one (i : Ins) : ∀ v ∈ i.cells.toArray.toList, v.oneCell' = true := by
  simp [Ins.cells, Value.oneCell']

/-- A condition; ad and cap say where its Kids lie. -/
inductive Cond where
  | mk (kind thread n val : UInt8) (ad : Option Addr) (cap : Nat) (kids : List Cond)
  deriving Inhabited
def Cond.kind : Cond → UInt8 | .mk k _ _ _ _ _ _ => k
def Cond.thread : Cond → UInt8 | .mk _ t _ _ _ _ _ => t
def Cond.n : Cond → UInt8 | .mk _ _ n _ _ _ _ => n
def Cond.valu : Cond → UInt8 | .mk _ _ _ v _ _ _ => v
def Cond.kids : Cond → Sl Cond | .mk _ _ _ _ ad cap ks => ⟨ad, cap, ks⟩
def Cond.cells (c : Cond) : List Value := [bv c.kind, bv c.thread, bv c.n, bv c.valu, c.kids.val]

mutual
/-- How deep a condition is. -/
def deepF : Cond → Nat
  | .mk _ _ _ _ _ _ kids => deepsF kids 0 + 1
def deepsF : List Cond → Nat → Nat
  | [], d => d
  | k :: r, d => deepsF r (max d (deepF k))
end
inductive CondIn (w : World) : Cond → Prop
  | mk (c : Cond) (hs : SlIn 5 Cond.cells c.kids w) (hk : ∀ k ∈ c.kids.l, CondIn w k) : CondIn w c

theorem CondIn.sl {w : World} {c : Cond} (h : CondIn w c) : SlIn 5 Cond.cells c.kids w := by cases h with | mk _ hs _ => exact hs
theorem CondIn.kid {w : World} {c : Cond} (h : CondIn w c) : ∀ k ∈ c.kids.l, CondIn w k := by cases h with | mk _ _ hk => exact hk
theorem CondIn.keep {w w' : World} (hs : ∀ b, b < w.heap.size → w'.heap[b]? = w.heap[b]?) {c : Cond} (h : CondIn w c) : CondIn w' c := by
  induction h with
  | mk c h1 _ ih => exact .mk c (h1.keep hs) ih

structure Prog where
  name : ByteArray
  locs : Sl ByteArray
  init : Sl UInt8
  threads : Sl (Sl Ins)
  ask : UInt8
  cond : Cond
def Prog.cells (p : Prog) : List Value := [.string p.name, p.locs.val, p.init.val, p.threads.val, bv p.ask, bv p.cond.kind, bv p.cond.thread, bv p.cond.n, bv p.cond.valu, p.cond.kids.val]

instance {α : Type} : Inhabited (Sl α) := ⟨⟨none, 0, []⟩⟩
def eStr (s : ByteArray) : List Value := [.string s]
def eByte (b : UInt8) : List Value := [bv b]
def eSl {α : Type} (t : Sl α) : List Value := [t.val]
def eInt (n : Int) : List Value := [iv n]

structure IsProg (p : Prog) (w : World) : Prop where
  locs : SlIn 1 eStr p.locs w
  init : SlIn 1 eByte p.init w
  threads : SlIn 1 eSl p.threads w
  ins : ∀ t ∈ p.threads.l, SlIn 10 Ins.cells t w
  cond : CondIn w p.cond
  name : p.name.size ≤ 140737488355328
  loc : ∀ s ∈ p.locs.l, s.size ≤ 140737488355328
  deep : deepF p.cond ≤ 140737488355328

theorem IsProg.keep {p : Prog} {w w' : World} (h : IsProg p w) (hs : ∀ b, b < w.heap.size → w'.heap[b]? = w.heap[b]?) : IsProg p w' :=
  ⟨h.locs.keep hs, h.init.keep hs, h.threads.keep hs, fun t ht => (h.ins t ht).keep hs, h.cond.keep hs, h.name, h.loc, h.deep⟩

theorem IsProg.ins_at {p : Prog} {w : World} (h : IsProg p w) {t : Nat} (ht : t < p.threads.l.length) : SlIn 10 Ins.cells (p.threads.l.getD t default) w :=
  h.ins _ (by rw [List.getD_eq_getElem?_getD, List.getElem?_eq_getElem ht]; exact List.getElem_mem ht)

/-- The walk of a function that reads a program. -/
theorem Own.prog {p : Prog} {w : World} (h : IsProg p w) : Own w [] [IsProg p] [] w :=
  Own.start_ro w _ (fun φ hφ w' hw => by
    obtain rfl : φ = IsProg p := by simpa using hφ
    exact h.keep hw)
theorem Ext.prog {p : Prog} {w w' : World} (h : Ext w w') (hp : IsProg p w) : IsProg p w' := hp.keep h.block
end Go.Proofs.YtpnaooajmdildaaGreatDoor
