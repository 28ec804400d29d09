/- The program's data as Lean data, and how each lies in memory. No program in sight. -/
import Derived.Test.YtimonjemjhecoaaGreatDoorSxCall
import Derived.Test.YtimonjemjhecoaaGreatDoorSxMore
import Derived.Maps.RangeRun
namespace Go.Proofs.YtimonjemjhecoaaGreatDoor
open Go.RowKit
open Go

structure Arg where
  reg : Bool
  n : UInt8
  deriving DecidableEq, Inhabited
def Arg.cells (a : Arg) : List Value := [.bool a.reg, bv a.n]

structure Ins where
  op : UInt8
  dst : UInt8
  loc : UInt8
  a : Arg
  b : Arg
  fn : UInt8
  mode : UInt8
  skip : UInt8
  deriving DecidableEq, Inhabited
def Ins.cells (i : Ins) : List Value := [bv i.op, bv i.dst, bv i.loc, .bool i.a.reg, bv i.a.n, .bool i.b.reg, bv i.b.n, bv i.fn, bv i.mode, bv i.skip]

theorem Arg.cells_one (a : Arg) : ∀ v ∈ a.cells.toArray.toList, v.oneCell' = true := by
  simp [Arg.cells, Value.oneCell']
theorem Ins.cells_one (i : Ins) : ∀ v ∈ i.cells.toArray.toList, v.oneCell' = true := by
  simp [Ins.cells, Value.oneCell']

inductive Cond where
  | mk (kind thread n val : UInt8) (ad : Option Addr) (cap : Nat) (kids : List Cond)
  deriving Inhabited
def Cond.kind : Cond → UInt8 | .mk k _ _ _ _ _ _ => k
def Cond.thread : Cond → UInt8 | .mk _ t _ _ _ _ _ => t
def Cond.n : Cond → UInt8 | .mk _ _ n _ _ _ _ => n
def Cond.valu : Cond → UInt8 | .mk _ _ _ v _ _ _ => v
def Cond.kids : Cond → Sl Cond | .mk _ _ _ _ ad cap ks => ⟨ad, cap, ks⟩
def Cond.cells (c : Cond) : List Value := [bv c.kind, bv c.thread, bv c.n, bv c.valu, c.kids.val]

mutual
def deepF : Cond → Nat
  | .mk _ _ _ _ _ _ kids => deepsF kids 0 + 1
def deepsF : List Cond → Nat → Nat
  | [], d => d
  | k :: r, d => deepsF r (max d (deepF k))
end
inductive CondIn (w : World) : Cond → Prop
  | mk (c : Cond) (hs : SlIn 5 Cond.cells c.kids w) (hk : ∀ k ∈ c.kids.l, CondIn w k) : CondIn w c

theorem CondIn.sl {w : World} {c : Cond} (h : CondIn w c) : SlIn 5 Cond.cells c.kids w := by cases h with | mk _ hs _ => exact hs
theorem CondIn.keep {w w' : World} (hs : ∀ b, b < w.heap.size → w'.heap[b]? = w.heap[b]?) {c : Cond} (h : CondIn w c) : CondIn w' c := by
  induction h with
  | mk c h1 _ ih => exact .mk c (h1.keep hs) ih

structure Prog where
  name : ByteArray
  locs : Sl ByteArray
  init : Sl UInt8
  threads : Sl (Sl Ins)
  ask : UInt8
  cond : Cond
def Prog.cells (p : Prog) : List Value := [.string p.name, p.locs.val, p.init.val, p.threads.val, bv p.ask, bv p.cond.kind, bv p.cond.thread, bv p.cond.n, bv p.cond.valu, p.cond.kids.val]

instance {α : Type} : Inhabited (Sl α) := ⟨⟨none, 0, []⟩⟩
def eStr (s : ByteArray) : List Value := [.string s]
def eByte (b : UInt8) : List Value := [bv b]
def eSl {α : Type} (t : Sl α) : List Value := [t.val]
def eInt (n : Int) : List Value := [iv n]

structure IsProg (p : Prog) (w : World) : Prop where
  locs : SlIn 1 eStr p.locs w
  init : SlIn 1 eByte p.init w
  threads : SlIn 1 eSl p.threads w
  ins : ∀ t ∈ p.threads.l, SlIn 10 Ins.cells t w
  cond : CondIn w p.cond
  name : p.name.size ≤ 140737488355328
  loc : ∀ s ∈ p.locs.l, s.size ≤ 140737488355328
  deep : deepF p.cond ≤ 140737488355328

theorem IsProg.keep {p : Prog} {w w' : World} (h : IsProg p w) (hs : ∀ b, b < w.heap.size → w'.heap[b]? = w.heap[b]?) : IsProg p w' :=
  ⟨h.locs.keep hs, h.init.keep hs, h.threads.keep hs, fun t ht => (h.ins t ht).keep hs, h.cond.keep hs, h.name, h.loc, h.deep⟩

theorem IsProg.ins_at {p : Prog} {w : World} (h : IsProg p w) {t : Nat} (ht : t < p.threads.l.length) : SlIn 10 Ins.cells (p.threads.l.getD t default) w :=
  h.ins _ (by rw [List.getD_eq_getElem?_getD, List.getElem?_eq_getElem ht]; exact List.getElem_mem ht)

theorem Own.prog {p : Prog} {w : World} (h : IsProg p w) : Own w [] [IsProg p] [] w :=
  Own.start_ro w _ (fun φ hφ w' hw => by
    obtain rfl : φ = IsProg p := by simpa using hφ
    exact h.keep hw)
theorem Ext.prog {p : Prog} {w w' : World} (h : Ext w w') (hp : IsProg p w) : IsProg p w' := hp.keep h.block
end Go.Proofs.YtimonjemjhecoaaGreatDoor

namespace Go.Proofs.YtimonjemjhecoaaGreatDoor
open Go.RowKit
open Go

def mfind (k : UInt8) : List (UInt8 × Value) → Option Value
  | [] => none
  | (j, v) :: r => if k == j then some v else mfind k r

def mentFrom : Nat → List (UInt8 × Value) → List MapEntry
  | _, [] => []
  | n, (k, v) :: r => ⟨bv k, v, n⟩ :: mentFrom (n + 1) r

def mobj (l : List (UInt8 × Value)) : Obj := .map (mentFrom 0 l).toArray l.length

theorem mentFrom_snoc (k : UInt8) (v : Value) : ∀ (l : List (UInt8 × Value)) (n : Nat), mentFrom n (l ++ [(k, v)]) = mentFrom n l ++ [⟨bv k, v, n + l.length⟩]
  | [], n => rfl
  | (j, u) :: r, n => by
    simp only [List.cons_append, mentFrom, mentFrom_snoc k v r (n + 1), List.length_cons]
    rw [show n + (r.length + 1) = n + 1 + r.length by omega]

theorem findNow_ment (k : UInt8) : ∀ (l : List (UInt8 × Value)) (n i : Nat), ∃ r, Instr.findNow (.int .u8) (bv k) (mentFrom n l) i = some r ∧ r.map (·.2) = mfind k l
  | [], n, i => ⟨none, rfl, rfl⟩
  | (j, u) :: r, n, i => by
    by_cases h : k = j
    · subst h
      exact ⟨some (i, u), by simp [mentFrom, Instr.findNow, Instr.sameNow, bv], by simp [mfind]⟩
    · obtain ⟨r', h1, h2⟩ := findNow_ment k r (n + 1) (i + 1)
      have hne : ((k.toNat : Int) == (j.toNat : Int)) = false := by
        rw [beq_eq_false_iff_ne]
        intro e
        exact h (UInt8.toNat_inj.1 (by omega))
      refine ⟨r', ?_, ?_⟩
      · simp only [mentFrom, Instr.findNow, Instr.sameNow, bv, if_true, hne]
        exact h1
      · rw [h2]; simp [mfind, h]

section
variable {P : Program} {ops : Array Oper} {rest : List Oper} {o : Oper} {a : Act} {w w0 : World} {Q : Exit → Act → World → Prop} {S : List Nat} {R : List (World → Prop)} {L : List Res}

theorem run_makeMap0 {T : TypeId} (ho : o.op = .makeMap T none) (w : World) : (execOp a.eval o).run P w = .ok (.value (.map (some w.heap.size))) (w.alloc (.map #[] 0)) := by
  unfold execOp; rw [ho]; rfl

theorem wl_makeMap (H : Own w0 S R L w) {T : TypeId} (ho : o.op = .makeMap T none) (hw : Region.wanted o (yielded ops a.tmps) = true)
    (h : ∀ b w', w0.heap.size ≤ b → Own w0 S R (.blk b (mobj []) :: L) w' → wpList P ops Q rest (a.put o.dst (.map (some b))) w') : wpList P ops Q (o :: rest) a w :=
  wl_run hw (run_makeMap0 ho w) (h _ _ H.size (H.alloc _))

theorem checkKey_int {e : Bool} {t : TypeId} {k : IntKind} {n : Int} (ht : P.underlying t = some (.int k)) (w : World) : (Instr.checkKey e 10000 t (.int k n)).run P w = .ok () w := by
  have key : ∀ d, (Instr.checkKey e (d + 1) t (.int k n)).run P w = .ok () w := fun d => by
    rw [Instr.checkKey, Sem.run_bind, run_underlying ht w, Result.andThen_ok]
    rfl
  exact key 9999

theorem wl_insert (H : Own w0 S R L w) (i : Nat) {T kt et : TypeId} {m k x : Operand} (ho : o.op = .insert T m k x) (hw : Region.wanted o (yielded ops a.tmps) = true)
    (hT : P.underlying T = some (.map kt et)) (hk : P.underlying kt = some (.int .u8)) {b : Nat} {l : List (UInt8 × Value)} (hm : a.eval m = .map (some b)) (hi : L[i]? = some (.blk b (mobj l)))
    (key : UInt8) (hkey : a.eval k = bv key) {v : Value} (hx : a.eval x = v) (hnew : mfind key l = none)
    (h : ∀ w', Own w0 S R (L.set i (.blk b (mobj (l ++ [(key, v)])))) w' → wpList P ops Q rest (a.put o.dst undef) w') : wpList P ops Q (o :: rest) a w := by
  subst hx
  have hb := H.blk hi
  obtain ⟨r, h1, h2⟩ := findNow_ment key l 0 0
  have hr : r = none := by cases r with | none => rfl | some y => rw [hnew] at h2; simp at h2
  subst hr
  have hlt : b < w.heap.size := (Array.getElem?_eq_some_iff.1 hb).1
  let w' : World := { w with heap := w.heap.setIfInBounds b (mobj (l ++ [(key, a.eval x)])) }
  have hrun : (execOp a.eval o).run P w = .ok .skip w' := by
    unfold execOp; rw [ho]
    have hg : (getObj b).run P w = .ok (mobj l) w := by
      simp only [getObj, Sem.run, hb]; rfl
    have hs : (setObj b (.map ((mentFrom 0 l).toArray.push { key := bv key, val := a.eval x, born := l.length }) (l.length + 1))).run P w = .ok () w' := by
      simp only [setObj, Sem.run, hb]
      show Result.ok () _ = Result.ok () w'
      congr 3
      simp [mobj, mentFrom_snoc]
    simp only [hm, hkey, Instr.mapUpdate, Sem.run_bind, run_underlying hT w, Result.andThen_ok, hg]
    simp only [mobj, checkKey_int hk, Sem.run_bind, Result.andThen_ok, Instr.findKey, run_underlying hk w, h1, hs, Sem.run_pure]
  refine wl_runS hw hrun (h _ (H.setBlk hi ⟨rfl, rfl, rfl, by simp [w'], fun c _ hne => ?_⟩ ?_))
  · simp only [w']
    rw [Array.getElem?_setIfInBounds_ne (by simpa using fun e : b = c => hne (by simp [e]))]
  · simp [w', hlt]

theorem rp_lookup8 (H : Own w0 S R L w) (i : Nat) {T kt et : TypeId} {m k : Operand} (ho : o.op = .lookup T m k false)
    (hT : P.underlying T = some (.map kt et)) (hk : P.underlying kt = some (.int .u8)) {z : Value} (hz : (P.info? et).bind (·.zero) = some z) {b : Nat} {l : List (UInt8 × Value)} (hm : a.eval m = .map (some b)) (hi : L[i]? = some (.blk b (mobj l)))
    (key : UInt8) (hkey : a.eval k = bv key) {v : Value} (hv : (mfind key l).getD z = v) : (execOp a.eval o).run P w = .ok (.value v) w := by
  subst hv
  have hb := H.blk hi
  obtain ⟨r, h1, h2⟩ := findNow_ment key l 0 0
  rw [← h2]
  unfold execOp; rw [ho]
  have hg : (getObj b).run P w = .ok (mobj l) w := by
    simp only [getObj, Sem.run, hb]; rfl
  have hzv : (zeroValue et).run P w = .ok z w := by
    obtain ⟨j, hj, hzz⟩ := Option.bind_eq_some_iff.1 hz
    simp [zeroValue, typeInfo, hj, hzz]
  simp only [hm, hkey, Instr.lookup, Sem.run_bind, run_underlying hT w, Result.andThen_ok, hg]
  simp only [mobj, Sem.run_bind, Sem.run_pure, checkKey_int hk, Result.andThen_ok, Instr.findKey, run_underlying hk w, h1]
  cases r with
  | none => simp [hzv]
  | some y => simp
end
end Go.Proofs.YtimonjemjhecoaaGreatDoor

namespace Go.Proofs.YtimonjemjhecoaaGreatDoor
open Go.RowKit
open Go
open Go.ChangeMaps (setBlock)

def ifind (k : Int) : List (Int × Value) → Option Value
  | [] => none
  | (j, v) :: r => if k == j then some v else ifind k r

def imentFrom : Nat → List (Int × Value) → List MapEntry
  | _, [] => []
  | n, (k, v) :: r => ⟨iv k, v, n⟩ :: imentFrom (n + 1) r

def iobj (l : List (Int × Value)) : Obj := .map (imentFrom 0 l).toArray l.length

theorem imentFrom_snoc (k : Int) (v : Value) : ∀ (l : List (Int × Value)) (n : Nat), imentFrom n (l ++ [(k, v)]) = imentFrom n l ++ [⟨iv k, v, n + l.length⟩]
  | [], n => rfl
  | (j, u) :: r, n => by
    simp only [List.cons_append, imentFrom, imentFrom_snoc k v r (n + 1), List.length_cons]
    rw [show n + (r.length + 1) = n + 1 + r.length by omega]

theorem findNow_iment (k : Int) : ∀ (l : List (Int × Value)) (n i : Nat), ∃ r, Instr.findNow (.int .i64) (iv k) (imentFrom n l) i = some r ∧ r.map (·.2) = ifind k l
  | [], n, i => ⟨none, rfl, rfl⟩
  | (j, u) :: r, n, i => by
    by_cases h : k = j
    · subst h
      exact ⟨some (i, u), by simp [imentFrom, Instr.findNow, Instr.sameNow, iv], by simp [ifind]⟩
    · obtain ⟨r', h1, h2⟩ := findNow_iment k r (n + 1) (i + 1)
      have hne : (k == j) = false := by rw [beq_eq_false_iff_ne]; exact h
      refine ⟨r', ?_, ?_⟩
      · simp only [imentFrom, Instr.findNow, Instr.sameNow, iv, if_true, hne]
        exact h1
      · rw [h2]; simp [ifind, h]

theorem imentFrom_mem : ∀ (l : List (Int × Value)) (n : Nat) {e : MapEntry}, e ∈ imentFrom n l → n ≤ e.born ∧ e.born < n + l.length ∧ ∃ x, l[e.born - n]? = some x ∧ e.key = iv x.1 ∧ e.val = x.2
  | [], n, e, h => by simp [imentFrom] at h
  | (k, v) :: r, n, e, h => by
    rcases List.mem_cons.1 h with rfl | h
    · exact ⟨Nat.le_refl _, by simp, (k, v), by simp, rfl, rfl⟩
    · obtain ⟨h1, h2, x, h3, h4, h5⟩ := imentFrom_mem r (n + 1) h
      refine ⟨by omega, by simp; omega, x, ?_, h4, h5⟩
      rw [show e.born - n = (e.born - (n + 1)) + 1 by omega]
      simpa using h3

theorem imentFrom_get : ∀ (l : List (Int × Value)) (n k : Nat) (x : Int × Value), l[k]? = some x → ⟨iv x.1, x.2, n + k⟩ ∈ imentFrom n l
  | [], _, _, _, h => by simp at h
  | (j, v) :: r, n, 0, x, h => by simp at h; subst h; simp [imentFrom]
  | (j, v) :: r, n, k + 1, x, h => by
    have := imentFrom_get r (n + 1) k x (by simpa using h)
    rw [show n + (k + 1) = n + 1 + k by omega]
    exact List.mem_cons_of_mem _ this

theorem imentFrom_born : ∀ (l : List (Int × Value)) (n : Nat), (imentFrom n l).map (·.born) = (List.range l.length).map (n + ·)
  | [], _ => rfl
  | (k, v) :: r, n => by
    simp only [imentFrom, List.map_cons, imentFrom_born r (n + 1), List.length_cons, List.range_succ_eq_map, List.map_map]
    simp only [Nat.add_zero, List.cons.injEq, true_and]
    refine List.map_congr_left fun x _ => ?_
    show n + 1 + x = n + (x + 1)
    omega
theorem imentFrom_nodup (l : List (Int × Value)) : ((imentFrom 0 l).map (·.born)).Nodup := by
  rw [imentFrom_born]
  simp [List.nodup_range]

section
variable {P : Program} {ops : Array Oper} {rest : List Oper} {o : Oper} {a : Act} {w w0 : World} {Q : Exit → Act → World → Prop} {S : List Nat} {R : List (World → Prop)} {L : List Res}

theorem wl_makeMapI (H : Own w0 S R L w) {T : TypeId} (ho : o.op = .makeMap T none) (hw : Region.wanted o (yielded ops a.tmps) = true)
    (h : ∀ b w', w0.heap.size ≤ b → Own w0 S R (.blk b (iobj []) :: L) w' → wpList P ops Q rest (a.put o.dst (.map (some b))) w') : wpList P ops Q (o :: rest) a w :=
  wl_run hw (run_makeMap0 ho w) (h _ _ H.size (H.alloc _))

theorem wl_insertI (H : Own w0 S R L w) (i : Nat) {T kt et : TypeId} {m k x : Operand} (ho : o.op = .insert T m k x) (hw : Region.wanted o (yielded ops a.tmps) = true)
    (hT : P.underlying T = some (.map kt et)) (hk : P.underlying kt = some (.int .i64)) {b : Nat} {l : List (Int × Value)} (hm : a.eval m = .map (some b)) (hi : L[i]? = some (.blk b (iobj l)))
    (key : Int) (hkey : a.eval k = iv key) {v : Value} (hx : a.eval x = v) (hnew : ifind key l = none)
    (h : ∀ w', Own w0 S R (L.set i (.blk b (iobj (l ++ [(key, v)])))) w' → wpList P ops Q rest (a.put o.dst undef) w') : wpList P ops Q (o :: rest) a w := by
  subst hx
  have hb := H.blk hi
  obtain ⟨r, h1, h2⟩ := findNow_iment key l 0 0
  have hr : r = none := by cases r with | none => rfl | some y => rw [hnew] at h2; simp at h2
  subst hr
  have hlt : b < w.heap.size := (Array.getElem?_eq_some_iff.1 hb).1
  let w' : World := { w with heap := w.heap.setIfInBounds b (iobj (l ++ [(key, a.eval x)])) }
  have hrun : (execOp a.eval o).run P w = .ok .skip w' := by
    unfold execOp; rw [ho]
    have hg : (getObj b).run P w = .ok (iobj l) w := by
      simp only [getObj, Sem.run, hb]; rfl
    have hs : (setObj b (.map ((imentFrom 0 l).toArray.push { key := iv key, val := a.eval x, born := l.length }) (l.length + 1))).run P w = .ok () w' := by
      simp only [setObj, Sem.run, hb]
      show Result.ok () _ = Result.ok () w'
      congr 3
      simp [iobj, imentFrom_snoc]
    simp only [hm, hkey, Instr.mapUpdate, Sem.run_bind, run_underlying hT w, Result.andThen_ok, hg]
    simp only [iobj, checkKey_int hk, Sem.run_bind, Result.andThen_ok, Instr.findKey, run_underlying hk w, h1, hs, Sem.run_pure]
  refine wl_runS hw hrun (h _ (H.setBlk hi ⟨rfl, rfl, rfl, by simp [w'], fun c _ hne => ?_⟩ ?_))
  · simp only [w']
    rw [Array.getElem?_setIfInBounds_ne (by simpa using fun e : b = c => hne (by simp [e]))]
  · simp [w', hlt]

def itobj (b c : Nat) (seen : List Nat) : Obj := .mapIter (some b) c seen.toArray c

theorem wl_rangeI (H : Own w0 S R L w) (i : Nat) {T kt et : TypeId} {x : Operand} (ho : o.op = .range T x) (hw : Region.wanted o (yielded ops a.tmps) = true)
    (hT : P.underlying T = some (.map kt et)) {b : Nat} {l : List (Int × Value)} (hm : a.eval x = .map (some b)) (hi : L[i]? = some (.blk b (iobj l)))
    (h : ∀ c w', w0.heap.size ≤ c → Own w0 S R (.blk c (itobj b l.length []) :: L) w' → wpList P ops Q rest (a.put o.dst (.pointer (some ⟨c, 0, none⟩))) w') : wpList P ops Q (o :: rest) a w := by
  have hb := H.blk hi
  have hrun : (execOp a.eval o).run P w = .ok (.value (.pointer (some ⟨w.heap.size, 0, none⟩))) (w.alloc (itobj b l.length [])) := by
    unfold execOp; rw [ho]
    have hg : (getObj b).run P w = .ok (iobj l) w := by simp only [getObj, Sem.run, hb]; rfl
    simp only [hm, Instr.range, Sem.run_bind, run_underlying hT w, Result.andThen_ok, hg]
    simp only [iobj, Sem.run_bind, Sem.run_pure, Result.andThen_ok, newObj]
    rfl
  exact wl_run hw hrun (h _ _ H.size (H.alloc _))

theorem wl_nextI (H : Own w0 S R L w) (i j : Nat) {x : Operand} (ho : o.op = .next x false) (hw : Region.wanted o (yielded ops a.tmps) = true)
    {b c : Nat} {l : List (Int × Value)} {seen : List Nat} (hx : a.eval x = .pointer (some ⟨c, 0, none⟩)) (hi : L[i]? = some (.blk c (itobj b l.length seen))) (hj : L[j]? = some (.blk b (iobj l)))
    (hover : ∀ w', (∀ k, k < l.length → k ∈ seen) → Own w0 S R L w' → wpList P ops Q rest (a.put o.dst (.tuple #[.bool false])) w')
    (hnext : ∀ k e w', l[k]? = some e → k ∉ seen → Own w0 S R (L.set i (.blk c (itobj b l.length (seen ++ [k])))) w' → wpList P ops Q rest (a.put o.dst (.tuple #[.bool true, iv e.1, e.2])) w') : wpList P ops Q (o :: rest) a w := by
  have hc := H.blk hi
  have hb := H.blk hj
  have hold : ∀ x ∈ (imentFrom 0 l).toArray.toList, x.born < l.length := fun x hx => by
    have := (imentFrom_mem l 0 (by simpa using hx)).2.1
    omega
  have hmem : ∀ e, e ∈ (leftOf (imentFrom 0 l).toArray seen.toArray).toList ↔ e ∈ imentFrom 0 l ∧ e.born ∉ seen := fun e => by simp [leftOf]
  rcases run_next_at (P := P) w o.type c b l.length l.length seen.toArray (imentFrom 0 l).toArray l.length hc hb hold (Nat.le_refl _) with ⟨h0, hr⟩ | ⟨e, he, w1, hw1, hr⟩
  · refine wl_run (w' := w) (v := .tuple #[.bool false]) hw ?_ (hover w (fun k hk => ?_) H)
    · unfold execOp; rw [ho]
      simp only [hx, Sem.run_bind, hr, Result.andThen_ok]
      rfl
    · by_cases hks : k ∈ seen
      · exact hks
      · exfalso
        have h1 := (hmem ⟨iv (l[k]'hk).1, (l[k]'hk).2, 0 + k⟩).2 ⟨imentFrom_get l 0 k _ (List.getElem?_eq_getElem hk), by simpa using hks⟩
        have h2 : (leftOf (imentFrom 0 l).toArray seen.toArray).toList = [] := by
          apply List.eq_nil_of_length_eq_zero
          simpa using h0
        rw [h2] at h1
        cases h1
  · obtain ⟨h1, h2⟩ := (hmem e).1 he
    obtain ⟨_, h3, x', h4, h5, h6⟩ := imentFrom_mem l 0 h1
    have H1 : Own w0 S R L w1 := by
      rcases hw1 with rfl | rfl
      · exact H
      · exact H.drew
    have hlt : c < w1.heap.size := (Array.getElem?_eq_some_iff.1 (H1.blk hi)).1
    refine wl_run (v := .tuple #[.bool true, e.key, e.val]) hw (w' := setBlock w1 c (.mapIter (some b) l.length (seen.toArray.push e.born) l.length)) ?_ ?_
    · unfold execOp; rw [ho]
      simp only [hx, Sem.run_bind, hr, Result.andThen_ok]
      rfl
    · rw [h5, h6]
      refine hnext e.born x' _ (by simpa using h4) h2 (H1.setBlk hi ⟨rfl, rfl, rfl, by simp [setBlock], fun d _ hne => ?_⟩ ?_)
      · simp only [setBlock]
        rw [Array.getElem?_setIfInBounds_ne (by simpa using fun e : c = d => hne (by simp [e]))]
      · simp [setBlock, hlt, itobj]

theorem rp_entryI (H : Own w0 S R L w) (i j : Nat) {x : Operand} (ho : o.op = .entry x) {b c : Nat} {l : List (Int × Value)} {seen : List Nat} {k : Nat} (hx : a.eval x = .pointer (some ⟨c, 0, none⟩))
    (hi : L[i]? = some (.blk c (itobj b l.length (seen ++ [k])))) (hj : L[j]? = some (.blk b (iobj l))) {e : Int × Value} (he : l[k]? = some e) : (execOp a.eval o).run P w = .ok (.value (.tuple #[iv e.1, e.2])) w := by
  have hc := H.blk hi
  have hb := H.blk hj
  have hr := run_entry_at (P := P) w c b l.length seen.toArray (imentFrom 0 l).toArray l.length ⟨iv e.1, e.2, 0 + k⟩ (by rw [hc]; simp [itobj]) hb (by simpa using imentFrom_get l 0 k e he) (by simpa using imentFrom_nodup l)
  unfold execOp; rw [ho]
  simp only [hx, Sem.run_bind, hr, Result.andThen_ok]
  rfl
end
end Go.Proofs.YtimonjemjhecoaaGreatDoor
