/- More operations: literals, strings, bits, equality of structures, rows that grow, calls that hand back something new. No program in sight. -/
import Derived.Test.YtimonjemjhecoaaGreatDoorSxCall
import Derived.Laws.Tables
import Derived.Great.BuildSlice
import Derived.Laws.OwnMore
import Derived.DeepKeys
import Derived.Laws.StructEq
import Derived.Deep.LoopGhost
namespace Go.Proofs.YtimonjemjhecoaaGreatDoor
open Go.RowKit
open Go
section
variable {P : Program} {ops : Array Oper} {rest : List Oper} {o : Oper} {a : Act} {w w0 : World} {Q : Exit → Act → World → Prop} {S : List Nat} {R : List (World → Prop)} {L : List Res}

theorem wp_loopX {c : Code} (I : Nat → Act → World → Prop) (n₀ : Nat) (h₀ : I n₀ a w)
    (round : ∀ n a w, I n a w → c.wp P (Exit.then (fun a' w' => ∃ n', n' < n ∧ I n' a' w') Q) a w) : (Code.loop c).wp P Q a w := wp_loop_ghost I n₀ h₀ round

theorem Own.ne (H : Own w0 S R L w) (i j : Nat) {b c : Nat} {ob oc : Obj} (hi : L[i]? = some (.blk b ob)) (hj : L[j]? = some (.blk c oc)) (hij : i ≠ j) : b ≠ c := fun e => by
  subst e
  exact apart_at H.apart hi hj hij (b := b) rfl rfl
theorem Own.dropNew (H : Own w0 S R L w) (i : Nat) {r : Res} (hi : L[i]? = some r) (hn : ∀ b, r.foot = some b → w0.heap.size ≤ b) : Own w0 S R (L.eraseIdx i) w :=
  H.drop i fun s hs b hb hS => by
    rw [hi] at hs
    cases hs
    have h1 := hn b hb
    have h2 := H.lent b hS
    omega
theorem foot_blk {n b : Nat} {ob : Obj} (h : n ≤ b) : ∀ c, (Res.blk b ob).foot = some c → n ≤ c := fun c hc => by cases hc; exact h
theorem rp_bconv {b c : Bool} (h : (execOp a.eval o).run P w = .ok (.value (.bool b)) w) (e : b = c) : (execOp a.eval o).run P w = .ok (.value (.bool c)) w := by subst e; exact h
theorem Own.beside (H : Own w0 S R L w) (i : Nat) {b : Nat} {ob : Obj} (hi : L[i]? = some (.blk b ob)) {φ : World → Prop} (hφ : φ ∈ R) : ∀ w', (∀ c, c < w.heap.size → c ≠ b → w'.heap[c]? = w.heap[c]?) → φ w' := fun w' hw => by
  obtain ⟨F, f1, f2⟩ := H.ro
  exact f2 φ hφ w' fun c hc => hw c (f1 c hc).1 (fun e => (f1 c hc).2 _ (List.mem_of_getElem? hi) (by rw [e]; rfl))
theorem rp_build {T : TypeId} {ps : List (Nat × Operand)} (ho : o.op = .build T ps.toArray) {vs : List (Nat × Value)} (hv : ps.map (fun x => (x.1, a.eval x.2)) = vs) {cs : Array Value} (h : P.built T vs = some cs) :
    (execOp a.eval o).run P w = .ok (.value (.agg cs)) w := by
  subst hv
  unfold execOp; rw [ho]
  have : (ps.toArray.map fun (x : Nat × Operand) => (x.1, a.eval x.2)).toList = ps.map (fun x => (x.1, a.eval x.2)) := by simp
  simp only [Sem.run_bind, run_build w T _ cs (by rw [this]; exact h), Result.andThen_ok]
  rfl

theorem xa_buildSlice {T e n k : Nat} {ps : List (Nat × Operand)} (ho : o.op = .buildSlice T n ps.toArray) (hu : P.underlying T = some (.slice e)) (hs : (P.info? e).map (·.size) = some k) {z : Value} (hz : (P.info? e).bind (·.zero) = some z)
    (hsmall : n * k ≤ 16777216) (hpos : 0 < n * k) {vs : List (Nat × Value)} (hv : ps.map (fun x => (x.1, a.eval x.2)) = vs) {cs : Array Value}
    (h : Instr.fill (fun i => some (i * k, k)) ((Array.range (n * k)).map (z.cells[· % z.cells.size]!)) vs = some cs) :
    xAlloc P o a (.cells cs e) (fun b => .slice (some ⟨b, 0, none⟩) n n) := fun w => by
  subst hv
  obtain ⟨i, hi, rfl⟩ := Option.map_eq_some_iff.1 hs
  obtain ⟨j, hj, hzz⟩ := Option.bind_eq_some_iff.1 hz
  rw [hi] at hj; cases hj
  unfold execOp; rw [ho]
  have e1 : (ps.toArray.map fun (x : Nat × Operand) => (x.1, a.eval x.2)).toList = ps.map (fun x => (x.1, a.eval x.2)) := by simp
  have := run_buildSlice (P := P) w T e n (ps.toArray.map fun (x : Nat × Operand) => (x.1, a.eval x.2)) cs i z hu hi hzz (by omega) (by omega) (by rw [e1]; exact h)
  simp only [Sem.run_bind, this, Result.andThen_ok]
  rfl
theorem wl_xallocF (H : Own w0 S R L w) (hw : Region.wanted o (yielded ops a.tmps) = true) {ob : Obj} {mk : Nat → Value} (ha : xAlloc P o a ob mk)
    (h : ∀ b w', w0.heap.size ≤ b → Own w0 S ((fun w => w.heap[b]? = some ob) :: R) L w' → wpList P ops Q rest (a.put o.dst (mk b)) w') : wpList P ops Q (o :: rest) a w :=
  wl_run hw (ha w) (h _ _ H.size (H.fresh (Ext.alloc w ob) (Fresh.alloc w ob)))

theorem slin_blk {α : Type} [Inhabited α] {n : Nat} {en : α → List Value} {b cap : Nat} {cs : Array Value} {T : TypeId} {fr : Nat × Nat} {l : List α} (hb : w.heap[b]? = some (.cells cs T fr))
    (hcs : l.flatMap en <+: cs.toList) (hen : ∀ x, (en x).length = n ∧ 0 < n) (hl : l.length ≤ 140737488355328) (hc : l.length ≤ cap := by first | exact Nat.le_refl _ | simp | omega | decide) : SlIn n en ⟨some ⟨b, 0, none⟩, cap, l⟩ w := by
  refine ⟨fun i hi => ⟨rfl, fun j v hv => ?_⟩, hen, hl, hc⟩
  show w.cell? ⟨b, 0 + i * n + j, none⟩ = some v
  rw [cell_of_row w b _ cs T fr hb]
  have hi' : i < l.length := hi
  have key : ∀ (l : List α) (i : Nat), i < l.length → ∀ v, (en (l.getD i default))[j]? = some v → (l.flatMap en)[i * n + j]? = some v := by
    intro l
    induction l with
    | nil => intro i hi; simp at hi
    | cons x l ih =>
      intro i hi v hv
      have hx := (hen x).1
      rw [List.flatMap_cons]
      cases i with
      | zero =>
        have hj : j < (en x).length := (List.getElem?_eq_some_iff.1 (by simpa using hv)).1
        rw [List.getElem?_append_left (by omega)]
        simpa using hv
      | succ i =>
        rw [List.getElem?_append_right (by rw [hx, Nat.succ_mul]; omega), show (i + 1) * n + j - (en x).length = i * n + j by rw [hx, Nat.succ_mul]; omega]
        exact ih i (by simpa using hi) v (by simpa using hv)
  have := key l i hi' v hv
  obtain ⟨t, ht⟩ := hcs
  have h2 : cs.toList[i * n + j]? = some v := by
    rw [← ht, List.getElem?_append_left (List.getElem?_eq_some_iff.1 this).1]; exact this
  simpa using h2

def band (x y : Int) : Int := IntKind.i64.wrap (((BitVec.ofInt 64 x) &&& (BitVec.ofInt 64 y)).toNat : Int)
theorem rp_int_and {T T' : TypeId} {x y : Operand} (ho : o.op = .binOp .and T x y T') (p q : Int) (hx : a.eval x = iv p) (hy : a.eval y = iv q) :
    (execOp a.eval o).run P w = .ok (.value (iv (band p q))) w := by unfold execOp; rw [ho]; simp only [hx, hy]; rfl
def sat (s : ByteArray) (k : Nat) : UInt8 := s.data.getD k 0
theorem rp_str_eql {T T' : TypeId} {x y : Operand} (ho : o.op = .binOp .eql T x y T') (p q : ByteArray) (hx : a.eval x = .string p) (hy : a.eval y = .string q) :
    (execOp a.eval o).run P w = .ok (.value (.bool (decide (p = q)))) w := by
  unfold execOp; rw [ho]; simp only [hx, hy]
  show Result.ok (Next.value (.bool (p.toList == q.toList))) w = _
  congr 3
  rw [Bool.eq_iff_iff, beq_iff_eq, decide_eq_true_iff, ByteArray.toList_eq, ByteArray.toList_eq]
  obtain ⟨⟨x⟩⟩ := p
  obtain ⟨⟨y⟩⟩ := q
  simp
theorem rp_str_neq {T T' : TypeId} {x y : Operand} (ho : o.op = .binOp .neq T x y T') (p q : ByteArray) (hx : a.eval x = .string p) (hy : a.eval y = .string q) :
    (execOp a.eval o).run P w = .ok (.value (.bool (!decide (p = q)))) w := by
  unfold execOp; rw [ho]; simp only [hx, hy]
  show Result.ok (Next.value (.bool (!(p.toList == q.toList)))) w = _
  congr 4
  rw [Bool.eq_iff_iff, beq_iff_eq, decide_eq_true_iff, ByteArray.toList_eq, ByteArray.toList_eq]
  obtain ⟨⟨x⟩⟩ := p
  obtain ⟨⟨y⟩⟩ := q
  simp
theorem rp_index_string {T : TypeId} {x ix : Operand} (ho : o.op = .index T x ix) (hT : P.underlying T = some .string) {s : ByteArray} (hx : a.eval x = .string s) {kd : IntKind} (k : Nat) (hk : a.eval ix = .int kd (k : Int)) (hlt : k < s.size) :
    (execOp a.eval o).run P w = .ok (.value (bv (sat s k))) w := by
  unfold execOp; rw [ho]; simp only [hx, hk, Instr.index, asIntOf, Sem.run_bind, Sem.run_pure, run_underlying hT w, Result.andThen_ok]
  have h1 : s[k]? = some (sat s k) := by
    have : s[k]? = some s[k] := getElem?_pos s k hlt
    rw [this, sat]
    congr 1
    show s.data[k]'hlt = s.data.getD k 0
    exact (Array.getElem_eq_getD 0)
  rw [if_pos (by omega)]
  simp only [Int.toNat_natCast, h1]
  rfl
theorem run_bound {v : Value} {n m : Nat} {kd : IntKind} {q : BoundsCode} (hv : v = .int kd (n : Int)) (h : n ≤ m) (w : World) : (Instr.sliceBound v m q).run P w = .ok n w := by
  subst hv
  simp [Instr.sliceBound, asIntOf, Sem.run_bind, h]
theorem rp_slice_str_lh {T : TypeId} {x lo hi : Operand} (ho : o.op = .slice T x (some lo) (some hi) none) (hT : P.underlying T = some .string) {s : ByteArray} (hx : a.eval x = .string s) (l : Nat) {kl : IntKind} (hl : a.eval lo = .int kl (l : Int)) (h : Nat) {kh : IntKind} (hh : a.eval hi = .int kh (h : Int))
    (hb : l ≤ h ∧ h ≤ s.size) : (execOp a.eval o).run P w = .ok (.value (.string (s.extract l h))) w := by
  unfold execOp; rw [ho]
  simp only [hx, Option.map_some, Option.map_none, Instr.sliceAt, Sem.run_bind, run_underlying hT w, Result.andThen_ok]
  simp only [Instr.slice, Instr.sliceBounds, Sem.run_bind, run_underlying hT w, Result.andThen_ok, Option.isSome_none, Bool.false_eq_true, if_false, Sem.run_pure, run_bound hl hb.1 w, run_bound hh hb.2 w]
theorem rp_slice_str_l {T : TypeId} {x lo : Operand} (ho : o.op = .slice T x (some lo) none none) (hT : P.underlying T = some .string) {s : ByteArray} (hx : a.eval x = .string s) (l : Nat) {kl : IntKind} (hl : a.eval lo = .int kl (l : Int))
    (hb : l ≤ s.size) : (execOp a.eval o).run P w = .ok (.value (.string (s.extract l s.size))) w := by
  unfold execOp; rw [ho]
  simp only [hx, Option.map_some, Option.map_none, Instr.sliceAt, Sem.run_bind, run_underlying hT w, Result.andThen_ok]
  simp only [Instr.slice, Instr.sliceBounds, Sem.run_bind, run_underlying hT w, Result.andThen_ok, Option.isSome_none, Bool.false_eq_true, if_false, Sem.run_pure, run_bound hl hb w]
theorem rp_max2 {x y : Operand} {dst : Option Tmp} {ats : Array TypeId} {ty : TypeId} {pos : String} {after : Array Edge} {guard : Option (Nat × Bool)} (ho : x = x) (p q : Int) (hx : a.eval x = iv p) (hy : a.eval y = iv q) :
    (execOp a.eval { dst, op := .call { callee := .builtin .max, args := #[x, y], argTypes := ats }, type := ty, pos, after, guard }).run P w = .ok (.value (iv (max p q))) w := by
  rw [BigFrame.execOp_builtin, show (#[x, y].map a.eval) = #[a.eval x, a.eval y] by simp, hx, hy]
  rw [BigFrame.builtin_max]
  have e : (if q > p then q else p) = max p q := by omega
  simp [Builtin.max_, Builtin.max2, e]

theorem rp_loadNro (H : Own w0 S R L w) (i : Nat) {t : TypeId} {x : Operand} (ho : o.op = .load t x)
    {b off : Nat} (hx : a.eval x = .pointer (some ⟨b, off, none⟩)) {cs : Array Value} {T : TypeId} {fr : Nat × Nat} (hi : R[i]? = some (fun w => w.heap[b]? = some (.cells cs T fr)))
    {d : TypeDesc} (hu : P.underlying t = some d) (hd : d.isRow = true) {n : Nat} (hn : (P.info? t).map (·.size) = some n) (hl : off + n ≤ cs.size)
    {cs' : List Value} (hcs : (cs.toList.drop off).take n = cs') : (execOp a.eval o).run P w = .ok (.value (.agg cs'.toArray)) w := by
  subst hcs
  refine run_loadN ho hu hd hx (by rw [hn]; simp; omega) ?_
  intro j v hv
  rw [cell_of_row w b (off + j) cs T fr (H.ro_at i hi)]
  rw [List.getElem?_take] at hv
  split at hv
  · rw [List.getElem?_drop] at hv; simpa using hv
  · cases hv
theorem cell_of_news {b : Nat} {cs : Array Value} {T : TypeId} {fr : Nat × Nat} (hb : w.heap[b]? = some (.cells cs T fr)) (j : Nat) (u : Value) (hu : cs.toList[j]? = some u) : w.cell? ((⟨b, 0, none⟩ : Addr).add j) = some u := by
  rw [Addr.add_mid, cell_of_row w b _ cs T fr hb]
  simpa using hu

theorem wl_storeL (H : Own w0 S R L w) (i : Nat) {t : TypeId} {x y : Operand} (ho : o.op = .store t x y) (hw : Region.wanted o (yielded ops a.tmps) = true)
    {b off : Nat} (hx : a.eval x = .pointer (some ⟨b, off, none⟩)) {cs : Array Value} {T : TypeId} (hi : L[i]? = some (.blk b (.cells cs T (0, 0))))
    {vs : Array Value} (hy : a.eval y = .agg vs) (h1 : ∀ v ∈ vs.toList, v.oneCell' = true) (hn : (P.info? t).map (·.size) = some vs.size) (hoff : off + vs.size ≤ cs.size)
    {cs' : Array Value} (hcs : (cs.toList.take off ++ vs.toList ++ cs.toList.drop (off + vs.size)).toArray = cs')
    (h : ∀ w', Own w0 S R (L.set i (.blk b (.cells cs' T (0, 0)))) w' → wpList P ops Q rest (a.put o.dst undef) w') : wpList P ops Q (o :: rest) a w := by
  subst hcs
  exact wl_storeN H i ho hw hx hi hy h1 hn hoff h

theorem rp_eql_deep {T T' : TypeId} {x y : Operand} (ho : o.op = .binOp .eql T x y T') (m D D' : Nat) (hm : m ≤ 10000) (hk : P.keyTypeAt m T = true) (hg : P.eqGuardType P.depth T = false) {xs ys : Array Value} (hx : a.eval x = .agg xs) (hy : a.eval y = .agg ys)
    (fx : (Value.agg xs).formed P T = true) (fy : (Value.agg ys).formed P T = true) {la lb : List Lit} (ha : P.keyLits D T xs.toList = some la) (hb : P.keyLits D' T ys.toList = some lb) {r : Bool} (hr : r = true ↔ la = lb) :
    (execOp a.eval o).run P w = .ok (.value (.bool r)) w := by
  obtain ⟨q, h1, h2⟩ := run_equalIn_deep (P := P) (10000 - m) m T hk w D D' (.agg xs) (.agg ys) la lb fx fy ha hb
  rw [show 10000 - m + m = 10000 by omega] at h1
  have : q = r := by rw [Bool.eq_iff_iff, h2, hr]
  subst this
  unfold execOp; rw [ho]; simp only [hx, hy]
  simp only [Sem.run_bind, run_eqGuard_agg w _ _ _ _ _ _ hg, run_eql_struct w, h1, Result.andThen_ok]
  rfl
theorem rp_neq_deep {T T' : TypeId} {x y : Operand} (ho : o.op = .binOp .neq T x y T') (m D D' : Nat) (hm : m ≤ 10000) (hk : P.keyTypeAt m T = true) (hg : P.eqGuardType P.depth T = false) {xs ys : Array Value} (hx : a.eval x = .agg xs) (hy : a.eval y = .agg ys)
    (fx : (Value.agg xs).formed P T = true) (fy : (Value.agg ys).formed P T = true) {la lb : List Lit} (ha : P.keyLits D T xs.toList = some la) (hb : P.keyLits D' T ys.toList = some lb) {r : Bool} (hr : r = true ↔ la = lb) :
    (execOp a.eval o).run P w = .ok (.value (.bool (!r))) w := by
  obtain ⟨q, h1, h2⟩ := run_equalIn_deep (P := P) (10000 - m) m T hk w D D' (.agg xs) (.agg ys) la lb fx fy ha hb
  rw [show 10000 - m + m = 10000 by omega] at h1
  have : q = r := by rw [Bool.eq_iff_iff, h2, hr]
  subst this
  unfold execOp; rw [ho]; simp only [hx, hy]
  simp only [Sem.run_bind, run_eqGuard_agg w _ _ _ _ _ _ hg, run_neq_struct w, h1, Result.andThen_ok]
  rfl

theorem wl_callF (H : Own w0 S R L w) (hw : Region.wanted o (yielded ops a.tmps) = true) {f : FuncId} {args : Array Value} (hrun : ∀ w, (execOp a.eval o).run P w = .ok (.enter f args) w) {X : Type} {val : X → Value} {φ : X → World → Prop}
    (hc : Calls P f args w fun e w' => ∃ x, e = .returned (val x) ∧ Ext w w' ∧ Fresh w w' (φ x))
    (h : ∀ x w', Own w0 S (φ x :: R) L w' → wpList P ops Q rest (a.put o.dst (val x)) w') : wpList P ops Q (o :: rest) a w :=
  wpList_step fun K hK => by
    rw [if_pos hw]
    unfold Oper.wp
    rw [hrun, Oper.upon_enter]
    exact hc.mono fun e w' ⟨x, he, hE, hF⟩ => by subst he; exact hK _ _ (h x _ (H.fresh hE hF))
structure IsFn (P : Program) (f : FuncId) : Prop where
  ok : ∃ fn c, P.funcs[f]? = some fn ∧ (fn.name == "runtime.NumGoroutine") = false ∧ fn.body = some c
theorem rc_fnv {dst : Option Tmp} {f : FuncId} {x : Operand} {l : List Operand} {ats : Array TypeId} {ty : TypeId} {pos : String} {after : Array Edge} {guard : Option (Nat × Bool)} {first captured : List Value}
    (hx : a.eval x = .func (.func f) first.toArray captured.toArray) (hf : IsFn P f) (w : World) :
    (execOp a.eval { dst, op := .call { callee := .value x, args := l.toArray, argTypes := ats }, type := ty, pos, after, guard }).run P w = .ok (.enter f (first ++ l.map a.eval ++ captured).toArray) w := by
  obtain ⟨fn, c, h1, h2, h3⟩ := hf.ok
  exact rc_fn hx h1 h2 h3 w

theorem Own.rowNil (H : Own w0 S R L w) (e : TypeId) (size : Nat) : Own w0 S R (.row (.slice none 0 0) e size 0 [] :: L) w :=
  H.add (Ext.refl w) _ (ownsRowW_of (World.ownsRow_nil w 0 e size)) (fun b hb => by cases hb)

theorem run_append_foot {T ty e : TypeId} {inf : TypeInfo} {z : Value} (hT : P.underlying T = some (.slice e)) (hi : P.info? e = some inf) (hz : inf.zero = some z) (hzs : z.cells.size = inf.size) (hsz : 0 < inf.size)
    {v : Value} {n : Nat} {xs : List Value} (hown : ownsRowW w e inf.size v n xs) {ad : Addr} {m c : Nat} {news : List Value} (hl : news.length = m * inf.size) (hnews : ∀ j u, news[j]? = some u → w.cell? (ad.add j) = some u) (h1 : ∀ u ∈ news, u.oneCell' = true)
    (hn : n + m ≤ maxLen) (hb : (n + m) * inf.bytes ≤ 140737488355328) :
    ∃ v' w', (Builtin.append_ #[T, T] ty #[v, .slice (some ad) m c]).run P w = .ok v' w' ∧ ownsRowW w' e inf.size v' (n + m) (xs ++ news) ∧ w.grownBy w' v.ownBlock ∧ ∀ b, v'.ownBlock = some b → v.ownBlock = some b ∨ w.heap.size ≤ b := by
  have hs : n + m ≤ 9223372036854775807 := by simpa [maxLen] using hn
  have hlen : (xs ++ news).length = (n + m) * inf.size := by rw [List.length_append, hown.1, hl, Nat.add_mul]
  rcases hown.2 with ⟨rfl, rfl⟩ | ⟨g, cap, cur, rfl, _, hgb, hnc, hcm, hcs, htk⟩
  · obtain rfl : xs = [] := List.eq_nil_of_length_eq_zero (by simpa using hown.1)
    obtain ⟨v', w', hr, ho, hg, _⟩ := run_append_own (P := P) w 0 T ty e inf z inf.size inf.bytes hT hi hz rfl rfl hzs hsz (.slice none 0 0) 0 [] (World.ownsRow_nil w 0 e inf.size) ad m c news hl hnews h1 hn hb (Nat.zero_le _)
    refine ⟨v', w', hr, ownsRowW_of ho, hg, ?_⟩
    intro b hbb
    rcases Nat.eq_zero_or_pos m with rfl | hm
    · rcases ho.2 with ⟨rfl, _⟩ | ⟨g, cap, cur, rfl, _, hgb, _⟩
      · cases hbb
      · right
        obtain rfl : news = [] := List.eq_nil_of_length_eq_zero (by simpa using hl)
        have h2 : (Builtin.append_ #[T, T] ty #[.slice none 0 0, .slice (some ad) 0 c]).run P w = .ok (.slice none 0 0) w := by
          simp [Builtin.append_, run_underlying hT, sizeOf, typeInfo, hi, Builtin.lenOf, Builtin.firstCells, loadCells, loadCellsFrom]
        rw [h2] at hr
        cases hr
    · right
      have h2 := run_append_nil (P := P) w T ty e inf z hT hi hz ad m c news hl hnews (by omega) (by omega) (by simp only [Nat.zero_add] at hb; omega)
      rw [h2] at hr
      cases hr
      simp only [Value.ownBlock, Option.some.injEq] at hbb
      omega
  · by_cases hroom : n + m ≤ cap
    · have hfit : n * inf.size + news.length ≤ cur.size := by rw [hl, ← Nat.add_mul]; exact Nat.le_trans (Nat.mul_le_mul_right _ hroom) hcs
      have hr := run_append_room (P := P) w T ty e inf hT hi g n cap cur hgb ad m c news hl hnews h1 hroom hfit
      refine ⟨_, _, hr, ⟨hlen, .inr ⟨g, cap, _, rfl, Nat.zero_le _, setRow_heap w g cur _ e _ hgb, hroom, hcm, ?_, ?_⟩⟩, ⟨rfl, rfl, rfl, by simp, fun k _ hk => setRow_other w g k _ (fun e => hk (by simp [Value.ownBlock, e]))⟩, fun b hbb => .inl hbb⟩
      · simp only [List.size_toArray, List.length_append, List.length_take, List.length_drop, Array.length_toList]
        omega
      · rw [htk, ← hlen]
        exact List.take_left
    · have hgr := run_append_grow (P := P) w T ty e inf z hT hi hz ⟨g, 0, none⟩ n cap xs hown.1 (ownsRowW_cells hown (g := g) rfl) ad m c news hl hnews (by omega) (by omega) (growslice_fits (by omega) hb)
      have hge := grownCap_ge w (n + m) cap e
      have hcm2 : grownCap w (n + m) cap e ≤ maxLen := grownCap_le_maxLen w (n + m) cap e hn
      refine ⟨_, _, hgr, ⟨hlen, .inr ⟨w.heap.size, _, _, rfl, Nat.zero_le _, heap_alloc_new w.drew _, hge, hcm2, ?_, ?_⟩⟩, ⟨rfl, rfl, rfl, by simp, fun k hk _ => by first | exact heap_alloc_old w.drew _ hk | exact heap_alloc_old w.drew _ k hk⟩, fun b hbb => ?_⟩
      · simp only [Array.size_append, List.size_toArray, size_zeroCells, hzs, hown.1, hl, ← Nat.add_mul]
        exact Nat.mul_le_mul_right _ (by omega)
      · simp only [Array.toList_append, List.append_assoc]
        rw [← List.append_assoc, ← hlen]
        exact List.take_left
      · right
        simp only [Value.ownBlock, Option.some.injEq] at hbb
        omega

theorem wl_append (H : Own w0 S R L w) (i : Nat) {dst : Option Tmp} {x y : Operand} {T : TypeId} {ty : TypeId} {pos : String} {after : Array Edge} {guard : Option (Nat × Bool)}
    (hw : Region.wanted { dst, op := .call { callee := .builtin .append, args := #[x, y], argTypes := #[T, T] }, type := ty, pos, after, guard } (yielded ops a.tmps) = true)
    {e size bytes n m c : Nat} {z v : Value} {xs news : List Value} {ad : Addr} (hT : P.underlying T = some (.slice e)) (hs : (P.info? e).map (·.size) = some size) (hz : (P.info? e).bind (·.zero) = some z) (hby : (P.info? e).map (·.bytes) = some bytes)
    (hzs : z.cells.size = size) (hsz : 0 < size) (hi : L[i]? = some (.row v e size n xs)) (hx : a.eval x = v) (hy : a.eval y = .slice (some ad) m c)
    (hl : news.length = m * size) (hnews : ∀ j u, news[j]? = some u → w.cell? (ad.add j) = some u) (h1 : ∀ u ∈ news, u.oneCell' = true) (hb : (n + m) * bytes ≤ 140737488355328) (hn : n + m ≤ 9223372036854775807)
    (hS : ∀ b ∈ S, v.ownBlock ≠ some b)
    (h : ∀ v' w', Own w0 S R (L.set i (.row v' e size (n + m) (xs ++ news))) w' → wpList P ops Q rest (a.put dst v') w') :
    wpList P ops Q ({ dst, op := .call { callee := .builtin .append, args := #[x, y], argTypes := #[T, T] }, type := ty, pos, after, guard } :: rest) a w := by
  subst hx
  obtain ⟨inf, hinf, rfl⟩ := Option.map_eq_some_iff.1 hs
  obtain ⟨j, hj, hzz⟩ := Option.bind_eq_some_iff.1 hz
  rw [hinf] at hj; cases hj
  obtain rfl : inf.bytes = bytes := by simpa [hinf] using hby
  obtain ⟨v', w', hr, ho, hg, hf⟩ := run_append_foot (P := P) (ty := ty) (c := c) hT hinf hzz hzs hsz (H.at hi) hl hnews h1 (by simpa [maxLen] using hn) hb
  refine wl_run (w' := w') (v := v') hw ?_ (h v' w' ?_)
  · rw [BigFrame.execOp_builtin, BigFrame.builtin_append]
    rw [show (#[x, y].map a.eval) = #[a.eval x, a.eval y] by simp, hy]
    simp only [Sem.run_bind, hr, Result.andThen_ok]
    rfl
  · refine H.turn hi hg.os hg.tape hg.output hg.size (fun b hb hne => hg.block b hb (fun e => hne e.symm)) ho hf ?_
    intro b hb hbf
    rcases H.new _ (List.mem_of_getElem? hi) b hbf with h2 | h2
    · omega
    · exact absurd hbf (hS b h2)

end
end Go.Proofs.YtimonjemjhecoaaGreatDoor
