/- Regions that draw their order and hold calls, allocations and a tail of stores: quiet operations are taken first, in whatever order the tape picks. No program in sight. -/
import Derived.Test.YtimonjemjhecoaaGreatDoorSxOps
namespace Go.Proofs.YtimonjemjhecoaaGreatDoor
open Go.RowKit
open Go
section
variable {P : Program} {md : Region.Mode} {ops : Array Oper} {Q : Exit → Act → World → Prop} {w0 : World} {S : List Nat} {R : List (World → Prop)} {L : List Res}

def XInv (w0 : World) (S : List Nat) (R : List (World → Prop)) (L : List Res) (M : List (World → Prop)) (N : List Res) (w : World) : Prop :=
  Own w0 S (M ++ R) (N ++ L) w ∧ ∀ r ∈ N, ∀ b, r.foot = some b → w0.heap.size ≤ b

def xQuiet (P : Program) (w0 : World) (S : List Nat) (R : List (World → Prop)) (L : List Res) (o : Oper) (a : Act) (v : Value) : Prop :=
  ∀ w, Own w0 S R L w → Oper.quietUpon P (Ext w) w v ((execOp a.eval o).run P w)

def xAlloc (P : Program) (o : Oper) (a : Act) (ob : Obj) (mk : Nat → Value) : Prop :=
  ∀ w, (execOp a.eval o).run P w = .ok (.value (mk w.heap.size)) (w.alloc ob)

def xStore (P : Program) (o : Oper) (a : Act) (b : Nat) (ob ob' : Obj) : Prop :=
  ∀ w, w.heap[b]? = some ob → ∃ w', (execOp a.eval o).run P w = .ok .skip w' ∧ Chg [b] w w' ∧ w'.heap[b]? = some ob'

def Fresh (w w' : World) (φ : World → Prop) : Prop :=
  ∀ w'', (∀ b, w.heap.size ≤ b → b < w'.heap.size → w''.heap[b]? = w'.heap[b]?) → φ w''

def xFresh (P : Program) (w0 : World) (S : List Nat) (R : List (World → Prop)) (L : List Res) (o : Oper) (a : Act) {X : Type} (val : X → Value) (φ : X → World → Prop) : Prop :=
  ∃ f args, (∀ w, (execOp a.eval o).run P w = .ok (.enter f args) w) ∧
    ∀ w, Own w0 S R L w → Calls P f args w fun e w' => ∃ x, e = .returned (val x) ∧ Ext w w' ∧ Fresh w w' (φ x)

def xWrites (P : Program) (w0 : World) (S : List Nat) (R : List (World → Prop)) (L : List Res) (o : Oper) (a : Act) (b : Nat) (ob ob' : Obj) (v : Value) : Prop :=
  ∃ f args, (∀ w, (execOp a.eval o).run P w = .ok (.enter f args) w) ∧
    ∀ w, Own w0 S R L w → w.heap[b]? = some ob → Calls P f args w fun e w' => e = .returned v ∧ Chg [b] w w' ∧ w'.heap[b]? = some ob'

def xAct (P : Program) (w0 : World) (S : List Nat) (R : List (World → Prop)) (L : List Res) (o : Oper) (M : List (World → Prop)) (N : List Res) (a : Act) (K : List (World → Prop) → List Res → Act → Prop) : Prop :=
  (∃ v, xQuiet P w0 S (M ++ R) L o a v ∧ K M N (a.put o.dst v)) ∨
  (∃ ob mk, xAlloc P o a ob mk ∧ ∀ b, K M (.blk b ob :: N) (a.put o.dst (mk b))) ∨
  (∃ k b ob ob', N[k]? = some (.blk b ob) ∧ xStore P o a b ob ob' ∧ K M (N.set k (.blk b ob')) (a.put o.dst undef)) ∨
  (∃ ob mk, xAlloc P o a ob mk ∧ ∀ b, K ((fun w => w.heap[b]? = some ob) :: M) N (a.put o.dst (mk b))) ∨
  (∃ (X : Type) (val : X → Value) (φ : X → World → Prop), xFresh P w0 S (M ++ R) L o a val φ ∧ ∀ x, K (φ x :: M) N (a.put o.dst (val x))) ∨
  (∃ k b ob ob' v, N[k]? = some (.blk b ob) ∧ xWrites P w0 S (M ++ R) L o a b ob ob' v ∧ K M (N.set k (.blk b ob')) (a.put o.dst v))

def xOp (P : Program) (ops : Array Oper) (w0 : World) (S : List Nat) (R : List (World → Prop)) (L : List Res) (i : Nat) (K : List (World → Prop) → List Res → Act → Prop) (M : List (World → Prop)) (N : List Res) (a : Act) : Prop :=
  match ops[i]? with
  | none => K M N a
  | some o => if Region.wanted o (yielded ops a.tmps) then xAct P w0 S R L o M N a K else K M N (a.put o.dst undef)

theorem xAct_mono {o : Oper} {M : List (World → Prop)} {N : List Res} {a : Act} {K K' : List (World → Prop) → List Res → Act → Prop} (h : ∀ M N a, K M N a → K' M N a) (hh : xAct P w0 S R L o M N a K) : xAct P w0 S R L o M N a K' := by
  rcases hh with ⟨v, h1, h2⟩ | ⟨ob, mk, h1, h2⟩ | ⟨k, b, ob, ob', h1, h2, h3⟩ | ⟨ob, mk, h1, h2⟩ | ⟨X, val, φ, h1, h2⟩ | ⟨k, b, ob, ob', v, h1, h2, h3⟩
  · exact .inl ⟨v, h1, h _ _ _ h2⟩
  · exact .inr (.inl ⟨ob, mk, h1, fun b => h _ _ _ (h2 b)⟩)
  · exact .inr (.inr (.inl ⟨k, b, ob, ob', h1, h2, h _ _ _ h3⟩))
  · exact .inr (.inr (.inr (.inl ⟨ob, mk, h1, fun b => h _ _ _ (h2 b)⟩)))
  · exact .inr (.inr (.inr (.inr (.inl ⟨X, val, φ, h1, fun x => h _ _ _ (h2 x)⟩))))
  · exact .inr (.inr (.inr (.inr (.inr ⟨k, b, ob, ob', v, h1, h2, h _ _ _ h3⟩))))

theorem xOp_mono {i : Nat} {M : List (World → Prop)} {N : List Res} {a : Act} {K K' : List (World → Prop) → List Res → Act → Prop} (h : ∀ M N a, K M N a → K' M N a) (hh : xOp P ops w0 S R L i K M N a) : xOp P ops w0 S R L i K' M N a := by
  unfold xOp at *
  split
  · rename_i ho; simp only [ho] at hh; exact h _ _ _ hh
  · rename_i o ho
    simp only [ho] at hh
    split
    · rename_i hw; simp only [hw, if_true] at hh; exact xAct_mono h hh
    · rename_i hw; simp only [hw] at hh; exact h _ _ _ hh

def wpX (P : Program) (md : Region.Mode) (ops : Array Oper) (Q : Exit → Act → World → Prop) (w0 : World) (S : List Nat) (R : List (World → Prop)) (L : List Res) (m : Nat) : Nat → Array Bool → List (World → Prop) → List Res → Act → Prop
  | 0, listed, M, N, a => Region.ready md ops listed = [] ∧ ∀ w, XInv w0 S R L M N w → Q .normal a w
  | fuel + 1, listed, M, N, a =>
    (Region.ready md ops listed = [] → ∀ w, XInv w0 S R L M N w → Q .normal a w) ∧
    ∀ i ∈ Region.ready md ops listed,
      (i < m ∧ xOp P ops w0 S R L i (wpX P md ops Q w0 S R L m fuel (listed.setIfInBounds i true)) M N a) ∨
      (m ≤ i ∧ ∀ w, XInv w0 S R L M N w → wpOp P ops Q i (wpAny P md ops Q fuel (listed.setIfInBounds i true)) a w)

theorem XInv.base {M : List (World → Prop)} {N : List Res} {w : World} (h : XInv w0 S R L M N w) : Own w0 S (M ++ R) L w := h.1.dropFront h.2
theorem XInv.step {M : List (World → Prop)} {N : List Res} {w w' : World} (h : XInv w0 S R L M N w) (he : Ext w w') : XInv w0 S R L M N w' := ⟨h.1.step he, h.2⟩
theorem Own.fresh {w w' : World} (H : Own w0 S R L w) (he : Ext w w') {φ : World → Prop} (hf : Fresh w w' φ) : Own w0 S (φ :: R) L w' := H.learn he φ fun w'' h _ => hf w'' h
theorem Fresh.alloc (w : World) (ob : Obj) : Fresh w (w.alloc ob) (fun w' => w'.heap[w.heap.size]? = some ob) := fun w'' h => by
  show w''.heap[w.heap.size]? = some ob
  rw [h _ (Nat.le_refl _) (by simp), heap_alloc_new]

theorem wpOp_of_xOp {i : Nat} {K : List (World → Prop) → List Res → Act → Prop} {K' : Act → World → Prop} {M : List (World → Prop)} {N : List Res} {a : Act} {w : World} (hX : XInv w0 S R L M N w)
    (hK : ∀ M N a w, XInv w0 S R L M N w → K M N a → K' a w) (h : xOp P ops w0 S R L i K M N a) : wpOp P ops Q i K' a w := by
  unfold xOp at h
  unfold wpOp
  split
  · rename_i ho; simp only [ho] at h; exact hK _ _ _ _ hX h
  · rename_i o ho
    simp only [ho] at h
    split
    · rename_i hw
      simp only [hw, if_true] at h
      refine .inl ?_
      unfold Oper.wp
      rcases h with ⟨v, h1, h2⟩ | ⟨ob, mk, h1, h2⟩ | ⟨k, b, ob, ob', h1, h2, h3⟩ | ⟨ob, mk, h1, h2⟩ | ⟨X, val, φ, ⟨f, args, h1, h2⟩, h3⟩ | ⟨k, b, ob, ob', v, h1, ⟨f, args, h2, h3⟩, h4⟩
      · have h4 := h1 w hX.base
        generalize (execOp a.eval o).run P w = r at *
        cases r with
        | ok n w' =>
          cases n <;> simp only [Oper.quietUpon] at h4 <;> simp only [Oper.upon]
          case value u => obtain ⟨rfl, rfl⟩ := h4; exact hK _ _ _ _ hX h2
          case skip => obtain ⟨rfl, rfl⟩ := h4; exact hK _ _ _ _ hX h2
          case enter f args =>
            obtain ⟨rfl, hc⟩ := h4
            exact hc.mono fun e w'' ⟨he, hw''⟩ => by subst he; exact hK _ _ _ _ (hX.step hw'') h2
        | halt x w' => simp only [Oper.quietUpon] at h4
      · rw [h1 w, Oper.upon_value]
        refine hK _ _ _ _ ⟨hX.1.alloc ob, fun r hr b hb => ?_⟩ (h2 _)
        rcases List.mem_cons.1 hr with rfl | hr
        · cases hb; exact hX.1.size
        · exact hX.2 r hr b hb
      · have hlt : k < N.length := (List.getElem?_eq_some_iff.1 h1).1
        have hk : (N ++ L)[k]? = some (.blk b ob) := by rw [List.getElem?_append_left hlt]; exact h1
        obtain ⟨w', h4, h5, h6⟩ := h2 w (hX.1.blk hk)
        rw [h4, Oper.upon_skip]
        refine hK _ _ _ _ ⟨?_, fun r hr c hc => ?_⟩ h3
        · have := hX.1.setBlk hk h5 h6
          rwa [List.set_append_left _ _ hlt] at this
        · rcases mem_set_cases hr with rfl | ⟨j, _, hj⟩
          · exact hX.2 _ (List.mem_of_getElem? h1) c hc
          · exact hX.2 _ (List.mem_of_getElem? hj) c hc
      · rw [h1 w, Oper.upon_value]
        exact hK _ _ _ _ ⟨hX.1.fresh (Ext.alloc w ob) (Fresh.alloc w ob), hX.2⟩ (h2 _)
      · rw [h1 w, Oper.upon_enter]
        exact (h2 w hX.base).mono fun e w'' ⟨x, he, hE, hF⟩ => by subst he; exact hK _ _ _ _ ⟨hX.1.fresh hE hF, hX.2⟩ (h3 x)
      · have hlt : k < N.length := (List.getElem?_eq_some_iff.1 h1).1
        have hk : (N ++ L)[k]? = some (.blk b ob) := by rw [List.getElem?_append_left hlt]; exact h1
        rw [h2 w, Oper.upon_enter]
        refine (h3 w hX.base (hX.1.blk hk)).mono fun e w'' ⟨he, hC, hb⟩ => ?_
        subst he
        refine hK _ _ _ _ ⟨?_, fun r hr c hc => ?_⟩ h4
        · have := hX.1.setBlk hk hC hb
          rwa [List.set_append_left _ _ hlt] at this
        · rcases mem_set_cases hr with rfl | ⟨j, _, hj⟩
          · exact hX.2 _ (List.mem_of_getElem? h1) c hc
          · exact hX.2 _ (List.mem_of_getElem? hj) c hc
    · rename_i hw
      simp only [hw] at h
      exact hK _ _ _ _ hX h

theorem wpAny_of_wpX {m : Nat} : ∀ (fuel : Nat) (listed : Array Bool) (M : List (World → Prop)) (N : List Res) (a : Act) (w : World), XInv w0 S R L M N w → wpX P md ops Q w0 S R L m fuel listed M N a → wpAny P md ops Q fuel listed a w
  | 0, _, _, _, _, w, hX, h => ⟨h.1, h.2 w hX⟩
  | fuel + 1, _, _, _, _, w, hX, h => ⟨fun h0 => h.1 h0 w hX, fun i hi => by
      rcases h.2 i hi with ⟨_, h1⟩ | ⟨_, h1⟩
      · exact wpOp_of_xOp hX (fun M' N' a' w' hX' h' => wpAny_of_wpX fuel _ M' N' a' w' hX' h') h1
      · exact h1 w hX⟩

def ancGo (md : Region.Mode) : List Oper → Array Nat → Array Nat
  | [], acc => acc
  | o :: l, acc => ancGo md l (acc.push (o.after.toList.foldl (fun s e => if Region.binds md e then s ||| 2 ^ e.on ||| acc.getD e.on 0 else s) 0))

def ancOf (md : Region.Mode) (ops : Array Oper) : Array Nat := ancGo md ops.toList #[]

theorem ancFold_spec {acc : Array Nat} {i : Nat} : ∀ (es : List Edge) (s : Nat), (es.foldl (fun s e => if Region.binds md e then s ||| 2 ^ e.on ||| acc.getD e.on 0 else s) s).testBit i = true →
    s.testBit i = true ∨ ∃ e ∈ es, Region.binds md e = true ∧ (e.on = i ∨ (acc.getD e.on 0).testBit i = true)
  | [], s, h => .inl h
  | e :: es, s, h => by
    rcases ancFold_spec es _ h with h1 | ⟨e', he', h2⟩
    · by_cases hb : Region.binds md e = true
      · simp only [hb, if_true, Nat.testBit_or, Bool.or_eq_true] at h1
        rcases h1 with (h1 | h1) | h1
        · exact .inl h1
        · exact .inr ⟨e, List.mem_cons_self .., hb, .inl (by rw [Nat.testBit_two_pow] at h1; simpa using h1)⟩
        · exact .inr ⟨e, List.mem_cons_self .., hb, .inr h1⟩
      · simp only [hb, Bool.false_eq_true, if_false] at h1
        exact .inl h1
    · exact .inr ⟨e', List.mem_cons_of_mem _ he', h2⟩

theorem ancGo_old : ∀ (l : List Oper) (acc : Array Nat) (k : Nat), k < acc.size → (ancGo md l acc).getD k 0 = acc.getD k 0
  | [], _, _, _ => rfl
  | o :: l, acc, k, hk => by
    simp only [ancGo]
    rw [ancGo_old l _ k (by simp; omega)]
    simp [Array.getElem?_push, Nat.ne_of_lt hk]

theorem ancGo_spec : ∀ (l : List Oper) (acc : Array Nat) (k i : Nat), acc.size ≤ k → ((ancGo md l acc).getD k 0).testBit i = true →
    ∃ o, l[k - acc.size]? = some o ∧ ∃ e ∈ o.after, Region.binds md e = true ∧ (e.on = i ∨ (e.on < k ∧ ((ancGo md l acc).getD e.on 0).testBit i = true))
  | [], acc, k, i, hk, h => by simp [ancGo, Array.getElem?_eq_none hk] at h
  | o :: l, acc, k, i, hk, h => by
    simp only [ancGo] at h ⊢
    by_cases hk2 : k = acc.size
    · subst hk2
      rw [ancGo_old l _ acc.size (by simp)] at h
      have h' : (o.after.toList.foldl (fun s e => if Region.binds md e then s ||| 2 ^ e.on ||| acc.getD e.on 0 else s) 0).testBit i = true := by simpa using h
      rcases ancFold_spec _ _ h' with h1 | ⟨e, he, hb, h2⟩
      · simp at h1
      · refine ⟨o, by simp, e, by simpa using he, hb, ?_⟩
        rcases h2 with h2 | h2
        · exact .inl h2
        · by_cases hlt : e.on < acc.size
          · refine .inr ⟨hlt, ?_⟩
            rw [ancGo_old l _ e.on (by simp; omega)]
            simpa [Array.getElem?_push, Nat.ne_of_lt hlt] using h2
          · simp [Array.getElem?_eq_none (Nat.le_of_not_lt hlt)] at h2
    · have hk3 : acc.size + 1 ≤ k := by omega
      obtain ⟨o', ho', e, he, hb, h2⟩ := ancGo_spec l _ k i (by simpa using hk3) h
      refine ⟨o', ?_, e, he, hb, h2⟩
      simp only [Array.size_push] at ho'
      rw [show k - acc.size = (k - (acc.size + 1)) + 1 by omega]
      simpa using ho'

def closedB (md : Region.Mode) (ops : Array Oper) (listed : Array Bool) : Bool :=
  (List.range ops.size).all fun k => !listed.getD k false || match ops[k]? with
    | some o => o.after.all fun e => !Region.binds md e || listed.getD e.on false
    | none => true

def Closed (md : Region.Mode) (ops : Array Oper) (listed : Array Bool) : Prop :=
  ∀ k o, ops[k]? = some o → listed.getD k false = true → ∀ e ∈ o.after, Region.binds md e = true → listed.getD e.on false = true

theorem closedB_spec {listed : Array Bool} (h : closedB md ops listed = true) : Closed md ops listed := by
  intro k o ho hl e he hb
  simp only [closedB, List.all_eq_true, List.mem_range] at h
  have h1 := h k (Array.getElem?_eq_some_iff.1 ho).1
  simp only [ho, hl, Bool.not_true, Bool.false_or] at h1
  have h2 := Array.all_eq_true_iff_forall_mem.1 h1 e he
  simpa [hb] using h2

theorem getD_set_cases {listed : Array Bool} {j k : Nat} (h : (listed.setIfInBounds j true).getD k false = true) : k = j ∨ listed.getD k false = true := by
  by_cases hjk : j = k
  · exact .inl hjk.symm
  · rw [getD_set_ne false hjk] at h; exact .inr h

theorem Closed.add {listed : Array Bool} (h : Closed md ops listed) {j : Nat} (hj : j ∈ Region.ready md ops listed) : Closed md ops (listed.setIfInBounds j true) := by
  intro k o ho hl e he hb
  obtain ⟨_, oj, hoj, hall⟩ := mem_ready.1 hj
  rcases getD_set_cases hl with rfl | hl
  · rw [hoj] at ho; cases ho
    exact getD_set_true (hall e he hb)
  · exact getD_set_true (h k o ho hl e he hb)

theorem anc_listed {listed : Array Bool} (hc : Closed md ops listed) : ∀ (n k : Nat), k < n → ∀ {i : Nat}, ((ancOf md ops).getD k 0).testBit i = true →
    (∀ o, ops[k]? = some o → ∀ e ∈ o.after, Region.binds md e = true → listed.getD e.on false = true) → listed.getD i false = true
  | 0, _, hk, _, _, _ => by omega
  | n + 1, k, hk, i, ht, hp => by
    obtain ⟨o, ho, e, he, hb, h2⟩ := ancGo_spec ops.toList #[] k i (by simp) ht
    have ho' : ops[k]? = some o := by simpa using ho
    have h1 := hp o ho' e he hb
    rcases h2 with rfl | ⟨hlt, h2⟩
    · exact h1
    · exact anc_listed hc n e.on (by omega) h2 (fun o2 ho2 e2 he2 hb2 => hc e.on o2 ho2 h1 e2 he2 hb2)

def tailWaits (md : Region.Mode) (ops : Array Oper) (m i : Nat) : Bool :=
  (List.range ops.size).all fun j => decide (j < m) || ((ancOf md ops).getD j 0).testBit i

theorem tailWaits_spec {m i j : Nat} {oj : Oper} (h : tailWaits md ops m i = true) (hj : ops[j]? = some oj) (hm : m ≤ j) : ((ancOf md ops).getD j 0).testBit i = true := by
  simp only [tailWaits, List.all_eq_true, List.mem_range] at h
  have h1 := h j (Array.getElem?_eq_some_iff.1 hj).1
  simp only [Bool.or_eq_true, decide_eq_true_eq] at h1
  rcases h1 with h1 | h1
  · omega
  · exact h1

def XYields (P : Program) (ops : Array Oper) (w0 : World) (S : List Nat) (R : List (World → Prop)) (L : List Res) (o : Oper) (v : Value) (a : Act) : Prop :=
  (Region.wanted o (yielded ops a.tmps) = true ∧ xQuiet P w0 S R L o a v) ∨ (Region.wanted o (yielded ops a.tmps) = false ∧ v = undef)

theorem XYields.facts {R' : List (World → Prop)} {o : Oper} {v : Value} {a : Act} (hy : XYields P ops w0 S R L o v a) (h : ∀ φ ∈ R, φ ∈ R') : XYields P ops w0 S R' L o v a := by
  rcases hy with ⟨hw, hv⟩ | hy
  · exact .inl ⟨hw, fun w H => hv w (H.facts h)⟩
  · exact .inr hy

theorem XYields.xOp {i : Nat} {o : Oper} {v : Value} {a : Act} {M : List (World → Prop)} {N : List Res} {K : List (World → Prop) → List Res → Act → Prop} (hi : ops[i]? = some o) (hy : XYields P ops w0 S (M ++ R) L o v a) (h : K M N (a.put o.dst v)) : xOp P ops w0 S R L i K M N a := by
  unfold Go.Proofs.YtimonjemjhecoaaGreatDoor.xOp
  simp only [hi]
  rcases hy with ⟨hw, hv⟩ | ⟨hw, rfl⟩
  · simp only [hw, if_true]; exact .inl ⟨v, hv, h⟩
  · simp only [hw, Bool.false_eq_true, if_false]; exact h

theorem XYields.of_same {o : Oper} {v : Value} {a a' : Act} (hy : XYields P ops w0 S R L o v a) (he : execOp a'.eval o = execOp a.eval o)
    (hw : Region.wanted o (yielded ops a'.tmps) = Region.wanted o (yielded ops a.tmps)) : XYields P ops w0 S R L o v a' := by
  unfold XYields xQuiet at *
  rw [he, hw]
  exact hy

theorem xOp_put {j : Nat} {oi oj : Oper} {v : Value} (hj : ops[j]? = some oj) (hap : oi.apart ops oj = true)
    (hsi : ∀ cs b, oi.op ≠ .select cs b) (hsj : ∀ cs b, oj.op ≠ .select cs b) {K : List (World → Prop) → List Res → Act → Prop} {M : List (World → Prop)} {N : List Res} {a : Act}
    (hy : XYields P ops w0 S (M ++ R) L oi v a) (h : xOp P ops w0 S R L j K M N (a.put oi.dst v)) :
    xOp P ops w0 S R L j (fun M' N' a' => XYields P ops w0 S (M' ++ R) L oi v a' ∧ K M' N' (a'.put oi.dst v)) M N a := by
  obtain ⟨h1, h2, h3⟩ := Oper.apart_spec hap
  have keep : ∀ u, XYields P ops w0 S (M ++ R) L oi v (a.put oj.dst u) := fun u =>
    hy.of_same (execOp_put oi hsi a oj.dst u h3) (wanted_put oi a oj.dst u h3)
  have he := execOp_put oj hsj a oi.dst v h1
  unfold xOp at *
  simp only [hj] at *
  rw [wanted_put oj a oi.dst v h1] at h
  split
  · rename_i hw
    simp only [hw, if_true] at h
    rcases h with ⟨u, g1, g2⟩ | ⟨ob, mk, g1, g2⟩ | ⟨k, b, ob, ob', g1, g2, g3⟩ | ⟨ob, mk, g1, g2⟩ | ⟨X, val, φ, ⟨f, args, g1, g2⟩, g3⟩ | ⟨k, b, ob, ob', u, g1, ⟨f, args, g2, g3⟩, g4⟩
    · refine .inl ⟨u, ?_, keep u, by rw [← Act.put_comm a v u h2]; exact g2⟩
      unfold xQuiet at *; rwa [he] at g1
    · refine .inr (.inl ⟨ob, mk, ?_, fun b => ⟨keep _, by rw [← Act.put_comm a v _ h2]; exact g2 b⟩⟩)
      unfold xAlloc at *; rwa [he] at g1
    · refine .inr (.inr (.inl ⟨k, b, ob, ob', g1, ?_, keep _, by rw [← Act.put_comm a v _ h2]; exact g3⟩))
      unfold xStore at *; rwa [he] at g2
    · refine .inr (.inr (.inr (.inl ⟨ob, mk, ?_, fun b => ⟨(keep _).facts (fun ψ hψ => List.mem_cons_of_mem _ hψ), by rw [← Act.put_comm a v _ h2]; exact g2 b⟩⟩)))
      unfold xAlloc at *; rwa [he] at g1
    · refine .inr (.inr (.inr (.inr (.inl ⟨X, val, φ, ⟨f, args, ?_, g2⟩, fun x => ⟨(keep _).facts (fun ψ hψ => List.mem_cons_of_mem _ hψ), by rw [← Act.put_comm a v _ h2]; exact g3 x⟩⟩))))
      rwa [he] at g1
    · refine .inr (.inr (.inr (.inr (.inr ⟨k, b, ob, ob', u, g1, ⟨f, args, ?_, g3⟩, keep u, by rw [← Act.put_comm a v u h2]; exact g4⟩))))
      rwa [he] at g2
  · rename_i hw
    simp only [hw] at h
    exact ⟨keep _, by rw [← Act.put_comm a v undef h2]; exact h⟩

theorem wpX_first {m i : Nat} {oi : Oper} {v : Value} (hi : ops[i]? = some oi) (hm : i < m) (hsel : ∀ (j : Nat) (o : Oper) cs b, ops[j]? = some o → o.op ≠ .select cs b) (htail : tailWaits md ops m i = true) :
    ∀ (fuel : Nat) (listed : Array Bool) (M : List (World → Prop)) (N : List Res) (a : Act),
      (∀ j oj, ops[j]? = some oj → j ≠ i → listed.getD j true = false → (∀ e ∈ oj.after, Region.binds md e = true → e.on ≠ i) → oi.apart ops oj = true) →
      Closed md ops listed → i ∈ Region.ready md ops listed → XYields P ops w0 S (M ++ R) L oi v a →
      wpX P md ops Q w0 S R L m fuel (listed.setIfInBounds i true) M N (a.put oi.dst v) → wpX P md ops Q w0 S R L m (fuel + 1) listed M N a := by
  intro fuel
  induction fuel with
  | zero =>
    intro listed M N a _ _ hr hy H
    refine ⟨fun h => (by rw [h] at hr; cases hr), fun j hj => ?_⟩
    by_cases hji : j = i
    · subst hji; exact .inl ⟨hm, hy.xOp hi H⟩
    · have := ready_mono hj hji
      rw [H.1] at this
      cases this
  | succ fuel ih =>
    intro listed M N a hfree hcl hr hy H
    refine ⟨fun h => (by rw [h] at hr; cases hr), fun j hj => ?_⟩
    by_cases hji : j = i
    · subst hji; exact .inl ⟨hm, hy.xOp hi H⟩
    · obtain ⟨hjun, oj, hoj, hall⟩ := mem_ready.1 hj
      have hnot : ∀ e ∈ oj.after, Region.binds md e = true → e.on ≠ i := fun e he hb heq => by
        have h1 := hall e he hb
        have h0 := (mem_ready.1 hr).1
        rw [heq] at h1
        rcases Nat.lt_or_ge i listed.size with h' | h'
        · simp [h'] at h0 h1; rw [h0] at h1; cases h1
        · simp [Array.getElem?_eq_none h'] at h1
      rcases H.2 j (ready_mono hj hji) with ⟨hjm, h1⟩ | ⟨hjm, _⟩
      · have h2 := xOp_put hoj (hfree j oj hoj hji hjun hnot) (fun cs b => hsel i oi cs b hi) (fun cs b => hsel j oj cs b hoj) hy h1
        have hfree' : ∀ k ok, ops[k]? = some ok → k ≠ i → (listed.setIfInBounds j true).getD k true = false →
            (∀ e ∈ ok.after, Region.binds md e = true → e.on ≠ i) → oi.apart ops ok = true := fun k ok hk hki hun hno => by
          refine hfree k ok hk hki ?_ hno
          by_cases hjk : j = k
          · subst hjk; exact hjun
          · rw [getD_set_ne true hjk] at hun; exact hun
        refine .inl ⟨hjm, xOp_mono (fun M' N' a' h3 => ih (listed.setIfInBounds j true) M' N' a' hfree' (hcl.add hj) (ready_mono hr (Ne.symm hji)) h3.1 ?_) h2⟩
        rw [Array.setIfInBounds_comm _ _ hji]
        exact h3.2
      · have h1 := anc_listed hcl (j + 1) j (by omega) (tailWaits_spec htail hoj hjm) (fun o ho e he hb => by rw [hoj] at ho; cases ho; exact hall e he hb)
        have h0 := (mem_ready.1 hr).1
        rcases Nat.lt_or_ge i listed.size with h' | h'
        · simp [h'] at h0 h1; rw [h0] at h1; cases h1
        · simp [Array.getElem?_eq_none h'] at h1

theorem wpX_take {m i : Nat} {oi : Oper} {v : Value} {fuel : Nat} {listed : Array Bool} {M : List (World → Prop)} {N : List Res} {a : Act} (hi : ops[i]? = some oi) (hm : i < m)
    (hs : Region.noSelect ops = true) (htail : tailWaits md ops m i = true) (hcl : closedB md ops listed = true) (hf : Region.free md ops listed i = true) (hr : (Region.ready md ops listed).contains i = true)
    (hy : XYields P ops w0 S (M ++ R) L oi v a)
    (h : wpX P md ops Q w0 S R L m fuel (listed.setIfInBounds i true) M N (a.put oi.dst v)) : wpX P md ops Q w0 S R L m (fuel + 1) listed M N a :=
  wpX_first hi hm (Region.noSelect_spec hs) htail fuel listed M N a (Region.free_spec hi hf) (closedB_spec hcl) (by simpa using hr) hy h

theorem wpX_all {m : Nat} {rs : List Nat} {fuel : Nat} {listed : Array Bool} {M : List (World → Prop)} {N : List Res} {a : Act} (hr : Region.ready md ops listed = rs) (hne : rs ≠ [])
    (h : ∀ i ∈ rs, (i < m ∧ xOp P ops w0 S R L i (wpX P md ops Q w0 S R L m fuel (listed.setIfInBounds i true)) M N a) ∨
      (m ≤ i ∧ ∀ w, XInv w0 S R L M N w → wpOp P ops Q i (wpAny P md ops Q fuel (listed.setIfInBounds i true)) a w)) : wpX P md ops Q w0 S R L m (fuel + 1) listed M N a :=
  ⟨fun h0 => absurd (hr ▸ h0) hne, hr ▸ h⟩

theorem wpX_done {m : Nat} {listed : Array Bool} {M : List (World → Prop)} {N : List Res} {a : Act} (hr : Region.ready md ops listed = []) (h : ∀ w, Own w0 S (M ++ R) (N ++ L) w → Q .normal a w) :
    ∀ fuel, wpX P md ops Q w0 S R L m fuel listed M N a
  | 0 => ⟨hr, fun w hX => h w hX.1⟩
  | _ + 1 => ⟨fun _ w hX => h w hX.1, by rw [hr]; simp⟩

theorem wpX_alloc {m i : Nat} {oi : Oper} {fuel : Nat} {listed : Array Bool} {M : List (World → Prop)} {N : List Res} {a : Act} (hr : Region.ready md ops listed = [i]) (hi : ops[i]? = some oi) (hm : i < m)
    (hw : Region.wanted oi (yielded ops a.tmps) = true) {ob : Obj} {mk : Nat → Value} (ha : xAlloc P oi a ob mk)
    (h : ∀ b, wpX P md ops Q w0 S R L m fuel (listed.setIfInBounds i true) M (.blk b ob :: N) (a.put oi.dst (mk b))) : wpX P md ops Q w0 S R L m (fuel + 1) listed M N a :=
  wpX_all hr (by simp) fun j hj => by
    obtain rfl : j = i := by simpa using hj
    refine .inl ⟨hm, ?_⟩
    unfold xOp
    simp only [hi, hw, if_true]
    exact .inr (.inl ⟨ob, mk, ha, h⟩)

theorem wpX_fresh {m i : Nat} {oi : Oper} {fuel : Nat} {listed : Array Bool} {M : List (World → Prop)} {N : List Res} {a : Act} (hr : Region.ready md ops listed = [i]) (hi : ops[i]? = some oi) (hm : i < m)
    (hw : Region.wanted oi (yielded ops a.tmps) = true) {X : Type} {val : X → Value} {φ : X → World → Prop} (ha : xFresh P w0 S (M ++ R) L oi a val φ)
    (h : ∀ x, wpX P md ops Q w0 S R L m fuel (listed.setIfInBounds i true) (φ x :: M) N (a.put oi.dst (val x))) : wpX P md ops Q w0 S R L m (fuel + 1) listed M N a :=
  wpX_all hr (by simp) fun j hj => by
    obtain rfl : j = i := by simpa using hj
    refine .inl ⟨hm, ?_⟩
    unfold xOp
    simp only [hi, hw, if_true]
    exact .inr (.inr (.inr (.inr (.inl ⟨X, val, φ, ha, h⟩))))

theorem wpX_writes {m i k b : Nat} {oi : Oper} {fuel : Nat} {listed : Array Bool} {M : List (World → Prop)} {N : List Res} {a : Act} (hr : Region.ready md ops listed = [i]) (hi : ops[i]? = some oi) (hm : i < m)
    (hw : Region.wanted oi (yielded ops a.tmps) = true) {ob ob' : Obj} {v : Value} (hN : N[k]? = some (.blk b ob)) (ha : xWrites P w0 S (M ++ R) L oi a b ob ob' v)
    (h : wpX P md ops Q w0 S R L m fuel (listed.setIfInBounds i true) M (N.set k (.blk b ob')) (a.put oi.dst v)) : wpX P md ops Q w0 S R L m (fuel + 1) listed M N a :=
  wpX_all hr (by simp) fun j hj => by
    obtain rfl : j = i := by simpa using hj
    refine .inl ⟨hm, ?_⟩
    unfold xOp
    simp only [hi, hw, if_true]
    exact .inr (.inr (.inr (.inr (.inr ⟨k, b, ob, ob', v, hN, ha, h⟩))))

theorem wpX_store {m i k b : Nat} {oi : Oper} {fuel : Nat} {listed : Array Bool} {M : List (World → Prop)} {N : List Res} {a : Act} (hr : Region.ready md ops listed = [i]) (hi : ops[i]? = some oi) (hm : i < m)
    (hw : Region.wanted oi (yielded ops a.tmps) = true) {ob ob' : Obj} (hN : N[k]? = some (.blk b ob)) (ha : xStore P oi a b ob ob')
    (h : wpX P md ops Q w0 S R L m fuel (listed.setIfInBounds i true) M (N.set k (.blk b ob')) (a.put oi.dst undef)) : wpX P md ops Q w0 S R L m (fuel + 1) listed M N a :=
  wpX_all hr (by simp) fun j hj => by
    obtain rfl : j = i := by simpa using hj
    refine .inl ⟨hm, ?_⟩
    unfold xOp
    simp only [hi, hw, if_true]
    exact .inr (.inr (.inl ⟨k, b, ob, ob', hN, ha, h⟩))

theorem wpX_two {m i j : Nat} {oi oj : Oper} {fuel : Nat} {listed : Array Bool} {M : List (World → Prop)} {N : List Res} {a : Act} (hr : Region.ready md ops listed = [i, j]) (hi : ops[i]? = some oi) (hj : ops[j]? = some oj) (hm : i < m) (hmj : j < m)
    (hw : Region.wanted oi (yielded ops a.tmps) = true) (hwj : Region.wanted oj (yielded ops a.tmps) = true) {ob ob' : Obj} {mk mk' : Nat → Value} (ha : xAlloc P oi a ob mk) (hb : xAlloc P oj a ob' mk')
    (h : ∀ b, wpX P md ops Q w0 S R L m fuel (listed.setIfInBounds i true) M (.blk b ob :: N) (a.put oi.dst (mk b)))
    (h' : ∀ b, wpX P md ops Q w0 S R L m fuel (listed.setIfInBounds j true) M (.blk b ob' :: N) (a.put oj.dst (mk' b))) : wpX P md ops Q w0 S R L m (fuel + 1) listed M N a :=
  wpX_all hr (by simp) fun k hk => by
    simp only [List.mem_cons, List.not_mem_nil, or_false] at hk
    rcases hk with rfl | rfl
    · refine .inl ⟨hm, ?_⟩
      unfold xOp
      simp only [hi, hw, if_true]
      exact .inr (.inl ⟨ob, mk, ha, h⟩)
    · refine .inl ⟨hmj, ?_⟩
      unfold xOp
      simp only [hj, hwj, if_true]
      exact .inr (.inl ⟨ob', mk', hb, h'⟩)

def tailLex (md : Region.Mode) (ops : Array Oper) : Nat → Nat → Array Bool → Bool
  | 0, _, listed => Region.ready md ops listed == []
  | n + 1, i, listed => Region.ready md ops listed == [i] && tailLex md ops n (i + 1) (listed.setIfInBounds i true)

theorem wpAny_tail : ∀ (n i : Nat) (listed : Array Bool) (l : List Oper) (a : Act) (w : World), l.length = n → (∀ j, l[j]? = ops[i + j]?) → tailLex md ops n i listed = true →
    wpList P ops Q l a w → wpAny P md ops Q n listed a w
  | 0, _, _, l, _, _, hl, _, ht, h => by
    obtain rfl : l = [] := by simpa using hl
    exact ⟨by simpa [tailLex] using ht, h⟩
  | n + 1, i, listed, l, a, w, hl, hg, ht, h => by
    cases l with
    | nil => simp at hl
    | cons o l =>
      simp only [tailLex, Bool.and_eq_true, beq_iff_eq] at ht
      refine ⟨fun h0 => (by rw [ht.1] at h0; cases h0), fun j hj => ?_⟩
      rw [ht.1] at hj
      obtain rfl : j = i := by simpa using hj
      have h0 : ops[j]? = some o := by simpa using (hg 0).symm
      have ih := fun a' w' => wpAny_tail n (j + 1) (listed.setIfInBounds j true) l a' w' (by simpa using hl) (fun k => by have := hg (k + 1); simpa [Nat.add_assoc, Nat.add_comm 1 k] using this) ht.2
      unfold wpOp
      simp only [h0]
      unfold wpList at h
      split
      · rename_i hw
        simp only [hw, if_true] at h
        exact h.imp (Oper.wp_mono fun a' w' h' => ih a' w' h') id
      · rename_i hw
        simp only [hw] at h
        exact ih _ _ h

theorem wpX_tail {m n : Nat} {listed : Array Bool} {M : List (World → Prop)} {N : List Res} {a : Act} (l : List Oper) (hl : l.length = n + 1) (hg : (ops.toList.drop m) = l) (ht : tailLex md ops (n + 1) m listed = true)
    (h : ∀ w, Own w0 S (M ++ R) (N ++ L) w → wpList P ops Q l a w) : wpX P md ops Q w0 S R L m (n + 1) listed M N a := by
  have ht' := ht
  simp only [tailLex, Bool.and_eq_true, beq_iff_eq] at ht'
  refine ⟨fun h0 => (by rw [ht'.1] at h0; cases h0), fun i hi => ?_⟩
  have hi' := hi
  rw [ht'.1] at hi'
  obtain rfl : i = m := by simpa using hi'
  refine .inr ⟨Nat.le_refl _, fun w hX => ?_⟩
  exact (wpAny_tail (n + 1) i listed l a w hl (fun j => by rw [← hg, List.getElem?_drop]; simp) ht (h w hX.1)).2 i hi

theorem wp_region_lend {id : Nat} {l : List Oper} (m : Nat) (N : List Res) {a : Act} {w : World} (H : Own w0 S R (N ++ L) w) (hN : ∀ r ∈ N, ∀ b, r.foot = some b → w0.heap.size ≤ b) (hm : P.follows .mixedOrders = true)
    (h : wpX P .any l.toArray Q w0 S R L m l.toArray.size (Array.replicate l.toArray.size false) [] N a) : (Code.region id l.toArray true).wp P Q a w :=
  wp_region_any hm (wpAny_of_wpX _ _ [] N a _ ⟨by simpa using H.drew, hN⟩ h)

theorem wp_region_mix {id : Nat} {l : List Oper} (m : Nat) {a : Act} {w : World} (H : Own w0 S R L w) (hm : P.follows .mixedOrders = true)
    (h : wpX P .any l.toArray Q w0 S R L m l.toArray.size (Array.replicate l.toArray.size false) [] [] a) : (Code.region id l.toArray true).wp P Q a w :=
  wp_region_any hm (wpAny_of_wpX _ _ [] [] a _ ⟨by simpa using H.drew, fun _ h => by simp at h⟩ h)

section lists
variable {l : List Oper}
theorem wxl_take (i : Nat) {m : Nat} {oi : Oper} {v : Value} {fuel : Nat} {listed : Array Bool} {M : List (World → Prop)} {N : List Res} {a : Act} (hi : l[i]? = some oi) (hm : Nat.blt i m = true)
    (hs : Region.noSelect l.toArray = true) (htail : tailWaits md l.toArray m i = true) (hcl : closedB md l.toArray listed = true) (hf : Region.free md l.toArray listed i = true) (hr : (Region.ready md l.toArray listed).contains i = true)
    (hy : XYields P l.toArray w0 S (M ++ R) L oi v a)
    (h : wpX P md l.toArray Q w0 S R L m fuel (listed.setIfInBounds i true) M N (a.put oi.dst v)) : wpX P md l.toArray Q w0 S R L m (fuel + 1) listed M N a :=
  wpX_take (by simpa using hi) (Nat.blt_eq.mp hm) hs htail hcl hf hr hy h
theorem wxl_alloc (i : Nat) {m : Nat} {oi : Oper} {fuel : Nat} {listed : Array Bool} {M : List (World → Prop)} {N : List Res} {a : Act} (hi : l[i]? = some oi) (hm : Nat.blt i m = true) (hr : Region.ready md l.toArray listed = [i])
    (hw : Region.wanted oi (yielded l.toArray a.tmps) = true) {ob : Obj} {mk : Nat → Value} (ha : xAlloc P oi a ob mk)
    (h : ∀ b, wpX P md l.toArray Q w0 S R L m fuel (listed.setIfInBounds i true) M (.blk b ob :: N) (a.put oi.dst (mk b))) : wpX P md l.toArray Q w0 S R L m (fuel + 1) listed M N a :=
  wpX_alloc hr (by simpa using hi) (Nat.blt_eq.mp hm) hw ha h
theorem wxl_fresh (i : Nat) {m : Nat} {oi : Oper} {fuel : Nat} {listed : Array Bool} {M : List (World → Prop)} {N : List Res} {a : Act} (hi : l[i]? = some oi) (hm : Nat.blt i m = true) (hr : Region.ready md l.toArray listed = [i])
    (hw : Region.wanted oi (yielded l.toArray a.tmps) = true) {f : FuncId} {args : Array Value} (hrun : ∀ w, (execOp a.eval oi).run P w = .ok (.enter f args) w) {X : Type} {val : X → Value} {φ : X → World → Prop}
    (hc : ∀ w, Own w0 S (M ++ R) L w → Calls P f args w fun e w' => ∃ x, e = .returned (val x) ∧ Ext w w' ∧ Fresh w w' (φ x))
    (h : ∀ x, wpX P md l.toArray Q w0 S R L m fuel (listed.setIfInBounds i true) (φ x :: M) N (a.put oi.dst (val x))) : wpX P md l.toArray Q w0 S R L m (fuel + 1) listed M N a :=
  wpX_fresh hr (by simpa using hi) (Nat.blt_eq.mp hm) hw ⟨f, args, hrun, hc⟩ h
theorem wxl_writes (i k : Nat) {m b : Nat} {oi : Oper} {fuel : Nat} {listed : Array Bool} {M : List (World → Prop)} {N : List Res} {a : Act} (hi : l[i]? = some oi) (hm : Nat.blt i m = true) (hr : Region.ready md l.toArray listed = [i])
    (hw : Region.wanted oi (yielded l.toArray a.tmps) = true) {f : FuncId} {args : Array Value} (hrun : ∀ w, (execOp a.eval oi).run P w = .ok (.enter f args) w) {ob ob' : Obj} {v : Value} (hN : N[k]? = some (.blk b ob))
    (hc : ∀ w, Own w0 S (M ++ R) L w → w.heap[b]? = some ob → Calls P f args w fun e w' => e = .returned v ∧ Chg [b] w w' ∧ w'.heap[b]? = some ob')
    (h : wpX P md l.toArray Q w0 S R L m fuel (listed.setIfInBounds i true) M (N.set k (.blk b ob')) (a.put oi.dst v)) : wpX P md l.toArray Q w0 S R L m (fuel + 1) listed M N a :=
  wpX_writes hr (by simpa using hi) (Nat.blt_eq.mp hm) hw hN ⟨f, args, hrun, hc⟩ h
theorem wxl_store (i k : Nat) {m b : Nat} {oi : Oper} {fuel : Nat} {listed : Array Bool} {M : List (World → Prop)} {N : List Res} {a : Act} (hi : l[i]? = some oi) (hm : Nat.blt i m = true) (hr : Region.ready md l.toArray listed = [i])
    (hw : Region.wanted oi (yielded l.toArray a.tmps) = true) {ob ob' : Obj} (hN : N[k]? = some (.blk b ob)) (ha : xStore P oi a b ob ob')
    (h : wpX P md l.toArray Q w0 S R L m fuel (listed.setIfInBounds i true) M (N.set k (.blk b ob')) (a.put oi.dst undef)) : wpX P md l.toArray Q w0 S R L m (fuel + 1) listed M N a :=
  wpX_store hr (by simpa using hi) (Nat.blt_eq.mp hm) hw hN ha h
theorem wxl_two (i j : Nat) {m : Nat} {oi oj : Oper} {fuel : Nat} {listed : Array Bool} {M : List (World → Prop)} {N : List Res} {a : Act} (hi : l[i]? = some oi) (hj : l[j]? = some oj) (hm : Nat.blt i m = true) (hmj : Nat.blt j m = true) (hr : Region.ready md l.toArray listed = [i, j])
    (hw : Region.wanted oi (yielded l.toArray a.tmps) = true) (hwj : Region.wanted oj (yielded l.toArray a.tmps) = true) {ob ob' : Obj} {mk mk' : Nat → Value} (ha : xAlloc P oi a ob mk) (hb : xAlloc P oj a ob' mk')
    (h : ∀ b, wpX P md l.toArray Q w0 S R L m fuel (listed.setIfInBounds i true) M (.blk b ob :: N) (a.put oi.dst (mk b)))
    (h' : ∀ b, wpX P md l.toArray Q w0 S R L m fuel (listed.setIfInBounds j true) M (.blk b ob' :: N) (a.put oj.dst (mk' b))) : wpX P md l.toArray Q w0 S R L m (fuel + 1) listed M N a :=
  wpX_two hr (by simpa using hi) (by simpa using hj) (Nat.blt_eq.mp hm) (Nat.blt_eq.mp hmj) hw hwj ha hb h h'
end lists

theorem xy_run {o : Oper} {a : Act} {v : Value} (hw : Region.wanted o (yielded ops a.tmps) = true) (hrun : ∀ w, Own w0 S R L w → (execOp a.eval o).run P w = .ok (.value v) w) : XYields P ops w0 S R L o v a :=
  .inl ⟨hw, fun w H => by rw [hrun w H]; exact ⟨rfl, rfl⟩⟩
theorem xy_call {o : Oper} {a : Act} {v : Value} {f : FuncId} {args : Array Value} (hw : Region.wanted o (yielded ops a.tmps) = true) (hrun : ∀ w, (execOp a.eval o).run P w = .ok (.enter f args) w)
    (hc : ∀ w, Own w0 S R L w → Calls P f args w fun e w' => e = .returned v ∧ Ext w w') : XYields P ops w0 S R L o v a :=
  .inl ⟨hw, fun w H => by rw [hrun w]; exact ⟨rfl, (hc w H).mono fun e w' ⟨he, hE⟩ => ⟨he, hE⟩⟩⟩
theorem xy_skip {o : Oper} {a : Act} (hw : Region.wanted o (yielded ops a.tmps) = false) : XYields P ops w0 S R L o undef a := .inr ⟨hw, rfl⟩
end
section
variable {P : Program} {md : Region.Mode} {Q : Exit → Act → World → Prop} {w0 : World} {S : List Nat} {R : List (World → Prop)} {L : List Res} {l : List Oper}
theorem wxl_tk (i : Nat) {m : Nat} {oi : Oper} {v : Value} {fuel : Nat} {listed : Array Bool} {M : List (World → Prop)} {N : List Res} {a : Act} (hi : l[i]? = some oi)
    (hy : XYields P l.toArray w0 S (M ++ R) L oi v a) (h : wpX P md l.toArray Q w0 S R L m fuel (listed.setIfInBounds i true) M N (a.put oi.dst v)) (hm : Nat.blt i m = true := by rfl)
    (hs : Region.noSelect l.toArray = true := by kernel_rfl) (htail : tailWaits md l.toArray m i = true := by kernel_rfl) (hcl : closedB md l.toArray listed = true := by kernel_rfl) (hf : Region.free md l.toArray listed i = true := by kernel_rfl) (hr : (Region.ready md l.toArray listed).contains i = true := by kernel_rfl) :
    wpX P md l.toArray Q w0 S R L m (fuel + 1) listed M N a := wxl_take i hi hm hs htail hcl hf hr hy h
end
end Go.Proofs.YtimonjemjhecoaaGreatDoor
