/- A range over a function, in the walk's own logic. No program in sight. -/
import Derived.Test.YtimonjemjhecoaaGreatDoorSxIn
import Derived.RangeFuncWrites
namespace Go.Proofs.YtimonjemjhecoaaGreatDoor
open Go.RowKit
open Go
/-- The record of a range over a function. -/
def mkLoop (fn : FuncId) (a : Act) (ps : Array Tmp) (assign body : Code) (D : Nat) (st : LoopState) (pe : Option Code) : Obj :=
  .loop { state := st, pending := pe, fn, tmps := a.tmps, params := ps, assign, body, defers := D }
section
variable {P : Program} {n : Nat} {a : Act} {w w0 : World} {Q : Exit → Act → World → Prop} {S : List Nat} {R : List (World → Prop)} {L : List Res}
theorem Own.putObj (H : Own w0 S R L w) (i : Nat) {b : Nat} {o : Obj} (hi : L[i]? = some (.blk b o)) (o' : Obj) : Own w0 S R (L.set i (.blk b o')) (w.putObj b o') := by
  have hb := H.blk hi
  have hlt : b < w.heap.size := (Array.getElem?_eq_some_iff.1 hb).1
  refine H.setBlk hi ⟨rfl, rfl, rfl, by simp [World.putObj], fun c _ hne => World.putObj_heap_other (by simpa using hne)⟩ (World.putObj_heap_same hlt)

theorem wpIn_rangeOwn (H : Own w0 S R L w) (hn : 1 ≤ n) {g : Operand} {ps : Array Tmp} {assign body : Code} {gf : Nat} {lb : Array Value} (hg : a.eval g = .func (.func gf) #[] lb)
    (eg : ∀ args w, (callFunc gf args).run P w = .ok (.enter gf args) w)
    (h : ∀ (fn l D : Nat) (mk : LoopState → Option Code → Obj) (_ : mk = mkLoop fn a ps assign body D) (W : World), w0.heap.size ≤ l → w0.heap.size ≤ D → Own w0 S R (.blk l (mk .ready none) :: .blk D (.deferred (some [])) :: L) W →
      CallsIn Fence.wide (n - 1) P gf (#[.func (.yield l) #[] #[]] ++ lb) W (fun e W2 => ∃ v, e = .returned v ∧ ∃ (i : Nat) (L2 : List Res) (R2 : List (World → Prop)) (st : LoopState) (pe : Option Code),
        Own w0 S R2 L2 W2 ∧ L2[i]? = some (.blk l (mk st pe)) ∧ st ≠ .busy ∧
        ∀ W3, Own w0 S R2 (L2.set i (.blk l (mk .exhausted pe))) W3 → match pe with
          | none => Q .normal { a with defers := { target := .collected D, args := #[] } :: a.defers } W3
          | some c => c.wpIn Fence.wide n P Q { a with defers := { target := .collected D, args := #[] } :: a.defers } W3)) :
    (Code.rangeFunc g ps assign body).wpIn Fence.wide n P Q a w := by
  refine wpIn_rangeFunc fun fn _ => ?_
  have H1 := H.alloc (.deferred (some []))
  have H2 := H1.alloc (mkLoop fn a ps assign body w.heap.size .ready none)
  have h2 := h fn _ _ _ rfl _ H1.size H.size H2
  refine ⟨w.heap.size + 1, [{ target := .collected w.heap.size, args := #[] }], (w.alloc (.deferred (some []))).alloc (mkLoop fn a ps assign body w.heap.size .ready none), { target := .fn (.func gf) lb, args := #[.func (.yield (w.heap.size + 1)) #[] #[]] }, (w.alloc (.deferred (some []))).alloc (mkLoop fn a ps assign body w.heap.size .ready none), gf,
    #[.func (.yield (w.heap.size + 1)) #[] #[]] ++ lb, (w.alloc (.deferred (some []))).alloc (mkLoop fn a ps assign body w.heap.size .ready none), ?_, ?_, ?_, ?_, fun _ => hn, ?_⟩
  · exact run_enterLoop_outer _ _ _ _ _
  · simp only [resolve, hg]
    simp [go_sem]
  · intro f' hf'; exact trivial
  · simp [invoke, go_sem, eg]
  · rw [World.size_alloc] at h2
    refine h2.mono ?_
    rintro e W2 ⟨v, rfl, i, L2, R2, st, pe, HO, hi, hst, hQ⟩
    have hr := run_endLoop (P := P) (HO.blk hi) (by cases st <;> simp_all)
    exact ⟨pe, _, hr, hQ _ (HO.putObj i hi _)⟩

/-- A round: it is begun, walked, and ended. -/
theorem yieldAt_own {l D fn : Nat} {mk : LoopState → Option Code → Obj} {ps : Array Tmp} {assign body : Code} {args : Array Value} (hmk : mk = mkLoop fn a ps assign body D) (H : Own w0 S R L w) (i : Nat) (hi : L[i]? = some (.blk l (mk .ready none))) (hsz : args.size = ps.size) {Rr : Ending → World → Prop}
    (h : assign.wpIn (Fence.wide.inRound l) n P (Exit.then (fun a1 W1 => ∃ (i1 : Nat) (L1 : List Res) (R1 : List (World → Prop)), Own w0 S R1 L1 W1 ∧ L1[i1]? = some (.blk l (mk .ready none)) ∧
      ∀ W2, Own w0 S R1 (L1.set i1 (.blk l (mk .busy none))) W2 → body.wpIn (Fence.wide.inRound l) n P (roundPost P l Rr) a1 W2) (fun _ _ _ => False))
      { tmps := (ps.zip args).foldl (fun t (p, v) => t.setIfInBounds p v) a.tmps, defers := [] } w) : YieldAt Fence.wide n P l args w Rr := by
  subst hmk
  refine ⟨fn, _, assign, body, run_yield (H.blk hi) (by exact hsz), roundIn_of_wpIn trivial (wpIn_mono h ?_)⟩
  intro e a1 W1 h1
  cases e with
  | normal =>
    obtain ⟨i1, L1, R1, H1, hi1, h2⟩ := h1
    exact ⟨_, run_beginRound (H1.blk hi1) rfl, h2 _ (H1.putObj i1 hi1 _)⟩
  | exit id => exact h1
  | goto l => exact h1
  | ret => exact h1
  | panic ch => exact h1
  | outgrown => exact h1
theorem yieldAt_own1 {l D fn : Nat} {mk : LoopState → Option Code → Obj} {q : Tmp} {v : Value} {ts : List Value} {ds : List Deferred} {assign body : Code} (hmk : mk = mkLoop fn ⟨⟨ts⟩, ds⟩ #[q] assign body D) (H : Own w0 S R L w) (i : Nat) (hi : L[i]? = some (.blk l (mk .ready none))) {Rr : Ending → World → Prop}
    (h : assign.wpIn (Fence.wide.inRound l) n P (Exit.then (fun a1 W1 => ∃ (i1 : Nat) (L1 : List Res) (R1 : List (World → Prop)), Own w0 S R1 L1 W1 ∧ L1[i1]? = some (.blk l (mk .ready none)) ∧
      ∀ W2, Own w0 S R1 (L1.set i1 (.blk l (mk .busy none))) W2 → body.wpIn (Fence.wide.inRound l) n P (roundPost P l Rr) a1 W2) (fun _ _ _ => False))
      ⟨⟨ts.set q v⟩, []⟩ w) : YieldAt Fence.wide n P l #[v] w Rr :=
  yieldAt_own hmk H i hi rfl (by
    have e : (#[q].zip #[v]).foldl (fun t (x : Tmp × Value) => t.setIfInBounds x.1 x.2) (⟨ts⟩ : Array Value) = ⟨ts.set q v⟩ := by simp
    simpa [e] using h)
theorem round_normal {l D fn : Nat} {mk : LoopState → Option Code → Obj} {a0 : Act} {ps : Array Tmp} {assign body : Code} {Rr : Ending → World → Prop} (hmk : mk = mkLoop fn a0 ps assign body D) (H : Own w0 S R L w) (i : Nat) (hi : L[i]? = some (.blk l (mk .busy none)))
    (h : ∀ W, Own w0 S R (L.set i (.blk l (mk .ready none))) W → Rr (.returned (.bool true)) W) : roundPost P l Rr .normal a w := by
  subst hmk
  exact ⟨_, _, run_endRound none (H.blk hi), h _ (H.putObj i hi _)⟩
theorem round_ret {l D fn : Nat} {mk : LoopState → Option Code → Obj} {a0 : Act} {ps : Array Tmp} {assign body : Code} {Rr : Ending → World → Prop} (hmk : mk = mkLoop fn a0 ps assign body D) (H : Own w0 S R L w) (i : Nat) (hi : L[i]? = some (.blk l (mk .busy none)))
    (h : ∀ W, Own w0 S R (L.set i (.blk l (mk .done (some .ret)))) W → Rr (.returned (.bool false)) W) : roundPost P l Rr .ret a w := by
  subst hmk
  exact ⟨_, _, run_endRound (some .ret) (H.blk hi), h _ (H.putObj i hi _)⟩
/-- A function that holds such a range leaves: its collected calls are none. -/
theorem leave_none {fn : Func} {Rr : Ending → World → Prop} {v : Value} (hd : a.defers = []) (hr : (results fn a.tmps).run P w = .ok v w) (h : Rr (.returned v) w) : bodyPostM Fence.wide n P fn Rr .ret a w := by
  show LeavesInM Fence.wide n P fn a.tmps Rr a.defers .returning w
  rw [hd]
  exact ⟨v, hr, h⟩
theorem leave_one {fn : Func} {Rr : Ending → World → Prop} {v : Value} {D : Nat} (H : Own w0 S R L w) (i : Nat) (hi : L[i]? = some (.blk D (.deferred (some [])))) (hd : a.defers = [{ target := .collected D, args := #[] }])
    (h : ∀ W, Own w0 S R (L.set i (.blk D (.deferred none))) W → (results fn a.tmps).run P W = .ok v W ∧ Rr (.returned v) W) : bodyPostM Fence.wide n P fn Rr .ret a w := by
  show LeavesInM Fence.wide n P fn a.tmps Rr a.defers .returning w
  rw [hd]
  have hb := H.blk hi
  have hlt : D < w.heap.size := (Array.getElem?_eq_some_iff.1 hb).1
  exact ⟨by simp, .inl ⟨D, w.putObj D (.deferred none), rfl, run_takeDeferred hb, ⟨v, (h _ (H.putObj i hi _)).1, (h _ (H.putObj i hi _)).2⟩⟩⟩
theorem in_region_lend {F : Fence} (hF : Free F) {id : Nat} {l : List Oper} (m : Nat) (N : List Res) (H : Own w0 S R (N ++ L) w) (hN : ∀ r ∈ N, ∀ b, r.foot = some b → w0.heap.size ≤ b) (hm : P.follows .mixedOrders = true) (hd : noDefer l = true)
    (h : wpX P .any l.toArray (NoOut Q) w0 S R L m l.toArray.size (Array.replicate l.toArray.size false) [] N a) : (Code.region id l.toArray true).wpIn F n P Q a w :=
  in_region_any hF hm hd (wpAny_of_wpX _ _ [] N a _ ⟨by simpa using H.drew, hN⟩ h)
end
end Go.Proofs.YtimonjemjhecoaaGreatDoor
