/- A range over a function, in the walk's own logic. No program in sight. -/
import Derived.Test.YtimonjemjhecoaaGreatDoorSxIn
import Derived.RangeFuncWrites
import Derived.Test.YtimonjemjhecoaaGreatDoorLx4
import Derived.Test.YtimonjemjhecoaaGreatDoorDec
namespace Go.Proofs.YtimonjemjhecoaaGreatDoor
open Go.RowKit
open Go
def mkLoop (fn : FuncId) (a : Act) (ps : Array Tmp) (assign body : Code) (D : Nat) (st : LoopState) (pe : Option Code) : Obj :=
  .loop { state := st, pending := pe, fn, tmps := a.tmps, params := ps, assign, body, defers := D }
section
variable {P : Program} {n : Nat} {a : Act} {w w0 : World} {Q : Exit → Act → World → Prop} {S : List Nat} {R : List (World → Prop)} {L : List Res}
theorem Own.putObj (H : Own w0 S R L w) (i : Nat) {b : Nat} {o : Obj} (hi : L[i]? = some (.blk b o)) (o' : Obj) : Own w0 S R (L.set i (.blk b o')) (w.putObj b o') := by
  have hb := H.blk hi
  have hlt : b < w.heap.size := (Array.getElem?_eq_some_iff.1 hb).1
  refine H.setBlk hi ⟨rfl, rfl, rfl, by simp [World.putObj], fun c _ hne => World.putObj_heap_other (by simpa using hne)⟩ (World.putObj_heap_same hlt)

theorem wpIn_rangeOwn (H : Own w0 S R L w) (hn : 1 ≤ n) {g : Operand} {ps : Array Tmp} {assign body : Code} {gf : Nat} {lb : Array Value} (hg : a.eval g = .func (.func gf) #[] lb)
    (eg : ∀ args w, (callFunc gf args).run P w = .ok (.enter gf args) w)
    (h : ∀ (fn l D : Nat) (mk : LoopState → Option Code → Obj) (_ : mk = mkLoop fn a ps assign body D) (W : World), w0.heap.size ≤ l → w0.heap.size ≤ D → Own w0 S R (.blk l (mk .ready none) :: .blk D (.deferred (some [])) :: L) W →
      CallsIn Fence.wide (n - 1) P gf (#[.func (.yield l) #[] #[]] ++ lb) W (fun e W2 => ∃ v, e = .returned v ∧ ∃ (i : Nat) (L2 : List Res) (R2 : List (World → Prop)) (st : LoopState) (pe : Option Code),
        Own w0 S R2 L2 W2 ∧ L2[i]? = some (.blk l (mk st pe)) ∧ st ≠ .busy ∧
        ∀ W3, Own w0 S R2 (L2.set i (.blk l (mk .exhausted pe))) W3 → match pe with
          | none => Q .normal { a with defers := { target := .collected D, args := #[] } :: a.defers } W3
          | some c => c.wpIn Fence.wide n P Q { a with defers := { target := .collected D, args := #[] } :: a.defers } W3)) :
    (Code.rangeFunc g ps assign body).wpIn Fence.wide n P Q a w := by
  refine wpIn_rangeFunc fun fn _ => ?_
  have H1 := H.alloc (.deferred (some []))
  have H2 := H1.alloc (mkLoop fn a ps assign body w.heap.size .ready none)
  have h2 := h fn _ _ _ rfl _ H1.size H.size H2
  refine ⟨w.heap.size + 1, [{ target := .collected w.heap.size, args := #[] }], (w.alloc (.deferred (some []))).alloc (mkLoop fn a ps assign body w.heap.size .ready none), { target := .fn (.func gf) lb, args := #[.func (.yield (w.heap.size + 1)) #[] #[]] }, (w.alloc (.deferred (some []))).alloc (mkLoop fn a ps assign body w.heap.size .ready none), gf,
    #[.func (.yield (w.heap.size + 1)) #[] #[]] ++ lb, (w.alloc (.deferred (some []))).alloc (mkLoop fn a ps assign body w.heap.size .ready none), ?_, ?_, ?_, ?_, fun _ => hn, ?_⟩
  · exact run_enterLoop_outer _ _ _ _ _
  · simp only [resolve, hg]
    simp [go_sem]
  · intro f' hf'; exact trivial
  · simp [invoke, go_sem, eg]
  · rw [World.size_alloc] at h2
    refine h2.mono ?_
    rintro e W2 ⟨v, rfl, i, L2, R2, st, pe, HO, hi, hst, hQ⟩
    have hr := run_endLoop (P := P) (HO.blk hi) (by cases st <;> simp_all)
    exact ⟨pe, _, hr, hQ _ (HO.putObj i hi _)⟩

theorem yieldAt_own {l D fn : Nat} {mk : LoopState → Option Code → Obj} {ps : Array Tmp} {assign body : Code} {args : Array Value} (hmk : mk = mkLoop fn a ps assign body D) (H : Own w0 S R L w) (i : Nat) (hi : L[i]? = some (.blk l (mk .ready none))) (hsz : args.size = ps.size) {Rr : Ending → World → Prop}
    (h : assign.wpIn (Fence.wide.inRound l) n P (Exit.then (fun a1 W1 => ∃ (i1 : Nat) (L1 : List Res) (R1 : List (World → Prop)), Own w0 S R1 L1 W1 ∧ L1[i1]? = some (.blk l (mk .ready none)) ∧
      ∀ W2, Own w0 S R1 (L1.set i1 (.blk l (mk .busy none))) W2 → body.wpIn (Fence.wide.inRound l) n P (roundPost P l Rr) a1 W2) (fun _ _ _ => False))
      { tmps := (ps.zip args).foldl (fun t (p, v) => t.setIfInBounds p v) a.tmps, defers := [] } w) : YieldAt Fence.wide n P l args w Rr := by
  subst hmk
  refine ⟨fn, _, assign, body, run_yield (H.blk hi) (by exact hsz), roundIn_of_wpIn trivial (wpIn_mono h ?_)⟩
  intro e a1 W1 h1
  cases e with
  | normal =>
    obtain ⟨i1, L1, R1, H1, hi1, h2⟩ := h1
    exact ⟨_, run_beginRound (H1.blk hi1) rfl, h2 _ (H1.putObj i1 hi1 _)⟩
  | exit id => exact h1
  | goto l => exact h1
  | ret => exact h1
  | panic ch => exact h1
  | outgrown => exact h1
theorem yieldAt_own1 {l D fn : Nat} {mk : LoopState → Option Code → Obj} {q : Tmp} {v : Value} {ts : List Value} {ds : List Deferred} {assign body : Code} (hmk : mk = mkLoop fn ⟨⟨ts⟩, ds⟩ #[q] assign body D) (H : Own w0 S R L w) (i : Nat) (hi : L[i]? = some (.blk l (mk .ready none))) {Rr : Ending → World → Prop}
    (h : assign.wpIn (Fence.wide.inRound l) n P (Exit.then (fun a1 W1 => ∃ (i1 : Nat) (L1 : List Res) (R1 : List (World → Prop)), Own w0 S R1 L1 W1 ∧ L1[i1]? = some (.blk l (mk .ready none)) ∧
      ∀ W2, Own w0 S R1 (L1.set i1 (.blk l (mk .busy none))) W2 → body.wpIn (Fence.wide.inRound l) n P (roundPost P l Rr) a1 W2) (fun _ _ _ => False))
      ⟨⟨ts.set q v⟩, []⟩ w) : YieldAt Fence.wide n P l #[v] w Rr :=
  yieldAt_own hmk H i hi rfl (by
    have e : (#[q].zip #[v]).foldl (fun t (x : Tmp × Value) => t.setIfInBounds x.1 x.2) (⟨ts⟩ : Array Value) = ⟨ts.set q v⟩ := by simp
    simpa [e] using h)
theorem round_normal {l D fn : Nat} {mk : LoopState → Option Code → Obj} {a0 : Act} {ps : Array Tmp} {assign body : Code} {Rr : Ending → World → Prop} (hmk : mk = mkLoop fn a0 ps assign body D) (H : Own w0 S R L w) (i : Nat) (hi : L[i]? = some (.blk l (mk .busy none)))
    (h : ∀ W, Own w0 S R (L.set i (.blk l (mk .ready none))) W → Rr (.returned (.bool true)) W) : roundPost P l Rr .normal a w := by
  subst hmk
  exact ⟨_, _, run_endRound none (H.blk hi), h _ (H.putObj i hi _)⟩
theorem round_ret {l D fn : Nat} {mk : LoopState → Option Code → Obj} {a0 : Act} {ps : Array Tmp} {assign body : Code} {Rr : Ending → World → Prop} (hmk : mk = mkLoop fn a0 ps assign body D) (H : Own w0 S R L w) (i : Nat) (hi : L[i]? = some (.blk l (mk .busy none)))
    (h : ∀ W, Own w0 S R (L.set i (.blk l (mk .done (some .ret)))) W → Rr (.returned (.bool false)) W) : roundPost P l Rr .ret a w := by
  subst hmk
  exact ⟨_, _, run_endRound (some .ret) (H.blk hi), h _ (H.putObj i hi _)⟩
theorem leave_none {fn : Func} {Rr : Ending → World → Prop} {v : Value} (hd : a.defers = []) (hr : (results fn a.tmps).run P w = .ok v w) (h : Rr (.returned v) w) : bodyPostM Fence.wide n P fn Rr .ret a w := by
  show LeavesInM Fence.wide n P fn a.tmps Rr a.defers .returning w
  rw [hd]
  exact ⟨v, hr, h⟩
theorem leave_one {fn : Func} {Rr : Ending → World → Prop} {v : Value} {D : Nat} (H : Own w0 S R L w) (i : Nat) (hi : L[i]? = some (.blk D (.deferred (some [])))) (hd : a.defers = [{ target := .collected D, args := #[] }])
    (h : ∀ W, Own w0 S R (L.set i (.blk D (.deferred none))) W → (results fn a.tmps).run P W = .ok v W ∧ Rr (.returned v) W) : bodyPostM Fence.wide n P fn Rr .ret a w := by
  show LeavesInM Fence.wide n P fn a.tmps Rr a.defers .returning w
  rw [hd]
  have hb := H.blk hi
  have hlt : D < w.heap.size := (Array.getElem?_eq_some_iff.1 hb).1
  exact ⟨by simp, .inl ⟨D, w.putObj D (.deferred none), rfl, run_takeDeferred hb, ⟨v, (h _ (H.putObj i hi _)).1, (h _ (H.putObj i hi _)).2⟩⟩⟩
theorem in_region_lend {F : Fence} (hF : Free F) {id : Nat} {l : List Oper} (m : Nat) (N : List Res) (H : Own w0 S R (N ++ L) w) (hN : ∀ r ∈ N, ∀ b, r.foot = some b → w0.heap.size ≤ b) (hm : P.follows .mixedOrders = true) (hd : noDefer l = true)
    (h : wpX P .any l.toArray (NoOut Q) w0 S R L m l.toArray.size (Array.replicate l.toArray.size false) [] N a) : (Code.region id l.toArray true).wpIn F n P Q a w :=
  in_region_any hF hm hd (wpAny_of_wpX _ _ [] N a _ ⟨by simpa using H.drew, hN⟩ h)
end
end Go.Proofs.YtimonjemjhecoaaGreatDoor

namespace Go.Proofs.YtimonjemjhecoaaGreatDoor
open Go.RowKit
open Go
attribute [local irreducible] wpList wpQuiet wpX Code.wp
set_option maxHeartbeats 1000000
set_option maxRecDepth 100000
set_option linter.unusedSimpArgs false
set_option linter.unusedVariables false

theorem lexall_spec (bs : Nat) (w : World) : Calls Tryz.prog 73 #[.pointer (some ⟨bs, 0, none⟩)] w fun e w' => ∃ v, e = .returned v ∧ ∃ bc, v = .func (.func 99) #[] #[.pointer (some ⟨bc, 0, none⟩)] ∧ Ext w w' ∧ w.heap.size ≤ bc ∧ w'.heap[bc]? = some (.cells #[.pointer (some ⟨bs, 0, none⟩)] 125 (0, 0)) := by
 have H := Own.start w
 go_enter Tryz.func73, Tryz.ntmps73
 refine wsr ?_
 refine wl_box H rfl rfl (v := (.pointer (some ⟨bs, 0, none⟩))) rfl ?_
 clear H; intro b1 w1 hnb1 H; dsimp only [Value.cells] at H
 simp only [N]
 refine wasg (.nilFunc) ?_; simp only [N]
 refine wpList_nil ?_
 refine wsr ?_
 refine wr (rp_makeFuncL rfl (fs := []) (cs := [.pointer (some ⟨b1, 0, none⟩)]) rfl rfl) ?_; simp only [N]
 refine wasg (.func (.func 99) #[] #[.pointer (some ⟨b1, 0, none⟩)]) ?_; simp only [N]
 refine wpList_nil ?_
 refine wp_ret ?_
 try simp only [Exit.inBlock, Exit.then]
 refine bodyPost_ret (results1 rfl (rv_tmp rfl)) rfl ?_
 exact ⟨_, rfl, _, rfl, H.ext, hnb1, H.blk (i := 0) rfl⟩

theorem lexGo_len (s : ByteArray) : ∀ (n a : Nat) (op : Bool) (toks : List Tok), (lexGo s n a op toks).1.length ≤ toks.length + n + 1
  | 0, a, op, toks => by simp [lexGo]
  | n + 1, a, op, toks => by
    unfold lexGo
    split
    · split
      · have := lexGo_len s n (nextAt s a) (nextOpen op (nextTok s a op).kind) (if 0 < (nextTok s a op).kind then toks ++ [nextTok s a op] else toks)
        split at this <;> simp_all <;> omega
      · simp
    · split <;> simp <;> omega
def lexF (s : ByteArray) : List Tok × Int × Int := bif decide ((16384 : Int) < (s.size : Int)) then ([], 0, 3) else lexGo s (s.size + 1) 0 false []

theorem lex_spec (s : ByteArray) (hs : s.size ≤ 140737488355328) (w : World) (hg : Glob w) :
    Calls Tryz.prog 49 #[.string s] w fun e w' => ∃ x : Option Addr × Nat, e = .returned (.tuple #[(⟨x.1, x.2, (lexF s).1⟩ : Sl Tok).val, iv (lexF s).2.1, iv (lexF s).2.2]) ∧ Ext w w' ∧ Fresh w w' (SlIn 3 Tok.cells ⟨x.1, x.2, (lexF s).1⟩) := by
 have H := Own.start_ro w [Glob] (List.forall_mem_cons.2 ⟨fun w' hw => hg.keep hw, fun _ h => by cases h⟩)
 refine (callsIn_wide (n := 3)).1 ?_
 refine callsIn_of_wp_marks Tryz.func49 rfl trivial ?_
 simp only [Tryz.ntmps49, List.size_toArray, List.length_cons, List.length_nil, Nat.reduceAdd, Nat.reduceSub, Array.replicate_succ, Array.replicate_zero, List.push_toArray, List.append_toArray, List.nil_append, List.cons_append]
 refine wpIn_seq ?_
 refine wpIn_wide.2 ?_
 refine wp_region_lit ?_; refine wl_alloc H rfl rfl zv102 ?_
 clear H; intro b1 w1 hnb1 H; dsimp only [Value.cells] at H
 simp only [N]
 refine wl_alloc H rfl rfl zv3 ?_
 clear H; intro b2 w2 hnb2 H; dsimp only [Value.cells] at H
 simp only [N]
 refine wl_alloc H rfl rfl zv46 ?_
 clear H; intro b3 w3 hnb3 H; dsimp only [Value.cells] at H
 simp only [N]
 refine wpList_nil ?_
 refine wpIn_seq ?_
 refine wpIn_seq ?_
 refine wpIn_wide.2 ?_
 refine wp_region_lit ?_; refine wmv (.string s) ?_; simp only [N]
 refine wr (rp_len_string Tryz.underlying9 rfl) ?_; simp only [N]
 refine wr (rp_int_gtr rfl (s.size : Int) (16384 : Int) rfl rfl) ?_; simp only [N]
 refine wpList_nil ?_
 refine wpIn_cond_split rfl (fun hc1 => ?_) (fun hc1 => ?_)
 · --T 1
  have hc1N1 : (16384 : Int) < (s.size : Int) := (by simpa using hc1)
  refine wpIn_seq ?_
  refine wpIn_wide.2 ?_
  refine wp_region_lit ?_; refine wl_store1 H 2 rfl rfl rfl (cs := #[(.slice none 0 0)]) rfl (v := (.slice none 0 0)) rfl rfl sz102 (Nat.le_of_ble_eq_true rfl) ?_
  clear H; intro w4 H; simp only [Ms] at H
  simp only [N]
  refine wl_store1 H 1 rfl rfl rfl (cs := #[iv (0 : Int)]) rfl (v := iv (0 : Int)) rfl rfl sz3 (Nat.le_of_ble_eq_true rfl) ?_
  clear H; intro w5 H; simp only [Ms] at H
  simp only [N]
  refine wl_store1 H 0 rfl rfl rfl (cs := #[iv (0 : Int)]) rfl (v := iv (3 : Int)) rfl rfl sz46 (Nat.le_of_ble_eq_true rfl) ?_
  clear H; intro w6 H; simp only [Ms] at H
  simp only [N]
  refine wpList_nil ?_
  refine wpIn_ret ?_
  try simp only [Exit.inBlock, Exit.then]
  refine leave_none rfl (results3 rfl (rv_one H 2 rfl rfl Tryz.underlying102 rfl) (rv_one H 1 rfl rfl Tryz.underlying3 rfl) (rv_one H 0 rfl rfl Tryz.underlying46 rfl)) ?_
  have hF : lexF s = ([], 0, 3) := bt hc1
  rw [hF]
  exact ⟨(none, 0), rfl, H.ext, fun _ _ => slin_nil Tok.cells_n⟩
 · --F 1
  have hc1N2 : (s.size : Int) ≤ (16384 : Int) := (by simpa using hc1)
  refine wpIn_skip ?_
  refine wpIn_seq ?_
  refine wpIn_wide.2 ?_
  refine wp_region_lit ?_; refine wmv (.string s) ?_; simp only [N]
  refine wr (rp_build rfl (vs := [(0, .string s)]) rfl (cs := #[.string s, iv (0 : Int)]) (by kernel_rfl)) ?_; simp only [N]
  refine wr (rp_build rfl (vs := [(0, .agg #[.string s, iv (0 : Int)])]) rfl (cs := #[.string s, iv (0 : Int), .bool false, iv (0 : Int)]) (by kernel_rfl)) ?_; simp only [N]
  refine wl_box H rfl rfl (v := .agg #[.string s, iv (0 : Int), .bool false, iv (0 : Int)]) rfl ?_
  clear H; intro b4 w7 hnb4 H; dsimp only [Value.cells] at H
  simp only [N]
  refine wl_alloc H rfl rfl zv125 ?_
  clear H; intro b5 w8 hnb5 H; dsimp only [Value.cells] at H
  simp only [N]
  refine wl_store1 H 0 rfl rfl rfl (cs := #[(.pointer none)]) rfl (v := .pointer (some ⟨b4, 0, none⟩)) rfl rfl sz125 (Nat.le_of_ble_eq_true rfl) ?_
  clear H; intro w9 H; simp only [Ms] at H
  simp only [N]
  refine wpList_nil ?_
  refine wpIn_seq ?_
  refine wpIn_seq ?_
  refine wpIn_wide.2 ?_
  refine wp_region_lit ?_; refine wr (rp_load1 H 0 rfl rfl rfl Tryz.underlying125 rfl (v := .pointer (some ⟨b4, 0, none⟩)) rfl) ?_; simp only [N]
  have H0 := H
  refine wl_callR rfl (rc_go Tryz.func73 (by kernel_rfl) rfl) (lexall_spec _ _) ?_
  rintro _ w10 ⟨b6, rfl, hE, hnb6, hbb6⟩
  replace H := H.add hE (.blk b6 _) hbb6 (foot_blk hnb6)
  replace hnb6 := Nat.le_trans H0.size hnb6
  clear H0
  simp only [N]
  refine wpList_nil ?_
  refine wpIn_block ?_
  have H := H.rowNilT Tok.cells 107 3
  replace H := H.order [1, 3, 0, 4, 5, 6, 2] rfl (L' := [.blk b6 (.cells #[.pointer (some ⟨b4, 0, none⟩)] 125 (0, 0)), .blk b4 (.cells #[.string s, iv (0 : Int), .bool false, iv (0 : Int)] 129 (0, 0)), .row (.slice none 0 0) 107 3 ([] : List Tok).length (([] : List Tok).flatMap Tok.cells), .blk b3 (.cells #[iv (0 : Int)] 46 (0, 0)), .blk b2 (.cells #[iv (0 : Int)] 3 (0, 0)), .blk b1 (.cells #[(.slice none 0 0)] 102 (0, 0)), .blk b5 (.cells #[.pointer (some ⟨b4, 0, none⟩)] 125 (0, 0))]) rfl
  refine wpIn_rangeOwn H (by omega) rfl (fun args w => enters_of Tryz.func99 (by kernel_rfl) rfl args w) ?_
  intro fn l D mk hmk w11 hnl hnD H
  replace H := H.order [2, 3, 0, 1, 4, 5, 6, 7, 8] rfl (L' := [.blk b6 (.cells #[.pointer (some ⟨b4, 0, none⟩)] 125 (0, 0)), .blk b4 (.cells #[.string s, iv (0 : Int), .bool false, iv (0 : Int)] 129 (0, 0)), .blk l (mk .ready none), .blk D (.deferred (some [])), .row (.slice none 0 0) 107 3 ([] : List Tok).length (([] : List Tok).flatMap Tok.cells), .blk b3 (.cells #[iv (0 : Int)] 46 (0, 0)), .blk b2 (.cells #[iv (0 : Int)] 3 (0, 0)), .blk b1 (.cells #[(.slice none 0 0)] 102 (0, 0)), .blk b5 (.cells #[.pointer (some ⟨b4, 0, none⟩)] 125 (0, 0))]) rfl
  have hy : Rounds 2 w [] b6 b4 125 129 l s (fun v toks => [.blk l (mk .ready none), .blk D (.deferred (some [])), .row v 107 3 toks.length (toks.flatMap Tok.cells), .blk b3 (.cells #[iv (0 : Int)] 46 (0, 0)), .blk b2 (.cells #[iv (0 : Int)] 3 (0, 0)), .blk b1 (.cells #[v] 102 (0, 0)), .blk b5 (.cells #[.pointer (some ⟨b4, 0, none⟩)] 125 (0, 0))]) (fun pl e => [.blk l (mk .done (some .ret)), .blk D (.deferred (some [])), .blk b3 (.cells #[iv e] 46 (0, 0)), .blk b2 (.cells #[iv pl] 3 (0, 0)), .blk b1 (.cells #[(.slice none 0 0)] 102 (0, 0)), .blk b5 (.cells #[.pointer (some ⟨b4, 0, none⟩)] 125 (0, 0))]) := by
   clear H; intro v a op toks t e W htl H
   refine yieldAt_own1 hmk H 2 rfl ?_
   simp only [n3, n4]
   have hF : Free (Fence.wide.inRound l) := .inr ⟨l, rfl⟩
   refine in_region_lit hF rfl ?_
   refine wl_alloc H rfl rfl zv107 ?_
   clear H; intro b7 w12 hnb7 H; dsimp only [Value.cells] at H
   simp only [N]
   refine wl_storeW H 0 rfl rfl rfl rfl (vs := (t.cells).toArray) rfl (Tok.cells_one _) (by first | exact sz107 | (rw [sz107]; congr 1; first | omega | (simp; done) | (simp; omega))) (by first | rfl | first | omega | (simp; done) | (simp; omega)) ?_
   clear H; intro w13 H; simp only [M] at H
   simp only [N]
   refine wpList_nil ?_
   refine NoOut.normal ?_
   refine ⟨3, _, _, H, rfl, fun w14 H => ?_⟩
   simp only [M] at H
   refine wpIn_block ?_
   refine wpIn_seq ?_
   refine wpIn_seq ?_
   refine in_region_lit hF rfl ?_
   refine wr (rp_load1 H 9 rfl rfl rfl Tryz.underlying125 rfl (v := .pointer (some ⟨b4, 0, none⟩)) rfl) ?_; simp only [N]
   refine wr (rp_nilCheck rfl rfl) ?_; simp only [N]
   refine wr (rp_fieldAddr rfl Tryz.underlying129 rfl 3 rfl sz46 rfl 3 rfl) ?_; simp only [N]
   refine wr (rp_load1 H 2 rfl rfl rfl Tryz.underlying46 rfl (v := iv e) rfl) ?_; simp only [N]
   refine wr (rp_int_neq rfl e (0 : Int) rfl rfl) ?_; simp only [N]
   refine wpList_nil ?_
   refine NoOut.normal ?_
   refine wpIn_cond_split rfl (fun hc2 => ?_) (fun hc2 => ?_)
   · --T 2
    have hc2N3 : e ≠ (0 : Int) := (by simpa using hc2)
    refine wpIn_seq ?_
    replace H := H.order [8, 7, 0, 1, 2, 3, 4, 5, 6, 9] rfl (L' := [.blk b1 (.cells #[v] 102 (0, 0)), .blk b2 (.cells #[iv (0 : Int)] 3 (0, 0)), .blk b7 (.cells (t.cells).toArray 107 (0, 0)), .blk b6 (.cells #[.pointer (some ⟨b4, 0, none⟩)] 125 (0, 0)), .blk b4 (.cells #[.string s, iv (a : Int), .bool op, iv e] 129 (0, 0)), .blk l (mk .busy none), .blk D (.deferred (some [])), .row v 107 3 toks.length (toks.flatMap Tok.cells), .blk b3 (.cells #[iv (0 : Int)] 46 (0, 0)), .blk b5 (.cells #[.pointer (some ⟨b4, 0, none⟩)] 125 (0, 0))]) rfl
    refine in_region_lend hF 8 [.blk b1 (.cells #[v] 102 (0, 0)), .blk b2 (.cells #[iv (0 : Int)] 3 (0, 0))] H (List.forall_mem_cons.2 ⟨foot_blk hnb1, List.forall_mem_cons.2 ⟨foot_blk hnb2, fun _ h => by cases h⟩⟩) (by kernel_rfl) rfl ?_
    refine wxl_tk 0 rfl (xy_run rfl (fun w H => rp_fieldAddr rfl Tryz.underlying107 rfl 2 rfl sz3 rfl 2 rfl)) ?_; simp only [N]
    refine wxl_tk 1 rfl (xy_run rfl (fun w H => rp_load1 H 0 rfl rfl rfl Tryz.underlying3 rfl (v := iv t.place) rfl)) ?_; simp only [N]
    refine wxl_tk 2 rfl (xy_run rfl (fun w H => rp_load1 H 7 rfl rfl rfl Tryz.underlying125 rfl (v := .pointer (some ⟨b4, 0, none⟩)) rfl)) ?_; simp only [N]
    refine wxl_tk 3 rfl (xy_run rfl (fun w H => rp_nilCheck rfl rfl)) ?_; simp only [N]
    refine wxl_tk 4 rfl (xy_run rfl (fun w H => rp_fieldAddr rfl Tryz.underlying129 rfl 3 rfl sz46 rfl 3 rfl)) ?_; simp only [N]
    refine wxl_tk 5 rfl (xy_run rfl (fun w H => rp_load1 H 2 rfl rfl rfl Tryz.underlying46 rfl (v := iv e) rfl)) ?_; simp only [N]
    refine wxl_store 6 0 rfl rfl (by kernel_rfl) rfl rfl (xs_one rfl rfl (v := (.slice none 0 0)) rfl rfl sz102) ?_
    simp only [N, M, Value.cells]
    refine wxl_store 7 1 rfl rfl (by kernel_rfl) rfl rfl (xs_one rfl rfl (v := iv t.place) rfl rfl sz3) ?_
    simp only [N, M, Value.cells]
    refine wpX_tail (n := 0) _ rfl rfl (by kernel_rfl) ?_
    clear H; intro w15 H; simp only [List.cons_append, List.nil_append] at H
    refine wl_store1 H 8 rfl rfl rfl (cs := #[iv (0 : Int)]) rfl (v := iv e) rfl rfl sz46 (Nat.le_of_ble_eq_true rfl) ?_
    clear H; intro w16 H; simp only [Ms] at H
    simp only [N]
    refine wpList_nil ?_
    refine NoOut.normal ?_
    refine wpIn_ret ?_
    try simp only [Exit.inBlock, Exit.then]
    replace H := H.dropNew 2 rfl (foot_blk hnb7); simp only [m5, m6] at H
    replace H := H.dropNew 6 rfl (H.newrow 6 rfl); simp only [m5, m6] at H
    replace H := H.order [2, 3, 4, 5, 6, 1, 0, 7] rfl (L' := [.blk b6 (.cells #[.pointer (some ⟨b4, 0, none⟩)] 125 (0, 0)), .blk b4 (.cells #[.string s, iv (a : Int), .bool op, iv e] 129 (0, 0)), .blk l (mk .busy none), .blk D (.deferred (some [])), .blk b3 (.cells #[iv e] 46 (0, 0)), .blk b2 (.cells #[iv t.place] 3 (0, 0)), .blk b1 (.cells #[(.slice none 0 0)] 102 (0, 0)), .blk b5 (.cells #[.pointer (some ⟨b4, 0, none⟩)] 125 (0, 0))]) rfl
    refine round_ret hmk H 2 rfl (fun w17 H => ?_)
    simp only [M] at H
    exact .inr ⟨by assumption, rfl, H⟩
   · --F 2
    have hc2N4 : e = (0 : Int) := (by simpa using hc2)
    refine wpIn_skip ?_
    refine in_region_lit hF rfl ?_
    refine wr (rp_load1 H 8 rfl rfl rfl Tryz.underlying102 rfl (v := v) rfl) ?_; simp only [N]
    refine wr (rp_loadN H 0 rfl rfl rfl Tryz.underlying107 rfl sz107 (Nat.le_of_ble_eq_true rfl) (cs' := t.cells) rfl) ?_; simp only [N]
    refine wl_xallocF H rfl (xa_buildSlice rfl Tryz.underlying102 sz107 zv107 (by decide) (by decide) (vs := [(0, .agg (t.cells).toArray)]) rfl (cs := #[bv t.kind, .string t.text, iv t.place]) (by kernel_rfl)) ?_
    clear H; intro b8 w18 hnb8 H
    simp only [N]
    refine wl_appendT Tok.cells H 5 rfl Tryz.underlying102 sz107 zv107 by107 rfl (by decide) rfl rfl (ad := ⟨b8, 0, none⟩) (m := 1) (c := 1) rfl [t] rfl Tok.cells_n (fun j u hu => cell_of_news (H.ro_at 0 rfl) j u hu) (by intro x; simp [Tok.cells, Value.oneCell']) (by first | omega | (simp only [List.length_append, List.length_cons, List.length_nil]; omega)) (by first | omega | (simp only [List.length_append, List.length_cons, List.length_nil]; omega)) (by simp) ?_
    clear H; intro b9 w19 H; simp only [M] at H
    simp only [N]
    refine wl_store1 H 8 rfl rfl rfl (cs := #[v]) rfl (v := b9) rfl (H.rowone 5 rfl) sz102 (Nat.le_of_ble_eq_true rfl) ?_
    clear H; intro w20 H; simp only [Ms] at H
    simp only [N]
    refine wpList_nil ?_
    refine NoOut.normal ?_
    try simp only [Exit.inBlock, Exit.then]
    replace H := H.dropNew 0 rfl (foot_blk hnb7); simp only [m5, m6] at H
    replace H := H.facts (R' := [Glob]) (by first | exact fun _ h => h | simp)
    refine round_normal hmk H 2 rfl (fun w21 H => ?_)
    simp only [M] at H
    exact .inl ⟨by assumption, rfl, b9, H⟩
  simp only [List.push_toArray, List.append_toArray, List.nil_append, List.cons_append]
  refine (alllex_spec 2 w [] b6 b4 125 129 l s _ _ (by omega) hy (.slice none 0 0) _ H).mono ?_
  rintro _ W2 ⟨⟨v, rfl⟩, (⟨v2, a, op, HO, he⟩ | ⟨a, op, hne, HO⟩)⟩
  ·
   refine ⟨_, rfl, 2, _, _, .ready, none, HO, rfl, by simp, fun w22 H => ?_⟩
   simp only [M] at H
   dsimp only
   refine wpIn_seq ?_
   refine wpIn_wide.2 ?_
   refine wp_region_lit ?_; refine wr (rp_load1 H 7 rfl rfl rfl Tryz.underlying102 rfl (v := v2) rfl) ?_; simp only [N]
   refine wl_store1 H 7 rfl rfl rfl (cs := #[v2]) rfl (v := v2) rfl (H.rowone 4 rfl) sz102 (Nat.le_of_ble_eq_true rfl) ?_
   clear H; intro w23 H; simp only [Ms] at H
   simp only [N]
   refine wl_store1 H 6 rfl rfl rfl (cs := #[iv (0 : Int)]) rfl (v := iv (0 : Int)) rfl rfl sz3 (Nat.le_of_ble_eq_true rfl) ?_
   clear H; intro w24 H; simp only [Ms] at H
   simp only [N]
   refine wl_store1 H 5 rfl rfl rfl (cs := #[iv (0 : Int)]) rfl (v := iv (0 : Int)) rfl rfl sz46 (Nat.le_of_ble_eq_true rfl) ?_
   clear H; intro w25 H; simp only [Ms] at H
   simp only [N]
   refine wpList_nil ?_
   refine wpIn_ret ?_
   try simp only [Exit.inBlock, Exit.then]
   refine leave_one (v := .tuple #[v2, iv (0 : Int), iv (0 : Int)]) H 3 rfl rfl (fun w26 H => ?_)
   simp only [M] at H
   refine ⟨(results3 rfl (rv_one H 7 rfl rfl Tryz.underlying102 rfl) (rv_one H 6 rfl rfl Tryz.underlying3 rfl) (rv_one H 5 rfl rfl Tryz.underlying46 rfl)), ?_⟩
   have hF : lexF s = lexGo s (s.size + 1) 0 false [] := bf hc1
   rw [hF]
   obtain ⟨x, hx, hf⟩ := fresh_row H 4 rfl (lexGo s (s.size + 1) 0 false []).1 rfl rfl Tok.cells_n (by have := lexGo_len s (s.size + 1) 0 false []; simp at this; omega)
   exact ⟨x, by rw [he, ← hx], H.ext, hf⟩
  ·
   refine ⟨_, rfl, 2, _, _, .done, some .ret, HO, rfl, by simp, fun w27 H => ?_⟩
   simp only [M] at H
   dsimp only
   refine wpIn_ret ?_
   try simp only [Exit.inBlock, Exit.then]
   refine leave_one (v := .tuple #[(.slice none 0 0), iv (lexGo s (s.size + 1) 0 false []).2.1, iv (lexGo s (s.size + 1) 0 false []).2.2]) H 3 rfl rfl (fun w28 H => ?_)
   simp only [M] at H
   refine ⟨(results3 rfl (rv_one H 6 rfl rfl Tryz.underlying102 rfl) (rv_one H 5 rfl rfl Tryz.underlying3 rfl) (rv_one H 4 rfl rfl Tryz.underlying46 rfl)), ?_⟩
   have hF : lexF s = lexGo s (s.size + 1) 0 false [] := bf hc1
   rw [hF]
   have h1 := lexGo_err hne
   exact ⟨(none, 0), by rw [h1]; rfl, H.ext, by rw [h1]; exact fun _ _ => slin_nil Tok.cells_n⟩

end Go.Proofs.YtimonjemjhecoaaGreatDoor
