/- Walks inside a round of a range over a function: what holds outside holds there. No program in sight. -/
import Derived.Test.YtimonjemjhecoaaGreatDoorSxMore
import Derived.RangeFuncNested
import Derived.RangeFuncBound
import Derived.RangeFuncCalls
import Derived.RangeFuncLeaves
import Derived.TacticsInMore
import Derived.LoopIn
import Derived.OrdersIn
namespace Go.Proofs.YtimonjemjhecoaaGreatDoor
open Go.RowKit
open Go
def Free (F : Fence) : Prop := F = Fence.wide ∨ ∃ l, F = Fence.wide.inRound l
section
variable {P : Program} {F : Fence} {n : Nat} {ops : Array Oper} {rest : List Oper} {o : Oper} {a : Act} {w w0 : World} {Q : Exit → Act → World → Prop} {K : Act → World → Prop}

theorem Free.fn {F : Fence} (h : Free F) (f : FuncId) : F.fn f := by
  rcases h with rfl | ⟨l, rfl⟩ <;> exact trivial
theorem Free.depth {F : Fence} (h : Free F) : F.depth = none := by
  rcases h with rfl | ⟨l, rfl⟩ <;> rfl
theorem Free.calls {F : Fence} (h : Free F) {f : FuncId} {args : Array Value} {R : Ending → World → Prop} (hc : Calls P f args w R) : CallsIn F n P f args w R := by
  rcases h with rfl | ⟨l, rfl⟩
  · exact callsIn_wide.2 hc
  · exact CallsIn.inRound l (callsIn_wide.2 hc)
theorem Free.semAt (hF : Free F) (hd : ∀ c, o.op ≠ .defer c) (ρ : Operand → Value) : Oper.semAt F.round ρ o = execOp ρ o := by
  rcases hF with rfl | ⟨l, rfl⟩
  · exact Oper.semAt_none ρ o
  · exact Oper.semAt_some l ρ o hd
theorem in_oper (hF : Free F) (hd : ∀ c, o.op ≠ .defer c) (h : o.wp P a w K Q) : o.wpIn F n P a w K Q := by
  refine ⟨fun f _ => hF.fn f, ?_⟩
  rw [hF.semAt hd]
  unfold Oper.wp at h
  have hdep : F.depth.isSome = true → 1 ≤ n := by rw [hF.depth]; intro h; cases h
  generalize (execOp a.eval o).run P w = r at h ⊢
  cases r with
  | ok x w' =>
    cases x <;> simp only [Oper.upon] at h <;> simp only [Oper.uponIn]
    case value v => exact h
    case skip => exact h
    case defer d => exact h
    case enter f args => exact ⟨hdep, hF.calls h⟩
    case row r args =>
      refine ⟨hdep, fun c cs _ => ?_⟩
      obtain ⟨v, w'', r', s⟩ := h c cs
      refine ⟨v, w'', r', ?_⟩
      rcases hF with rfl | ⟨l, rfl⟩
      · exact stepsIn_wide.2 s
      · exact stepsIn_wide.2 s
  | halt x w' =>
    cases x <;> simp only [Oper.upon] at h <;> simp only [Oper.uponIn]
    case panic v => exact h
theorem in_list (hF : Free F) (hq : ¬ LetsOut Q) : ∀ (l : List Oper), (∀ o ∈ l, ∀ c, o.op ≠ .defer c) → ∀ {a : Act} {w : World}, wpList P ops Q l a w → wpListIn F n P ops Q l a w
  | [], _, _, _, h => h
  | o :: l, hd, a, w, h => by
    unfold wpList at h
    unfold wpListIn
    split
    · rename_i hw
      simp only [hw, if_true] at h
      rcases h with h | h
      · exact in_oper hF (hd o (List.mem_cons_self ..)) (Oper.wp_mono (fun a' w' h' => in_list hF hq l (fun o ho => hd o (List.mem_cons_of_mem _ ho)) h') h)
      · exact absurd h.2 hq
    · rename_i hw
      simp only [hw] at h
      exact ⟨fun f _ => hF.fn f, in_list hF hq l (fun o ho => hd o (List.mem_cons_of_mem _ ho)) h⟩
def noDefer (l : List Oper) : Bool := l.all fun o => match o.op with | .defer _ => false | _ => true
theorem noDefer_spec {l : List Oper} (h : noDefer l = true) : ∀ o ∈ l, ∀ c, o.op ≠ .defer c := by
  intro o ho c he
  have := List.all_eq_true.1 h o ho
  rw [he] at this
  cases this
theorem in_any (hF : Free F) (hq : ¬ LetsOut Q) (hd : noDefer ops.toList = true) : ∀ (fuel : Nat) (listed : Array Bool) {a : Act} {w : World}, wpAny P .any ops Q fuel listed a w → wpAnyIn F n P .any ops Q fuel listed a w
  | 0, _, _, _, h => h
  | fuel + 1, listed, a, w, h => by
    refine ⟨h.1, fun i hi => ?_⟩
    have h1 := h.2 i hi
    unfold wpOp at h1
    unfold wpOpIn
    split
    · rename_i ho; simp only [ho] at h1; exact in_any hF hq hd fuel _ h1
    · rename_i o ho
      simp only [ho] at h1
      have hdo : ∀ c, o.op ≠ .defer c := noDefer_spec hd o (by obtain ⟨hlt, rfl⟩ := Array.getElem?_eq_some_iff.1 ho; simp)
      split
      · rename_i hw
        simp only [hw, if_true] at h1
        rcases h1 with h1 | h1
        · exact in_oper hF hdo (Oper.wp_mono (fun a' w' h' => in_any hF hq hd fuel _ h') h1)
        · exact absurd h1.2 hq
      · rename_i hw
        simp only [hw] at h1
        exact ⟨fun f _ => hF.fn f, in_any hF hq hd fuel _ h1⟩
def NoOut (Q : Exit → Act → World → Prop) : Exit → Act → World → Prop := fun e a w => Q e a w ∧ e ≠ .outgrown
theorem noOut {Q : Exit → Act → World → Prop} : ¬ LetsOut (NoOut Q) := fun ⟨_, _, h⟩ => h.2 rfl
theorem NoOut.normal (h : Q .normal a w) : NoOut Q .normal a w := ⟨h, by simp⟩
theorem in_region_lit (hF : Free F) {id : Nat} {l : List Oper} (hd : noDefer l = true) (h : wpList P l.toArray (NoOut Q) l a w) : (Code.region id l.toArray false).wpIn F n P Q a w :=
  wpIn_mono (Q := NoOut Q) (wpIn_region_lit (in_list hF noOut l (noDefer_spec hd) h)) fun _ _ _ h => h.1
theorem in_region_any (hF : Free F) {id : Nat} {l : List Oper} (hm : P.follows .mixedOrders = true) (hd : noDefer l = true)
    (h : wpAny P .any l.toArray (NoOut Q) l.toArray.size (Array.replicate l.toArray.size false) a w.drew) : (Code.region id l.toArray true).wpIn F n P Q a w :=
  wpIn_mono (Q := NoOut Q) (wpIn_region_any hm (in_any hF noOut (by simpa using hd) _ _ h)) fun _ _ _ h => h.1
variable {S : List Nat} {R : List (World → Prop)} {L : List Res}
theorem wpI_loopX {c : Code} (I : Nat → Act → World → Prop) (n₀ : Nat) (h₀ : I n₀ a w)
    (round : ∀ k a w, I k a w → c.wpIn F n P (Exit.then (fun a' w' => ∃ k', k' < k ∧ I k' a' w') Q) a w) : (Code.loop c).wpIn F n P Q a w := by
  refine wpIn_loop (fun a w => ∃ k, I k a w) (fun a w => leastOf (fun k => I k a w)) ⟨n₀, h₀⟩ ?_
  intro a w hI
  refine wpIn_mono (round _ a w (leastOf_spec hI).1) ?_
  intro e a' w' hq
  cases e with
  | normal =>
    obtain ⟨n', hlt, hI'⟩ := hq
    exact show (∃ k, I k a' w') ∧ leastOf (fun k => I k a' w') < leastOf (fun k => I k a w) from ⟨⟨n', hI'⟩, Nat.lt_of_le_of_lt ((leastOf_spec ⟨n', hI'⟩).2 n' hI') hlt⟩
  | exit id => exact hq
  | goto l => exact hq
  | ret => exact hq
  | panic ch => exact hq
  | outgrown => exact hq
theorem wlI_run {v : Value} {w' : World} (hw : Region.wanted o (yielded ops a.tmps) = true) (hrun : (execOp a.eval o).run P w = .ok (.value v) w')
    (h : wpListIn Fence.wide n P ops Q rest (a.put o.dst v) w') : wpListIn Fence.wide n P ops Q (o :: rest) a w := by
  unfold wpListIn
  rw [if_pos hw]
  refine ⟨fun _ _ => trivial, ?_⟩
  rw [show Fence.wide.round = none from rfl, Oper.semAt_none, hrun]
  exact h
theorem wlI_skip (hw : Region.wanted o (yielded ops a.tmps) = false) (h : wpListIn Fence.wide n P ops Q rest (a.put o.dst undef) w) : wpListIn Fence.wide n P ops Q (o :: rest) a w := by
  unfold wpListIn
  rw [hw]
  exact ⟨fun _ _ => trivial, h⟩
theorem rc_yield {dst : Option Tmp} {l : Nat} {x : Operand} {xs : List Operand} {ats : Array TypeId} {ty : TypeId} {pos : String} {after : Array Edge} {guard : Option (Nat × Bool)}
    (hx : a.eval x = .func (.yield l) #[] #[]) (w : World) :
    (execOp a.eval { dst, op := .call { callee := .value x, args := xs.toArray, argTypes := ats }, type := ty, pos, after, guard }).run P w = (Instr.yield l (xs.map a.eval).toArray).run P w := by
  unfold execOp
  simp [resolve, hx, Deferred.ofValue, invoke]
theorem wlI_yield {l : Nat} {args : Array Value} (hw : Region.wanted o (yielded ops a.tmps) = true) (hrun : (execOp a.eval o).run P w = (Instr.yield l args).run P w) {Rr : Ending → World → Prop}
    (hy : YieldAt Fence.wide (n - 1) P l args w Rr)
    (h : ∀ e w', Rr e w' → ∃ v, e = .returned v ∧ wpListIn Fence.wide n P ops Q rest (a.put o.dst v) w') : wpListIn Fence.wide n P ops Q (o :: rest) a w := by
  obtain ⟨fn, tmps, assign, body, h1, h2⟩ := hy
  unfold wpListIn
  rw [if_pos hw]
  refine ⟨fun _ _ => trivial, ?_⟩
  rw [show Fence.wide.round = none from rfl, Oper.semAt_none, hrun, h1, Oper.uponIn_round]
  refine ⟨(fun h => by cases h), h2.mono fun e w' hr => ?_⟩
  obtain ⟨v, rfl, h3⟩ := h e w' hr
  exact h3
end
end Go.Proofs.YtimonjemjhecoaaGreatDoor
