/- Walks, printed by a program of this repository (wip/tool). -/
import Derived.Test.YtpnaooajmdildaaGreatDoorSt
import Derived.Test.YtpnaooajmdildaaGreatDoorBL
import Derived.Test.YtpnaooajmdildaaGreatDoorStI
namespace Go.Proofs.YtpnaooajmdildaaGreatDoor
open Go.RowKit
open Go
attribute [local irreducible] wpList wpQuiet wpX Code.wp
set_option maxHeartbeats 1000000
set_option maxRecDepth 100000
set_option linter.unusedSimpArgs false
set_option linter.unusedVariables false


theorem steps_loop (t : Int) (K : Bool → Bool) : ∀ (l : List Int) (b : Bool), loopL (stepsF_a t) K l b = K (b || l.any (fun x => x == t))
  | [], b => by simp [loopL]
  | x :: l, b => by
    show loopL (stepsF_a t) K l (b || (x == t)) = _
    rw [steps_loop t K l]
    simp [Bool.or_assoc]
theorem told_eq {p : Prog} {S : List UInt8} (hv : Valid p S) (t : Int) : (movesF p S).any (fun x => x == t) = mayF p S t := by
  rw [moves_eq ((valid_iff hv.len).2 hv)]
  cases h : mayF p S t
  · rw [List.any_eq_false]
    intro x hx
    have := able_mem.1 hx
    intro he
    rw [beq_iff_eq] at he
    subst he
    rw [h] at this
    cases this
  · rw [List.any_eq_true]
    exact ⟨t, able_mem.2 h, by simp⟩
theorem over_eq {p : Prog} {S : List UInt8} (hv : Valid p S) : overF p S = ((((movesF p S).length : Nat) : Int) == (0 : Int)) := by
  have h := (valid_iff hv.len).2 hv
  rw [moves_eq h]
  unfold overF
  rw [h]
  rfl
theorem steps_back {p : Prog} {S : List UInt8} (hv : Valid p S) {k : Nat} (hm : mayN p S k = true) :
    (((goesF p S k).take (k * 9) ++ ((S.drop (k * 9)).take 9) ++ (goesF p S k).drop (k * 9 + ((S.drop (k * 9)).take 9).length)).set (36 + (insAt p k (pcOf S k).toNat).loc.toNat) (S.getD (36 + (insAt p k (pcOf S k).toNat).loc.toNat) 0)) = S := by
  obtain ⟨hk, h6, _, _⟩ := hv.may hm
  have hl := goes_length (p := p) hv.len hk
  have h9 : ((S.drop (k * 9)).take 9).length = 9 := thOf_length hv.len hk
  have hlen : ((goesF p S k).take (k * 9) ++ ((S.drop (k * 9)).take 9) ++ (goesF p S k).drop (k * 9 + ((S.drop (k * 9)).take 9).length)).length = 142 := by
    rw [splice_length _ _ _ (by omega), hl]
  refine ext_getD (n := 142) (by rw [List.length_set, hlen]) hv.len fun j hj => ?_
  rw [set_getD _ _ _ _ (by omega)]
  split
  · rename_i h; rw [h]
  · rename_i h
    rw [splice_getD _ _ _ _ (by omega), h9]
    split
    · rw [sub_getD _ _ _ _ (by omega)]
      congr 1
      omega
    · rename_i h'
      rw [goes_getD hv.len hk h6, if_neg h', if_neg h]
theorem steps_local {p : Prog} {S : List UInt8} (hv : Valid p S) {k : Nat} (hm : mayN p S k = true) (hs : stillP (insAt p k (pcOf S k).toNat)) : ((goesF p S k).drop 36).take 6 = (S.drop 36).take 6 := by
  obtain ⟨hk, h6, _, _⟩ := hv.may hm
  have hl := goes_length (p := p) hv.len hk
  have hlS := hv.len
  refine ext_getD (n := 6) (by simp; omega) (by simp; omega) fun j hj => ?_
  rw [sub_getD _ _ _ _ hj, sub_getD _ _ _ _ hj, goes_getD hv.len hk h6, if_neg (by omega)]
  split
  · rename_i h; rw [still_mem hs, h]
  · rfl
theorem steps_true (p : Prog) (picks : List UInt8) (t : Int) : stepsF p picks t = true := by
  unfold stepsF
  cases h0 : (behindF p picks).2
  · have := behind_not h0
    simp [this]
  · have hv := behind_yes h0
    have hr := (valid_iff hv.len).2 hv
    simp only [Bool.not_true, cond_false]
    rw [steps_loop, Bool.false_or, told_eq hv]
    show stepsF_v50 p picks t _ (moveF p (behindF p picks).1 t) = true
    unfold stepsF_v50 stepsF_v55 stepsF_v80
    generalize (behindF p picks).1 = S at *
    rw [hr, over_eq hv]
    cases hm : mayF p S t
    · rw [move_no (.inr hm)]
      simp
    · rw [move_eq hr hm]
      obtain ⟨h0', h1⟩ := mayF_nat.1 hm
      have hb := steps_back hv h1
      have hv' := goes_valid hv h1
      have hr' := (valid_iff hv'.len).2 hv'
      have hpc := (goes_pc hv.ok hv.len h1).1
      have hlt : decide (S.getD (t.toNat * 9) 0 < (goesF p S t.toNat).getD (t.toNat * 9) 0) = true := decide_eq_true (UInt8.lt_iff_toNat_lt.2 hpc)
      have hne : ((((movesF p S).length : Nat) : Int) == (0 : Int)) = false := by
        have : t ∈ movesF p S := by rw [moves_eq hr]; exact able_mem.2 hm
        cases hq : movesF p S with
        | nil => rw [hq] at this; cases this
        | cons x l => simp; omega
      have hbd := decide_eq_true hb
      change decide (((((goesF p S t.toNat).take (t.toNat * 9) ++ ((S.drop (t.toNat * 9)).take 9) ++ (goesF p S t.toNat).drop (t.toNat * 9 + ((S.drop (t.toNat * 9)).take 9).length)).set (36 + ((p.threads.l.getD t.toNat default).l.getD (S.getD (t.toNat * 9) 0).toNat default).loc.toNat) (S.getD (36 + ((p.threads.l.getD t.toNat default).l.getD (S.getD (t.toNat * 9) 0).toNat default).loc.toNat) 0)) = S)) = true at hbd
      show (((((decide _ && aRightF p (goesF p S t.toNat)) && decide (S.getD (t.toNat * 9) 0 < (goesF p S t.toNat).getD (t.toNat * 9) 0)) && (!(stillF (insAt p t.toNat (pcOf S t.toNat).toNat)) || decide (((goesF p S t.toNat).drop 36).take 6 = (S.drop 36).take 6))) && (!((((movesF p S).length : Nat) : Int) == (0 : Int)))) && true) = true
      rw [hbd, hr', hlt, hne]
      cases hs : stillF (insAt p t.toNat (pcOf S t.toNat).toNat)
      · rfl
      · rw [decide_eq_true (steps_local hv h1 ((still_iff _).1 hs))]; rfl

end Go.Proofs.YtpnaooajmdildaaGreatDoor
