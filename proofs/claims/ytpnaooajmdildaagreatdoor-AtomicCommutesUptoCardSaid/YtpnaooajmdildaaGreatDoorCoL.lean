/- Walks, printed by a program of this repository (wip/tool). -/
import Derived.Test.YtpnaooajmdildaaGreatDoorCo
import Derived.Test.YtpnaooajmdildaaGreatDoorBL
import Derived.Test.YtpnaooajmdildaaGreatDoorStI
namespace Go.Proofs.YtpnaooajmdildaaGreatDoor
open Go.RowKit
open Go
attribute [local irreducible] wpList wpQuiet wpX Code.wp
set_option maxHeartbeats 1000000
set_option maxRecDepth 100000
set_option linter.unusedSimpArgs false
set_option linter.unusedVariables false


theorem comm_moves {p : Prog} {S : List UInt8} (hv : Valid p S) {t u : Int} (ht : mayF p S t = true) (hu : mayF p S u = true) (hne : t ≠ u) :
    moveF p S t = (goesF p S t.toNat, 0) ∧ moveF p (goesF p S t.toNat) u = (goesF p (goesF p S t.toNat) u.toNat, 0) := by
  obtain ⟨t0, t1⟩ := mayF_nat.1 ht
  obtain ⟨u0, u1⟩ := mayF_nat.1 hu
  have hv' := goes_valid hv t1
  have hn : t.toNat ≠ u.toNat := by omega
  exact ⟨move_eq ((valid_iff hv.len).2 hv) ht, move_eq ((valid_iff hv'.len).2 hv') (mayF_nat.2 ⟨u0, goes_may_other hv t1 u1 hn⟩)⟩
theorem comm_true (p : Prog) (picks : List UInt8) (a b : UInt8) : commF p picks a b = true := by
  unfold commF
  cases h0 : (behindF p picks).2
  · have := behind_not h0
    simp [this]
  · have hv := behind_yes h0
    simp only [Bool.not_true, Bool.false_or, Bool.true_or, Bool.and_true, Bool.true_and]
    cases h1 : decide ((((movesF p ((behindF p picks).1)).length : Nat) : Int) < (2 : Int))
    · have h1' := of_decide_eq_false h1
      simp only [cond_false]
      obtain ⟨_, hA⟩ := moves_at hv.len (n := a.toNat % (movesF p (behindF p picks).1).length) (Nat.mod_lt _ (by omega))
      obtain ⟨_, hB⟩ := moves_at hv.len (n := b.toNat % (movesF p (behindF p picks).1).length) (Nat.mod_lt _ (by omega))
      unfold commF_v96 commF_v103 commF_v110 commF_v117
      generalize (movesF p (behindF p picks).1).getD (a.toNat % (movesF p (behindF p picks).1).length) default = t at *
      generalize (movesF p (behindF p picks).1).getD (b.toNat % (movesF p (behindF p picks).1).length) default = u at *
      generalize (behindF p picks).1 = S at *
      cases h2 : (t == u)
      · have hne : t ≠ u := by simpa using h2
        obtain ⟨e1, e2⟩ := comm_moves hv hA hB hne
        obtain ⟨e3, e4⟩ := comm_moves hv hB hA (Ne.symm hne)
        rw [e1, e3]
        simp only [cond_false]
        rw [e2, e4]
        have key : farP (insAt p t.toNat (pcOf S t.toNat).toNat) (insAt p u.toNat (pcOf S u.toNat).toNat) → goesF p (goesF p S t.toNat) u.toNat = goesF p (goesF p S u.toNat) t.toNat :=
          goes_comm hv (mayF_nat.1 hA).2 (mayF_nat.1 hB).2 (by have := (mayF_nat.1 hA).1; have := (mayF_nat.1 hB).1; omega)
        change (((!((((insAt p t.toNat (pcOf S t.toNat).toNat).loc != (insAt p u.toNat (pcOf S u.toNat).toNat).loc || stillF (insAt p t.toNat (pcOf S t.toNat).toNat)) || stillF (insAt p u.toNat (pcOf S u.toNat).toNat)) || ((insAt p t.toNat (pcOf S t.toNat).toNat).op == 1 && (insAt p u.toNat (pcOf S u.toNat).toNat).op == 1))) || decide (goesF p (goesF p S t.toNat) u.toNat = goesF p (goesF p S u.toNat) t.toNat)) && true) = true
        cases hf : ((((insAt p t.toNat (pcOf S t.toNat).toNat).loc != (insAt p u.toNat (pcOf S u.toNat).toNat).loc || stillF (insAt p t.toNat (pcOf S t.toNat).toNat)) || stillF (insAt p u.toNat (pcOf S u.toNat).toNat)) || ((insAt p t.toNat (pcOf S t.toNat).toNat).op == 1 && (insAt p u.toNat (pcOf S u.toNat).toNat).op == 1))
        · rfl
        · simp only [Bool.or_eq_true, Bool.and_eq_true, still_iff, bne_iff_ne, beq_iff_eq, or_assoc] at hf
          simp [key hf]
      · rfl
    · rfl

end Go.Proofs.YtpnaooajmdildaaGreatDoor
