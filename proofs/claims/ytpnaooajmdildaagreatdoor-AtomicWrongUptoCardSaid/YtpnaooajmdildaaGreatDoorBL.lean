/- Walks, printed by a program of this repository (wip/tool). -/
import Derived.Test.YtpnaooajmdildaaGreatDoorBe
import Derived.Test.YtpnaooajmdildaaGreatDoorSL
namespace Go.Proofs.YtpnaooajmdildaaGreatDoor
open Go.RowKit
open Go
attribute [local irreducible] wpList wpQuiet wpX Code.wp
set_option maxHeartbeats 1000000
set_option maxRecDepth 100000
set_option linter.unusedSimpArgs false
set_option linter.unusedVariables false


theorem behind_inv (p : Prog) (picks : List UInt8) : (rightF p = 0 → (behindF p picks).2 = true ∧ Valid p (behindF p picks).1) ∧ (rightF p ≠ 0 → (behindF p picks).2 = false) := by
  unfold behindF
  refine loopL_inv (fun s : Int × List UInt8 => (rightF p = 0 → s.1 = 0 ∧ Valid p s.2) ∧ (rightF p ≠ 0 → s.1 ≠ 0)) (fun r : List UInt8 × Bool => (rightF p = 0 → r.2 = true ∧ Valid p r.1) ∧ (rightF p ≠ 0 → r.2 = false)) ?_ ?_ _ _ ?_
  · rintro x r ⟨a, S⟩ ⟨h1, h2⟩ hr
    simp only at h1 h2
    simp only [behindF_a, behindF_v47]
    cases hc : (a != (0 : Int)) || ((((movesF p S).length : Nat) : Int) == (0 : Int))
    · simp only [cond_false]
      simp only [Bool.or_eq_false_iff, bne_eq_false_iff_eq, beq_eq_false_iff_ne] at hc
      refine hr _ ⟨fun h => ?_, fun h => absurd hc.1 (h2 h)⟩
      have hv := (h1 h).2
      have hlt : x.toNat % (movesF p S).length < (movesF p S).length := Nat.mod_lt _ (by omega)
      have hm := (moves_at hv.len hlt).2
      have e := move_eq ((valid_iff hv.len).2 hv) hm
      rw [e]
      exact ⟨rfl, goes_valid hv (mayF_nat.1 hm).2⟩
    · simp only [cond_true]
      refine ⟨fun h => ⟨?_, (h1 h).2⟩, fun h => ?_⟩
      · rw [(h1 h).1]; rfl
      · simpa using h2 h
  · rintro ⟨a, S⟩ ⟨h1, h2⟩
    simp only at h1 h2
    simp only [behindF_ak]
    exact ⟨fun h => ⟨by rw [(h1 h).1]; rfl, (h1 h).2⟩, fun h => by simpa using h2 h⟩
  · exact ⟨fun h => start_valid h, fun h => by rw [start_no h]; decide⟩
theorem behind_yes {p : Prog} {picks : List UInt8} (h : (behindF p picks).2 = true) : Valid p (behindF p picks).1 := by
  by_cases hr : rightF p = 0
  · exact ((behind_inv p picks).1 hr).2
  · rw [(behind_inv p picks).2 hr] at h; cases h
theorem behind_not {p : Prog} {picks : List UInt8} (h : (behindF p picks).2 = false) : rightF p ≠ 0 := fun hr => by
  rw [((behind_inv p picks).1 hr).1] at h; cases h

end Go.Proofs.YtpnaooajmdildaaGreatDoor
