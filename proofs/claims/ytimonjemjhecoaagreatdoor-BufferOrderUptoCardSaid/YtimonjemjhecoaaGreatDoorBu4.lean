/- Walks, printed by a program of this repository (wip/tool). -/
import Derived.Test.YtimonjemjhecoaaGreatDoorBu3
namespace Go.Proofs.YtimonjemjhecoaaGreatDoor
open Go.RowKit
open Go
attribute [local irreducible] wpList wpQuiet wpX Code.wp
set_option maxHeartbeats 1000000
set_option maxRecDepth 100000
set_option linter.unusedSimpArgs false
set_option linter.unusedVariables false


theorem bRightF_er (p : Prog) (m : UInt8) (s : List UInt8) : bRightF (er p) m s = bRightF p m s := by
  unfold bRightF
  rw [aRightF_er]
  rfl
theorem bMayF_er (p : Prog) (m : UInt8) (s : List UInt8) (t : Nat) : bMayF (er p) m s t = bMayF p m s t := by
  unfold bMayF bMayF_a
  simp only [er_at]
theorem passesF_er (p : Prog) (m : UInt8) (s : List UInt8) : passesF (er p) m s = passesF p m s := by
  rw [passes_eq, passes_eq, er_len]
  congr 1
  funext t
  unfold passAt
  rw [bMayF_er]
theorem bMovesF_er (p : Prog) (m : UInt8) (s : List UInt8) : bMovesF (er p) m s = bMovesF p m s := by unfold bMovesF; rw [bRightF_er, passesF_er]
theorem aloneF_er (p : Prog) (s : List UInt8) (t : UInt8) : aloneF (er p) s t = aloneF p s t := by unfold aloneF; rw [moveF_er]
theorem bGoesF_er (p : Prog) (m : UInt8) (s : List UInt8) (t : UInt8) : bGoesF (er p) m s t = bGoesF p m s t := by
  unfold bGoesF bGoesF_v38
  simp only [er_at, aloneF_er]
theorem doesF_er (p : Prog) (m : UInt8) (s : List UInt8) (x : Pass) : doesF (er p) m s x = doesF p m s x := by unfold doesF; rw [bGoesF_er]
theorem bMoveF_er (p : Prog) (m : UInt8) (s : List UInt8) (x : Pass) : bMoveF (er p) m s x = bMoveF p m s x := by rw [bMove_eq, bMove_eq, bMovesF_er, doesF_er]
theorem bPlayF_er (p : Prog) (m : UInt8) (l : List UInt8) : bPlayF (er p) m l = bPlayF p m l := by
  have h1 : bPlayF_a (er p) m l = bPlayF_a p m l := by
    funext r a
    unfold bPlayF_a
    simp only [doesF_er, passesF_er]
  unfold bPlayF
  rw [rightF_er, startF_er, h1, passesF_er]

end Go.Proofs.YtimonjemjhecoaaGreatDoor
