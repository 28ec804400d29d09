/- Walks, printed by a program of this repository (wip/tool). -/
import Derived.Test.YtpnaooajmdildaaGreatDoorLA
import Derived.Test.YtpnaooajmdildaaGreatDoorSL
namespace Go.Proofs.YtpnaooajmdildaaGreatDoor
open Go.RowKit
open Go
attribute [local irreducible] wpList wpQuiet wpX Code.wp
set_option maxHeartbeats 1000000
set_option maxRecDepth 100000
set_option linter.unusedSimpArgs false
set_option linter.unusedVariables false

theorem still_iff (i : Ins) : stillF i = true ↔ stillP i := by
  unfold stillF stillP
  simp [or_assoc]

end Go.Proofs.YtpnaooajmdildaaGreatDoor
