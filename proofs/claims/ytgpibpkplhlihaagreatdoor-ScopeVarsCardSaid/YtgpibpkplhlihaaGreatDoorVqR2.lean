/- Closed runs: calls come to their templates. No condition. -/
import Derived.Test.YtgpibpkplhlihaaGreatDoorVqT
namespace Go.Proofs.YtgpibpkplhlihaaGreatDoor
open Go Go.Ev
set_option linter.unusedSectionVars false
set_option linter.unusedVariables false
theorem lexRun2 : okJ 44 (atV lexV 2) = true := by kernel_rfl
theorem plainRun2 : okJ 70 (atV plainV 2) = true := by kernel_rfl
theorem statementRun2 : okJ 79 (atV statementV 2) = true := by kernel_rfl
theorem blockRun2 : okJ 115 (atV blockV 2) = true := by kernel_rfl
end Go.Proofs.YtgpibpkplhlihaaGreatDoor
