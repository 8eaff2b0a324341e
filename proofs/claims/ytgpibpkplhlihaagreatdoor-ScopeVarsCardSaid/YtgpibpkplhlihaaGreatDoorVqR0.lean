/- Closed runs: calls come to their templates. No condition. -/
import Derived.Test.YtgpibpkplhlihaaGreatDoorVqT
namespace Go.Proofs.YtgpibpkplhlihaaGreatDoor
open Go Go.Ev
set_option linter.unusedSectionVars false
set_option linter.unusedVariables false
theorem lexRun0 : okJ 44 (atV lexV 0) = true := by kernel_rfl
theorem plainRun0 : okJ 70 (atV plainV 0) = true := by kernel_rfl
theorem statementRun0 : okJ 79 (atV statementV 0) = true := by kernel_rfl
theorem blockRun0 : okJ 115 (atV blockV 0) = true := by kernel_rfl
end Go.Proofs.YtgpibpkplhlihaaGreatDoor
