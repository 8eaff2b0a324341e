/- Closed runs: calls come to their templates. No condition. -/
import Derived.Test.YtgpibpkplhlihaaGreatDoorVqT
namespace Go.Proofs.YtgpibpkplhlihaaGreatDoor
open Go Go.Ev
set_option linter.unusedSectionVars false
set_option linter.unusedVariables false
theorem lexRun8 : okJ 44 (atV lexV 8) = true := by kernel_rfl
theorem plainRun8 : okJ 70 (atV plainV 8) = true := by kernel_rfl
theorem statementRun8 : okJ 79 (atV statementV 8) = true := by kernel_rfl
theorem blockRun8 : okJ 115 (atV blockV 8) = true := by kernel_rfl
end Go.Proofs.YtgpibpkplhlihaaGreatDoor
