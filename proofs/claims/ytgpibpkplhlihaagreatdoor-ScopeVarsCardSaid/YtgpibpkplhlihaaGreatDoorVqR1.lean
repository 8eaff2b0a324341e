/- Closed runs: calls come to their templates. No condition. -/
import Derived.Test.YtgpibpkplhlihaaGreatDoorVqT
namespace Go.Proofs.YtgpibpkplhlihaaGreatDoor
open Go Go.Ev
set_option linter.unusedSectionVars false
set_option linter.unusedVariables false
theorem lexRun1 : okJ 44 (atV lexV 1) = true := by kernel_rfl
theorem plainRun1 : okJ 70 (atV plainV 1) = true := by kernel_rfl
theorem statementRun1 : okJ 79 (atV statementV 1) = true := by kernel_rfl
theorem blockRun1 : okJ 115 (atV blockV 1) = true := by kernel_rfl
end Go.Proofs.YtgpibpkplhlihaaGreatDoor
