/- Closed runs: calls come to their templates. No condition. -/
import Derived.Test.YtgpibpkplhlihaaGreatDoorVqT
namespace Go.Proofs.YtgpibpkplhlihaaGreatDoor
open Go Go.Ev
set_option linter.unusedSectionVars false
set_option linter.unusedVariables false
theorem lexRun12 : okJ 44 (atV lexV 12) = true := by kernel_rfl
theorem plainRun12 : okJ 70 (atV plainV 12) = true := by kernel_rfl
theorem statementRun12 : okJ 79 (atV statementV 12) = true := by kernel_rfl
theorem blockRun12 : okJ 115 (atV blockV 12) = true := by kernel_rfl
end Go.Proofs.YtgpibpkplhlihaaGreatDoor
