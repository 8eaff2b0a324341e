/- Closed runs: calls come to their templates. No condition. -/
import Derived.Test.YtgpibpkplhlihaaGreatDoorVqT
namespace Go.Proofs.YtgpibpkplhlihaaGreatDoor
open Go Go.Ev
set_option linter.unusedSectionVars false
set_option linter.unusedVariables false
theorem lexRun11 : okJ 44 (atV lexV 11) = true := by kernel_rfl
theorem plainRun11 : okJ 70 (atV plainV 11) = true := by kernel_rfl
theorem statementRun11 : okJ 79 (atV statementV 11) = true := by kernel_rfl
theorem blockRun11 : okJ 115 (atV blockV 11) = true := by kernel_rfl
end Go.Proofs.YtgpibpkplhlihaaGreatDoor
