/- Closed runs: calls come to their templates. No condition. -/
import Derived.Test.YtgpibpkplhlihaaGreatDoorVqT
namespace Go.Proofs.YtgpibpkplhlihaaGreatDoor
open Go Go.Ev
set_option linter.unusedSectionVars false
set_option linter.unusedVariables false
theorem lexRun19 : okJ 44 (atV lexV 19) = true := by kernel_rfl
theorem plainRun19 : okJ 70 (atV plainV 19) = true := by kernel_rfl
theorem statementRun19 : okJ 79 (atV statementV 19) = true := by kernel_rfl
theorem blockRun19 : okJ 115 (atV blockV 19) = true := by kernel_rfl
end Go.Proofs.YtgpibpkplhlihaaGreatDoor
