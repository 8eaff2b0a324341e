/- Closed runs: calls come to their templates. No condition. -/
import Derived.Test.YtgpibpkplhlihaaGreatDoorVqT
namespace Go.Proofs.YtgpibpkplhlihaaGreatDoor
open Go Go.Ev
set_option linter.unusedSectionVars false
set_option linter.unusedVariables false
theorem lexRun4 : okJ 44 (atV lexV 4) = true := by kernel_rfl
theorem plainRun4 : okJ 70 (atV plainV 4) = true := by kernel_rfl
theorem statementRun4 : okJ 79 (atV statementV 4) = true := by kernel_rfl
theorem blockRun4 : okJ 115 (atV blockV 4) = true := by kernel_rfl
end Go.Proofs.YtgpibpkplhlihaaGreatDoor
