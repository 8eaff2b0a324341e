/- Closed runs: calls come to their templates. No condition. -/
import Derived.Test.YtgpibpkplhlihaaGreatDoorVqT
namespace Go.Proofs.YtgpibpkplhlihaaGreatDoor
open Go Go.Ev
set_option linter.unusedSectionVars false
set_option linter.unusedVariables false
theorem lexRun16 : okJ 44 (atV lexV 16) = true := by kernel_rfl
theorem plainRun16 : okJ 70 (atV plainV 16) = true := by kernel_rfl
theorem statementRun16 : okJ 79 (atV statementV 16) = true := by kernel_rfl
theorem blockRun16 : okJ 115 (atV blockV 16) = true := by kernel_rfl
end Go.Proofs.YtgpibpkplhlihaaGreatDoor
