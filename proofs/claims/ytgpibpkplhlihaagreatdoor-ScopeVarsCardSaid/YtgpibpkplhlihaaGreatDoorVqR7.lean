/- Closed runs: calls come to their templates. No condition. -/
import Derived.Test.YtgpibpkplhlihaaGreatDoorVqT
namespace Go.Proofs.YtgpibpkplhlihaaGreatDoor
open Go Go.Ev
set_option linter.unusedSectionVars false
set_option linter.unusedVariables false
theorem lexRun7 : okJ 44 (atV lexV 7) = true := by kernel_rfl
theorem plainRun7 : okJ 70 (atV plainV 7) = true := by kernel_rfl
theorem statementRun7 : okJ 79 (atV statementV 7) = true := by kernel_rfl
theorem blockRun7 : okJ 115 (atV blockV 7) = true := by kernel_rfl
end Go.Proofs.YtgpibpkplhlihaaGreatDoor
