/- Closed runs: calls come to their templates. No condition. -/
import Derived.Test.YtgpibpkplhlihaaGreatDoorVqT
namespace Go.Proofs.YtgpibpkplhlihaaGreatDoor
open Go Go.Ev
set_option linter.unusedSectionVars false
set_option linter.unusedVariables false
theorem lexRun10 : okJ 44 (atV lexV 10) = true := by kernel_rfl
theorem plainRun10 : okJ 70 (atV plainV 10) = true := by kernel_rfl
theorem statementRun10 : okJ 79 (atV statementV 10) = true := by kernel_rfl
theorem blockRun10 : okJ 115 (atV blockV 10) = true := by kernel_rfl
end Go.Proofs.YtgpibpkplhlihaaGreatDoor
