/- Closed runs: calls come to their templates. No condition. -/
import Derived.Test.YtgpibpkplhlihaaGreatDoorVqT
namespace Go.Proofs.YtgpibpkplhlihaaGreatDoor
open Go Go.Ev
set_option linter.unusedSectionVars false
set_option linter.unusedVariables false
theorem lexRun3 : okJ 44 (atV lexV 3) = true := by kernel_rfl
theorem plainRun3 : okJ 70 (atV plainV 3) = true := by kernel_rfl
theorem statementRun3 : okJ 79 (atV statementV 3) = true := by kernel_rfl
theorem blockRun3 : okJ 115 (atV blockV 3) = true := by kernel_rfl
end Go.Proofs.YtgpibpkplhlihaaGreatDoor
