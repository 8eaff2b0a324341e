/- Closed runs: calls come to their templates. No condition. -/
import Derived.Test.YtgpibpkplhlihaaGreatDoorVqT
namespace Go.Proofs.YtgpibpkplhlihaaGreatDoor
open Go Go.Ev
set_option linter.unusedSectionVars false
set_option linter.unusedVariables false
theorem lexRun9 : okJ 44 (atV lexV 9) = true := by kernel_rfl
theorem plainRun9 : okJ 70 (atV plainV 9) = true := by kernel_rfl
theorem statementRun9 : okJ 79 (atV statementV 9) = true := by kernel_rfl
theorem blockRun9 : okJ 115 (atV blockV 9) = true := by kernel_rfl
end Go.Proofs.YtgpibpkplhlihaaGreatDoor
