/- Closed runs: calls come to their templates. No condition. -/
import Derived.Test.YtgpibpkplhlihaaGreatDoorVqT
namespace Go.Proofs.YtgpibpkplhlihaaGreatDoor
open Go Go.Ev
set_option linter.unusedSectionVars false
set_option linter.unusedVariables false
theorem lexRun14 : okJ 44 (atV lexV 14) = true := by kernel_rfl
theorem plainRun14 : okJ 70 (atV plainV 14) = true := by kernel_rfl
theorem statementRun14 : okJ 79 (atV statementV 14) = true := by kernel_rfl
theorem blockRun14 : okJ 115 (atV blockV 14) = true := by kernel_rfl
end Go.Proofs.YtgpibpkplhlihaaGreatDoor
