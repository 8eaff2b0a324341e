/- Closed runs: calls come to their templates. No condition. -/
import Derived.Test.YtgpibpkplhlihaaGreatDoorVqT
namespace Go.Proofs.YtgpibpkplhlihaaGreatDoor
open Go Go.Ev
set_option linter.unusedSectionVars false
set_option linter.unusedVariables false
theorem lexRun6 : okJ 44 (atV lexV 6) = true := by kernel_rfl
theorem plainRun6 : okJ 70 (atV plainV 6) = true := by kernel_rfl
theorem statementRun6 : okJ 79 (atV statementV 6) = true := by kernel_rfl
theorem blockRun6 : okJ 115 (atV blockV 6) = true := by kernel_rfl
end Go.Proofs.YtgpibpkplhlihaaGreatDoor
