/- Closed runs: calls come to their templates. No condition. -/
import Derived.Test.YtgpibpkplhlihaaGreatDoorVqT
namespace Go.Proofs.YtgpibpkplhlihaaGreatDoor
open Go Go.Ev
set_option linter.unusedSectionVars false
set_option linter.unusedVariables false
theorem lexRun13 : okJ 44 (atV lexV 13) = true := by kernel_rfl
theorem plainRun13 : okJ 70 (atV plainV 13) = true := by kernel_rfl
theorem statementRun13 : okJ 79 (atV statementV 13) = true := by kernel_rfl
theorem blockRun13 : okJ 115 (atV blockV 13) = true := by kernel_rfl
end Go.Proofs.YtgpibpkplhlihaaGreatDoor
