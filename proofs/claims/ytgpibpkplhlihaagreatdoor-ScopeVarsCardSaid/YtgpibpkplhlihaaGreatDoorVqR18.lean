/- Closed runs: calls come to their templates. No condition. -/
import Derived.Test.YtgpibpkplhlihaaGreatDoorVqT
namespace Go.Proofs.YtgpibpkplhlihaaGreatDoor
open Go Go.Ev
set_option linter.unusedSectionVars false
set_option linter.unusedVariables false
theorem lexRun18 : okJ 44 (atV lexV 18) = true := by kernel_rfl
theorem plainRun18 : okJ 70 (atV plainV 18) = true := by kernel_rfl
theorem statementRun18 : okJ 79 (atV statementV 18) = true := by kernel_rfl
theorem blockRun18 : okJ 115 (atV blockV 18) = true := by kernel_rfl
end Go.Proofs.YtgpibpkplhlihaaGreatDoor
