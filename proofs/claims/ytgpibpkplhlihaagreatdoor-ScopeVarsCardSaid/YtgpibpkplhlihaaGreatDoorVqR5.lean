/- Closed runs: calls come to their templates. No condition. -/
import Derived.Test.YtgpibpkplhlihaaGreatDoorVqT
namespace Go.Proofs.YtgpibpkplhlihaaGreatDoor
open Go Go.Ev
set_option linter.unusedSectionVars false
set_option linter.unusedVariables false
theorem lexRun5 : okJ 44 (atV lexV 5) = true := by kernel_rfl
theorem plainRun5 : okJ 70 (atV plainV 5) = true := by kernel_rfl
theorem statementRun5 : okJ 79 (atV statementV 5) = true := by kernel_rfl
theorem blockRun5 : okJ 115 (atV blockV 5) = true := by kernel_rfl
end Go.Proofs.YtgpibpkplhlihaaGreatDoor
