/- Closed runs: calls come to their templates. No condition. -/
import Derived.Test.YtgpibpkplhlihaaGreatDoorVqT
namespace Go.Proofs.YtgpibpkplhlihaaGreatDoor
open Go Go.Ev
set_option linter.unusedSectionVars false
set_option linter.unusedVariables false
theorem lexRun17 : okJ 44 (atV lexV 17) = true := by kernel_rfl
theorem plainRun17 : okJ 70 (atV plainV 17) = true := by kernel_rfl
theorem statementRun17 : okJ 79 (atV statementV 17) = true := by kernel_rfl
theorem blockRun17 : okJ 115 (atV blockV 17) = true := by kernel_rfl
end Go.Proofs.YtgpibpkplhlihaaGreatDoor
