/- Closed runs: calls come to their templates. No condition. -/
import Derived.Test.YtgpibpkplhlihaaGreatDoorVqT
namespace Go.Proofs.YtgpibpkplhlihaaGreatDoor
open Go Go.Ev
set_option linter.unusedSectionVars false
set_option linter.unusedVariables false
theorem lexRun15 : okJ 44 (atV lexV 15) = true := by kernel_rfl
theorem plainRun15 : okJ 70 (atV plainV 15) = true := by kernel_rfl
theorem statementRun15 : okJ 79 (atV statementV 15) = true := by kernel_rfl
theorem blockRun15 : okJ 115 (atV blockV 15) = true := by kernel_rfl
end Go.Proofs.YtgpibpkplhlihaaGreatDoor
