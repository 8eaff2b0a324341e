/- Closed runs of the law ScopePatterns: for each number of items. No condition. -/
import Derived.Test.YtgpibpkplhlihaaGreatDoorRpPt
namespace Go.Proofs.YtgpibpkplhlihaaGreatDoor
open Go Go.Ev
set_option linter.unusedSectionVars false
set_option linter.unusedVariables false
theorem runP0 : runP 0 = true := by kernel_rfl
theorem runP1 : runP 1 = true := by kernel_rfl
theorem runP2 : runP 2 = true := by kernel_rfl
theorem runP3 : runP 3 = true := by kernel_rfl
end Go.Proofs.YtgpibpkplhlihaaGreatDoor
