/- Closed runs of the law ScopePatterns: for each number of items. No condition. -/
import Derived.Test.YtgpibpkplhlihaaGreatDoorRpPt
namespace Go.Proofs.YtgpibpkplhlihaaGreatDoor
open Go Go.Ev
set_option linter.unusedSectionVars false
set_option linter.unusedVariables false
theorem runP6 : runP 6 = true := by kernel_rfl
theorem runP7 : runP 7 = true := by kernel_rfl
end Go.Proofs.YtgpibpkplhlihaaGreatDoor
