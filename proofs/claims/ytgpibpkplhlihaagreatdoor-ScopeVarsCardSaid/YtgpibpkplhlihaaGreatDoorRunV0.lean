/- Closed runs of the law ScopeVars: for each number of items. No condition. -/
import Derived.Test.YtgpibpkplhlihaaGreatDoorRpV
namespace Go.Proofs.YtgpibpkplhlihaaGreatDoor
open Go Go.Ev
set_option linter.unusedSectionVars false
set_option linter.unusedVariables false
theorem runV0 : runV 0 = true := by kernel_rfl
theorem runV1 : runV 1 = true := by kernel_rfl
theorem runV2 : runV 2 = true := by kernel_rfl
theorem runV3 : runV 3 = true := by kernel_rfl
end Go.Proofs.YtgpibpkplhlihaaGreatDoor
