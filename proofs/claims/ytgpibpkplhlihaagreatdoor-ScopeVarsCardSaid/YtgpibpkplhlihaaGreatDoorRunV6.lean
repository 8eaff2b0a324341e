/- Closed runs of the law ScopeVars: for each number of items. No condition. -/
import Derived.Test.YtgpibpkplhlihaaGreatDoorRpV
namespace Go.Proofs.YtgpibpkplhlihaaGreatDoor
open Go Go.Ev
set_option linter.unusedSectionVars false
set_option linter.unusedVariables false
theorem runV6 : runV 6 = true := by kernel_rfl
theorem runV7 : runV 7 = true := by kernel_rfl
end Go.Proofs.YtgpibpkplhlihaaGreatDoor
