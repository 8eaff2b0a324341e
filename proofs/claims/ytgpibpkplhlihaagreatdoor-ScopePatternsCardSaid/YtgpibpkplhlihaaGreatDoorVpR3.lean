/- Closed runs: calls come to their templates. No condition. -/
import Derived.Test.YtgpibpkplhlihaaGreatDoorVpT
namespace Go.Proofs.YtgpibpkplhlihaaGreatDoor
open Go Go.Ev
set_option linter.unusedSectionVars false
set_option linter.unusedVariables false
theorem lexRun3 : okJ 44 (atV lexV 3) = true := by kernel_rfl
theorem bindingRun3 : okJ 162 (atV bindingV 3) = true := by kernel_rfl
theorem isRun3 : okJ 41 (atV isV 3) = true := by kernel_rfl
theorem defaultedRun3 : okJ 206 (atV defaultedV 3) = true := by kernel_rfl
end Go.Proofs.YtgpibpkplhlihaaGreatDoor
