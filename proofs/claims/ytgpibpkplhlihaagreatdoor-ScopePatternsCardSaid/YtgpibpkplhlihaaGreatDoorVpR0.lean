/- Closed runs: calls come to their templates. No condition. -/
import Derived.Test.YtgpibpkplhlihaaGreatDoorVpT
namespace Go.Proofs.YtgpibpkplhlihaaGreatDoor
open Go Go.Ev
set_option linter.unusedSectionVars false
set_option linter.unusedVariables false
theorem lexRun0 : okJ 44 (atV lexV 0) = true := by kernel_rfl
theorem bindingRun0 : okJ 162 (atV bindingV 0) = true := by kernel_rfl
theorem isRun0 : okJ 41 (atV isV 0) = true := by kernel_rfl
theorem defaultedRun0 : okJ 206 (atV defaultedV 0) = true := by kernel_rfl
end Go.Proofs.YtgpibpkplhlihaaGreatDoor
