/- Closed runs: calls come to their templates. No condition. -/
import Derived.Test.YtgpibpkplhlihaaGreatDoorVpT
namespace Go.Proofs.YtgpibpkplhlihaaGreatDoor
open Go Go.Ev
set_option linter.unusedSectionVars false
set_option linter.unusedVariables false
theorem lexRun4 : okJ 44 (atV lexV 4) = true := by kernel_rfl
theorem bindingRun4 : okJ 162 (atV bindingV 4) = true := by kernel_rfl
theorem isRun4 : okJ 41 (atV isV 4) = true := by kernel_rfl
theorem defaultedRun4 : okJ 206 (atV defaultedV 4) = true := by kernel_rfl
end Go.Proofs.YtgpibpkplhlihaaGreatDoor
