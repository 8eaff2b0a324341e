/- Closed runs: calls come to their templates. No condition. -/
import Derived.Test.YtgpibpkplhlihaaGreatDoorVpT
namespace Go.Proofs.YtgpibpkplhlihaaGreatDoor
open Go Go.Ev
set_option linter.unusedSectionVars false
set_option linter.unusedVariables false
theorem lexRun11 : okJ 44 (atV lexV 11) = true := by kernel_rfl
theorem bindingRun11 : okJ 162 (atV bindingV 11) = true := by kernel_rfl
theorem isRun11 : okJ 41 (atV isV 11) = true := by kernel_rfl
theorem defaultedRun11 : okJ 206 (atV defaultedV 11) = true := by kernel_rfl
end Go.Proofs.YtgpibpkplhlihaaGreatDoor
