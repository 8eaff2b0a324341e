/- Closed runs: calls come to their templates. No condition. -/
import Derived.Test.YtgpibpkplhlihaaGreatDoorVpT
namespace Go.Proofs.YtgpibpkplhlihaaGreatDoor
open Go Go.Ev
set_option linter.unusedSectionVars false
set_option linter.unusedVariables false
theorem lexRun19 : okJ 44 (atV lexV 19) = true := by kernel_rfl
theorem bindingRun19 : okJ 162 (atV bindingV 19) = true := by kernel_rfl
theorem isRun19 : okJ 41 (atV isV 19) = true := by kernel_rfl
theorem defaultedRun19 : okJ 206 (atV defaultedV 19) = true := by kernel_rfl
end Go.Proofs.YtgpibpkplhlihaaGreatDoor
