/- Closed runs: calls come to their templates. No condition. -/
import Derived.Test.YtgpibpkplhlihaaGreatDoorVpT
namespace Go.Proofs.YtgpibpkplhlihaaGreatDoor
open Go Go.Ev
set_option linter.unusedSectionVars false
set_option linter.unusedVariables false
theorem lexRun5 : okJ 44 (atV lexV 5) = true := by kernel_rfl
theorem bindingRun5 : okJ 162 (atV bindingV 5) = true := by kernel_rfl
theorem isRun5 : okJ 41 (atV isV 5) = true := by kernel_rfl
theorem defaultedRun5 : okJ 206 (atV defaultedV 5) = true := by kernel_rfl
end Go.Proofs.YtgpibpkplhlihaaGreatDoor
