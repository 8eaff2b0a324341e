/- Closed runs: calls come to their templates. No condition. -/
import Derived.Test.YtgpibpkplhlihaaGreatDoorVpT
namespace Go.Proofs.YtgpibpkplhlihaaGreatDoor
open Go Go.Ev
set_option linter.unusedSectionVars false
set_option linter.unusedVariables false
theorem lexRun7 : okJ 44 (atV lexV 7) = true := by kernel_rfl
theorem bindingRun7 : okJ 162 (atV bindingV 7) = true := by kernel_rfl
theorem isRun7 : okJ 41 (atV isV 7) = true := by kernel_rfl
theorem defaultedRun7 : okJ 206 (atV defaultedV 7) = true := by kernel_rfl
end Go.Proofs.YtgpibpkplhlihaaGreatDoor
