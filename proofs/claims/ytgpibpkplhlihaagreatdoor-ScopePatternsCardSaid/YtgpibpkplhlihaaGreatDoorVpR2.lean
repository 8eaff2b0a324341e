/- Closed runs: calls come to their templates. No condition. -/
import Derived.Test.YtgpibpkplhlihaaGreatDoorVpT
namespace Go.Proofs.YtgpibpkplhlihaaGreatDoor
open Go Go.Ev
set_option linter.unusedSectionVars false
set_option linter.unusedVariables false
theorem lexRun2 : okJ 44 (atV lexV 2) = true := by kernel_rfl
theorem bindingRun2 : okJ 162 (atV bindingV 2) = true := by kernel_rfl
theorem isRun2 : okJ 41 (atV isV 2) = true := by kernel_rfl
theorem defaultedRun2 : okJ 206 (atV defaultedV 2) = true := by kernel_rfl
end Go.Proofs.YtgpibpkplhlihaaGreatDoor
