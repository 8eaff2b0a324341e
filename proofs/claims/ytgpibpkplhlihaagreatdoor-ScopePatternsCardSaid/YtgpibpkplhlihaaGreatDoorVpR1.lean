/- Closed runs: calls come to their templates. No condition. -/
import Derived.Test.YtgpibpkplhlihaaGreatDoorVpT
namespace Go.Proofs.YtgpibpkplhlihaaGreatDoor
open Go Go.Ev
set_option linter.unusedSectionVars false
set_option linter.unusedVariables false
theorem lexRun1 : okJ 44 (atV lexV 1) = true := by kernel_rfl
theorem bindingRun1 : okJ 162 (atV bindingV 1) = true := by kernel_rfl
theorem isRun1 : okJ 41 (atV isV 1) = true := by kernel_rfl
theorem defaultedRun1 : okJ 206 (atV defaultedV 1) = true := by kernel_rfl
end Go.Proofs.YtgpibpkplhlihaaGreatDoor
