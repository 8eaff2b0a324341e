/- Closed runs: calls come to their templates. No condition. -/
import Derived.Test.YtgpibpkplhlihaaGreatDoorVpT
namespace Go.Proofs.YtgpibpkplhlihaaGreatDoor
open Go Go.Ev
set_option linter.unusedSectionVars false
set_option linter.unusedVariables false
theorem lexRun8 : okJ 44 (atV lexV 8) = true := by kernel_rfl
theorem bindingRun8 : okJ 162 (atV bindingV 8) = true := by kernel_rfl
theorem isRun8 : okJ 41 (atV isV 8) = true := by kernel_rfl
theorem defaultedRun8 : okJ 206 (atV defaultedV 8) = true := by kernel_rfl
end Go.Proofs.YtgpibpkplhlihaaGreatDoor
