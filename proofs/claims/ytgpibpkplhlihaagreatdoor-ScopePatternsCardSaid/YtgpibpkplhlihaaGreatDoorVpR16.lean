/- Closed runs: calls come to their templates. No condition. -/
import Derived.Test.YtgpibpkplhlihaaGreatDoorVpT
namespace Go.Proofs.YtgpibpkplhlihaaGreatDoor
open Go Go.Ev
set_option linter.unusedSectionVars false
set_option linter.unusedVariables false
theorem lexRun16 : okJ 44 (atV lexV 16) = true := by kernel_rfl
theorem bindingRun16 : okJ 162 (atV bindingV 16) = true := by kernel_rfl
theorem isRun16 : okJ 41 (atV isV 16) = true := by kernel_rfl
theorem defaultedRun16 : okJ 206 (atV defaultedV 16) = true := by kernel_rfl
end Go.Proofs.YtgpibpkplhlihaaGreatDoor
