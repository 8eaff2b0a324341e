/- Closed runs: calls come to their templates. No condition. -/
import Derived.Test.YtgpibpkplhlihaaGreatDoorVpT
namespace Go.Proofs.YtgpibpkplhlihaaGreatDoor
open Go Go.Ev
set_option linter.unusedSectionVars false
set_option linter.unusedVariables false
theorem lexRun10 : okJ 44 (atV lexV 10) = true := by kernel_rfl
theorem bindingRun10 : okJ 162 (atV bindingV 10) = true := by kernel_rfl
theorem isRun10 : okJ 41 (atV isV 10) = true := by kernel_rfl
theorem defaultedRun10 : okJ 206 (atV defaultedV 10) = true := by kernel_rfl
end Go.Proofs.YtgpibpkplhlihaaGreatDoor
