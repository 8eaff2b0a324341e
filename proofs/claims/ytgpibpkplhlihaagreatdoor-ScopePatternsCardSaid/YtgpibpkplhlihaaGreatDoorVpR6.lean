/- Closed runs: calls come to their templates. No condition. -/
import Derived.Test.YtgpibpkplhlihaaGreatDoorVpT
namespace Go.Proofs.YtgpibpkplhlihaaGreatDoor
open Go Go.Ev
set_option linter.unusedSectionVars false
set_option linter.unusedVariables false
theorem lexRun6 : okJ 44 (atV lexV 6) = true := by kernel_rfl
theorem bindingRun6 : okJ 162 (atV bindingV 6) = true := by kernel_rfl
theorem isRun6 : okJ 41 (atV isV 6) = true := by kernel_rfl
theorem defaultedRun6 : okJ 206 (atV defaultedV 6) = true := by kernel_rfl
end Go.Proofs.YtgpibpkplhlihaaGreatDoor
