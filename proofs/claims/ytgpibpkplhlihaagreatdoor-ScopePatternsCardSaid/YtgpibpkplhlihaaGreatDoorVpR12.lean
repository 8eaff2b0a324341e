/- Closed runs: calls come to their templates. No condition. -/
import Derived.Test.YtgpibpkplhlihaaGreatDoorVpT
namespace Go.Proofs.YtgpibpkplhlihaaGreatDoor
open Go Go.Ev
set_option linter.unusedSectionVars false
set_option linter.unusedVariables false
theorem lexRun12 : okJ 44 (atV lexV 12) = true := by kernel_rfl
theorem bindingRun12 : okJ 162 (atV bindingV 12) = true := by kernel_rfl
theorem isRun12 : okJ 41 (atV isV 12) = true := by kernel_rfl
theorem defaultedRun12 : okJ 206 (atV defaultedV 12) = true := by kernel_rfl
end Go.Proofs.YtgpibpkplhlihaaGreatDoor
