/- Closed runs: calls come to their templates. No condition. -/
import Derived.Test.YtgpibpkplhlihaaGreatDoorVpT
namespace Go.Proofs.YtgpibpkplhlihaaGreatDoor
open Go Go.Ev
set_option linter.unusedSectionVars false
set_option linter.unusedVariables false
theorem lexRun14 : okJ 44 (atV lexV 14) = true := by kernel_rfl
theorem bindingRun14 : okJ 162 (atV bindingV 14) = true := by kernel_rfl
theorem isRun14 : okJ 41 (atV isV 14) = true := by kernel_rfl
theorem defaultedRun14 : okJ 206 (atV defaultedV 14) = true := by kernel_rfl
end Go.Proofs.YtgpibpkplhlihaaGreatDoor
