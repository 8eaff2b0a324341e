/- Closed runs: calls come to their templates. No condition. -/
import Derived.Test.YtgpibpkplhlihaaGreatDoorVpT
namespace Go.Proofs.YtgpibpkplhlihaaGreatDoor
open Go Go.Ev
set_option linter.unusedSectionVars false
set_option linter.unusedVariables false
theorem lexRun9 : okJ 44 (atV lexV 9) = true := by kernel_rfl
theorem bindingRun9 : okJ 162 (atV bindingV 9) = true := by kernel_rfl
theorem isRun9 : okJ 41 (atV isV 9) = true := by kernel_rfl
theorem defaultedRun9 : okJ 206 (atV defaultedV 9) = true := by kernel_rfl
end Go.Proofs.YtgpibpkplhlihaaGreatDoor
