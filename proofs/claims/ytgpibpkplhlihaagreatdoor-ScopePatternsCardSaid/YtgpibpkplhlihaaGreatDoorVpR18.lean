/- Closed runs: calls come to their templates. No condition. -/
import Derived.Test.YtgpibpkplhlihaaGreatDoorVpT
namespace Go.Proofs.YtgpibpkplhlihaaGreatDoor
open Go Go.Ev
set_option linter.unusedSectionVars false
set_option linter.unusedVariables false
theorem lexRun18 : okJ 44 (atV lexV 18) = true := by kernel_rfl
theorem bindingRun18 : okJ 162 (atV bindingV 18) = true := by kernel_rfl
theorem isRun18 : okJ 41 (atV isV 18) = true := by kernel_rfl
theorem defaultedRun18 : okJ 206 (atV defaultedV 18) = true := by kernel_rfl
end Go.Proofs.YtgpibpkplhlihaaGreatDoor
