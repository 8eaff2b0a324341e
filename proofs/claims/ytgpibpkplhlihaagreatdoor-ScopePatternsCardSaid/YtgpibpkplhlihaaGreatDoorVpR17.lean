/- Closed runs: calls come to their templates. No condition. -/
import Derived.Test.YtgpibpkplhlihaaGreatDoorVpT
namespace Go.Proofs.YtgpibpkplhlihaaGreatDoor
open Go Go.Ev
set_option linter.unusedSectionVars false
set_option linter.unusedVariables false
theorem lexRun17 : okJ 44 (atV lexV 17) = true := by kernel_rfl
theorem bindingRun17 : okJ 162 (atV bindingV 17) = true := by kernel_rfl
theorem isRun17 : okJ 41 (atV isV 17) = true := by kernel_rfl
theorem defaultedRun17 : okJ 206 (atV defaultedV 17) = true := by kernel_rfl
end Go.Proofs.YtgpibpkplhlihaaGreatDoor
