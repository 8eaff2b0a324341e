/- Closed runs: calls come to their templates. No condition. -/
import Derived.Test.YtgpibpkplhlihaaGreatDoorVpT
namespace Go.Proofs.YtgpibpkplhlihaaGreatDoor
open Go Go.Ev
set_option linter.unusedSectionVars false
set_option linter.unusedVariables false
theorem lexRun13 : okJ 44 (atV lexV 13) = true := by kernel_rfl
theorem bindingRun13 : okJ 162 (atV bindingV 13) = true := by kernel_rfl
theorem isRun13 : okJ 41 (atV isV 13) = true := by kernel_rfl
theorem defaultedRun13 : okJ 206 (atV defaultedV 13) = true := by kernel_rfl
end Go.Proofs.YtgpibpkplhlihaaGreatDoor
