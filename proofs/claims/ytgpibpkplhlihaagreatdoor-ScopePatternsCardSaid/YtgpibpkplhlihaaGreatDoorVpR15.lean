/- Closed runs: calls come to their templates. No condition. -/
import Derived.Test.YtgpibpkplhlihaaGreatDoorVpT
namespace Go.Proofs.YtgpibpkplhlihaaGreatDoor
open Go Go.Ev
set_option linter.unusedSectionVars false
set_option linter.unusedVariables false
theorem lexRun15 : okJ 44 (atV lexV 15) = true := by kernel_rfl
theorem bindingRun15 : okJ 162 (atV bindingV 15) = true := by kernel_rfl
theorem isRun15 : okJ 41 (atV isV 15) = true := by kernel_rfl
theorem defaultedRun15 : okJ 206 (atV defaultedV 15) = true := by kernel_rfl
end Go.Proofs.YtgpibpkplhlihaaGreatDoor
