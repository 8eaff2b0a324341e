/- A closed run: the step spread of awake(). No condition. · A closed run: lower.Lower with options out of range. No condition. -/
import Derived.Test.YtbflihggpacblaaGreatDoorCkV
namespace Go.Proofs.YtbflihggpacblaaGreatDoor
open Go Go.Ev
set_option linter.unusedSectionVars false
variable [Sig]
theorem ck_spread : ckR V_spread N_spread L_spread ((fnsF Tryz.prog orc3 3000).call 21 A_spread (mkH N_lower (roL L_lower))) = true := by kernel_rfl
end Go.Proofs.YtbflihggpacblaaGreatDoor
namespace Go.Proofs.YtbflihggpacblaaGreatDoor
open Go Go.Ev
set_option linter.unusedSectionVars false
variable [Sig]
theorem ck_bad : ckR V_bad N_bad L_bad ((fnsF Tryz.prog orc3 3000).call 6 A_bad (mkH N_of (roL L_of))) = true := by kernel_rfl
end Go.Proofs.YtbflihggpacblaaGreatDoor
