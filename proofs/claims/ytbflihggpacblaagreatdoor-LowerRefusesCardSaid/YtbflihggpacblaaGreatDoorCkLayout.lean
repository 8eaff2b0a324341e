/- A closed run: the step of of awake(). No condition. · A closed run: the step layout of awake(). No condition. -/
import Derived.Test.YtbflihggpacblaaGreatDoorCkV
namespace Go.Proofs.YtbflihggpacblaaGreatDoor
open Go Go.Ev
set_option linter.unusedSectionVars false
variable [Sig]
theorem ck_of : ckR V_of N_of L_of ((fnsF Tryz.prog orc3 3000).call 9 A_of (hInit tabs)) = true := by kernel_rfl
end Go.Proofs.YtbflihggpacblaaGreatDoor
namespace Go.Proofs.YtbflihggpacblaaGreatDoor
open Go Go.Ev
set_option linter.unusedSectionVars false
variable [Sig]
theorem ck_layout : ckR V_layout N_layout L_layout ((fnsF Tryz.prog orc3 3000).call 20 A_layout (mkH N_spread (roL L_spread))) = true := by kernel_rfl
end Go.Proofs.YtbflihggpacblaaGreatDoor
