/- A closed run: the step lower of awake(). No condition. -/
import Derived.Test.YtbflihggpacblaaGreatDoorCkV
namespace Go.Proofs.YtbflihggpacblaaGreatDoor
open Go Go.Ev
set_option linter.unusedSectionVars false
variable [Sig]
theorem ck_lower : ckR V_lower N_lower L_lower ((fnsF Tryz.prog orc3 3000).call 6 A_lower (mkH N_of (roL L_of))) = true := by kernel_rfl
end Go.Proofs.YtbflihggpacblaaGreatDoor
