/- A closed fact of the card: what the function reaches. No condition. -/
import Derived.Test.YtbflihggpacblaaGreatDoorTies
import Derived.Test.YtbflihggpacblaaGreatDoorCards
import Derived.WalkKit
import Derived.ProofKit
import Derived.OpenShut
import Derived.LaidHandle
import Derived.LaidMore
import Derived.Lay
import Derived.Stop.Joined
import Derived.SevenTiedAt
import Derived.WideKeyArgs
namespace Go.Proofs.YtbflihggpacblaaGreatDoor
open Go Go.ChangeShapes Go.WideShapes Go.ChangeAt Go.RowKit
set_option linter.unusedVariables false

theorem fact9 : ((Rows.lowerRefusesRow.inPlace == Tryz.prog.inPlace 3)) = true := by kernel_rfl
end Go.Proofs.YtbflihggpacblaaGreatDoor
