/- A closed fact of the card: what the function reaches. No condition. -/
import Derived.Test.YtbflihggpacblaaGreatDoorLowerRefusesFC
import Derived.Test.YtbflihggpacblaaGreatDoorTies
import Derived.Test.YtbflihggpacblaaGreatDoorCards
import Derived.WalkKit
import Derived.ProofKit
import Derived.OpenShut
import Derived.LaidHandle
import Derived.LaidMore
import Derived.Lay
import Derived.Stop.Joined
import Derived.SevenTiedAt
import Derived.WideKeyArgs
namespace Go.Proofs.YtbflihggpacblaaGreatDoor
open Go Go.ChangeShapes Go.WideShapes Go.ChangeAt Go.RowKit
set_option linter.unusedVariables false

set_option maxRecDepth 100000 in
theorem fact12 : ((Rows.lowerRefusesRow.named == Tryz.prog.varsNamed 3)) = true := by
  unfold Program.varsNamed
  rw [clo3]
  kernel_rfl
end Go.Proofs.YtbflihggpacblaaGreatDoor
