/- The listed variables are what the program's own text lays: one closed fact of the tie. No condition. -/
import Derived.Test.YtbflihggpacblaaGreatDoorTieL
namespace Go.Proofs.YtbflihggpacblaaGreatDoor
open Go
theorem tieH : ∀ os tape, (DataW.laidRun Tryz.prog (varsWorld Tryz.prog 400 (varsId Tryz.prog) os tape).memory 8 ((lay.filter fun x => x.2.handleName?.isNone).map (·.1))).map (·.1) = some (lay.filter fun x => x.2.handleName?.isNone) := fun _ _ => by kernel_rfl
end Go.Proofs.YtbflihggpacblaaGreatDoor
