/- The listed variables are what the program's own text lays: one closed fact of the tie. No condition. -/
import Derived.Test.YtbflihggpacblaaGreatDoorTieP
namespace Go.Proofs.YtbflihggpacblaaGreatDoor
open Go
theorem tieIb : ∀ os tape, laidRowsB Tryz.prog (varsWorld Tryz.prog 400 (varsId Tryz.prog) os tape).memory placesRead = true := fun _ _ => by kernel_rfl
end Go.Proofs.YtbflihggpacblaaGreatDoor
