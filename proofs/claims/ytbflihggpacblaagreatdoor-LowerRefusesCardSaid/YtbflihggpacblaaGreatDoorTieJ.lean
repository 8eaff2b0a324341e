/- The listed variables are what the program's own text lays: one closed fact of the tie. No condition. -/
import Derived.Test.YtbflihggpacblaaGreatDoorTieL
namespace Go.Proofs.YtbflihggpacblaaGreatDoor
open Go
theorem tieJ : ∀ os tape, (lay.filter fun x => x.2.handleName?.isSome).all (handleAtB Tryz.prog (varsWorld Tryz.prog 400 (varsId Tryz.prog) os tape).memory) = true := fun _ _ => by kernel_rfl
end Go.Proofs.YtbflihggpacblaaGreatDoor
