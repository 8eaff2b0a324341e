/- The listed variables are what the program's own text lays: one closed fact of the tie. No condition. -/
import Derived.Test.YtbflihggpacblaaGreatDoorTieL
namespace Go.Proofs.YtbflihggpacblaaGreatDoor
open Go
theorem tieG : ∀ os tape, varsDone Tryz.prog 400 (varsId Tryz.prog) os tape = true := fun _ _ => by kernel_rfl
end Go.Proofs.YtbflihggpacblaaGreatDoor
