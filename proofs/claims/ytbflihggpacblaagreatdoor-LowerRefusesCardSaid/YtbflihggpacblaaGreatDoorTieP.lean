/- The listed variables are what the program's own text lays: one closed fact of the tie. No condition. -/
import Derived.Test.YtbflihggpacblaaGreatDoorTieL
namespace Go.Proofs.YtbflihggpacblaaGreatDoor
open Go
abbrev placesRead : List MemPlace := MemPlace.row ⟨2, 0, none⟩ 32 ++ (MemPlace.row ⟨0, 0, none⟩ 256 ++ (MemPlace.row ⟨4, 0, none⟩ 1 ++ (MemPlace.row ⟨14, 0, none⟩ 3 ++ MemPlace.row ⟨13, 0, none⟩ 21)))
theorem tieN : decide placesRead.Nodup = true := by kernel_rfl
end Go.Proofs.YtbflihggpacblaaGreatDoor
