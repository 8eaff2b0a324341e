/- The listed variables are what the program's own text lays: one closed fact of the tie. No condition. -/
import Derived.Test.YtbflihggpacblaaGreatDoorTieIa
import Derived.Test.YtbflihggpacblaaGreatDoorTieIb
namespace Go.Proofs.YtbflihggpacblaaGreatDoor
open Go
theorem both {α : Type} {r : Option (α × List MemPlace)} {L : List MemPlace} {f : List MemPlace → Bool} (h1 : r.map (·.2) = some L) (h2 : decide L.Nodup = true) (h3 : f L = true) : r.map (fun x => decide x.2.Nodup && f x.2) = some true := by
  cases r with
  | none => cases h1
  | some x =>
    have h4 : x.2 = L := Option.some.inj h1
    show some (decide x.2.Nodup && f x.2) = some true
    rw [h4, h2, h3]
    rfl
theorem tieI : ∀ os tape, (DataW.laidRun Tryz.prog (varsWorld Tryz.prog 400 (varsId Tryz.prog) os tape).memory 8 ((lay.filter fun x => x.2.handleName?.isNone).map (·.1))).map (fun x => decide x.2.Nodup && laidRowsB Tryz.prog (varsWorld Tryz.prog 400 (varsId Tryz.prog) os tape).memory x.2) = some true := fun os tape => both (f := laidRowsB Tryz.prog (varsWorld Tryz.prog 400 (varsId Tryz.prog) os tape).memory) (tieIa os tape) tieN (tieIb os tape)
end Go.Proofs.YtbflihggpacblaaGreatDoor
