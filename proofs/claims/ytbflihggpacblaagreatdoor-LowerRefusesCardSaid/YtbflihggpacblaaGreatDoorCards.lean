/-
  DERIVED. GIVEN WITH THE SEED: THE CARDS: each row of YtbflihggpacblaaGreatDoorRows.lean that lists a variable, with what it lists TIED to the program's text (the seventh form; the later family's looks); each row that meets fmt, with fmt's text TOLD by the authors' own Lean function (tested against real Go, not proved from fmt's source: count such statements apart). THE CARD IS WHAT COUNTS. Prove the row's statement (the work); the ties are given (YtbflihggpacblaaGreatDoorTie.lean); close each card by the builder's one call (the guide's Derived/Test/ToyasCard.lean, 'card_holds'). Laid BY PROGRAM, IN A SANDBOX (cutbox-door.mjs). By AI agents, Wed Nov 11 2026. No macro, syntax, notation, axiom, sorry.
-/
import Derived.Test.YtbflihggpacblaaGreatDoorRows
import GoSem.ClaimSeven
namespace Go.Proofs.YtbflihggpacblaaGreatDoor
namespace Rows

/-- THE TIED CARD OF 'platenlaw20.LowerRefuses'. -/
def lowerRefusesCard : Claim7 := { stood := { row := lowerRefusesRow, standIns := [], harness := (true, "b787f365e5f04c9500c1d617aaf32df8c0495e8eb439b804148cd34f7b724720"), looks := true }, kinds := [], alts := [], laidByText := true, laidKinds := [.pinned, .data, .data, .listed, .handle, .pinned], laidTests := true, laidLooks := .later }
def LowerRefusesCardSaid : Prop := Claim7.holds Tryz.pinned (.plain (OpenSpec.ofChange lowerRefusesSpec)) lowerRefusesCard

/-- THE SECOND FORM's CARD OF 'platenlaw20.LowerRefuses'. -/
def lowerRefusesUptoCard : Claim7 := { stood := { row := lowerRefusesUptoRow, standIns := [], harness := (true, "b787f365e5f04c9500c1d617aaf32df8c0495e8eb439b804148cd34f7b724720"), looks := true }, kinds := [], alts := [], laidByText := true, laidKinds := [.pinned, .data, .data, .listed, .handle, .pinned], laidTests := true, laidLooks := .later }
def LowerRefusesUptoCardSaid : Prop := Claim7.holds Tryz.pinned (.plain (OpenSpec.upto lowerRefusesSpec)) lowerRefusesUptoCard
end Rows
end Go.Proofs.YtbflihggpacblaaGreatDoor
