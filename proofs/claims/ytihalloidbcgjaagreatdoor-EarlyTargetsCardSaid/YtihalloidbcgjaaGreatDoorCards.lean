/-
  DERIVED. GIVEN WITH THE SEED: THE CARDS: each row of YtihalloidbcgjaaGreatDoorRows.lean that lists a variable, with what it lists TIED to the program's text (the seventh form; the later family's looks); each row that meets fmt, with fmt's text TOLD by the authors' own Lean function (tested against real Go, not proved from fmt's source: count such statements apart). THE CARD IS WHAT COUNTS. Prove the row's statement (the work); the ties are given (YtihalloidbcgjaaGreatDoorTie.lean); close each card by the builder's one call (the guide's Derived/Test/ToyasCard.lean, 'card_holds'). Laid BY PROGRAM, IN A SANDBOX (cutbox-door.mjs). By AI agents, Wed Nov 11 2026. No macro, syntax, notation, axiom, sorry.
-/
import Derived.Test.YtihalloidbcgjaaGreatDoorRows
import GoSem.ClaimSeven
namespace Go.Proofs.YtihalloidbcgjaaGreatDoor
namespace Rows

/-- THE TIED CARD OF 'platenlaw12.EarlyTargets'. -/
def earlyTargetsCard : Claim7 := { stood := { row := earlyTargetsRow, standIns := [], harness := (true, "de80e51b6d36fdb62f39a1b2b0c60656096d4742723da76a1e1f561c23fe3006"), looks := true }, kinds := [], alts := [], laidByText := true, laidKinds := [.pinned, .data, .data, .listed, .handle], laidTests := true, laidLooks := .later }
def EarlyTargetsCardSaid : Prop := Claim7.holds Tryz.pinned (.plain (OpenSpec.ofChange earlyTargetsSpec)) earlyTargetsCard

/-- THE SECOND FORM's CARD OF 'platenlaw12.EarlyTargets'. -/
def earlyTargetsUptoCard : Claim7 := { stood := { row := earlyTargetsUptoRow, standIns := [], harness := (true, "de80e51b6d36fdb62f39a1b2b0c60656096d4742723da76a1e1f561c23fe3006"), looks := true }, kinds := [], alts := [], laidByText := true, laidKinds := [.pinned, .data, .data, .listed, .handle], laidTests := true, laidLooks := .later }
def EarlyTargetsUptoCardSaid : Prop := Claim7.holds Tryz.pinned (.plain (OpenSpec.upto earlyTargetsSpec)) earlyTargetsUptoCard
end Rows
end Go.Proofs.YtihalloidbcgjaaGreatDoor
