/-
  DERIVED. GIVEN WITH THE SEED: THE CARDS: each row of YtjnfkhhjfjepoaaGreatDoorRows.lean that lists a variable, with what it lists TIED to the program's text (the seventh form; the later family's looks); each row that meets fmt, with fmt's text TOLD by the authors' own Lean function (tested against real Go, not proved from fmt's source: count such statements apart). THE CARD IS WHAT COUNTS. Prove the row's statement (the work); the ties are given (YtjnfkhhjfjepoaaGreatDoorTie.lean); close each card by the builder's one call (the guide's Derived/Test/ToyasCard.lean, 'card_holds'). Laid BY PROGRAM, IN A SANDBOX (cutbox-door.mjs). By AI agents, Wed Nov 11 2026. No macro, syntax, notation, axiom, sorry.
-/
import Derived.Test.YtjnfkhhjfjepoaaGreatDoorRows
import GoSem.ClaimSeven
namespace Go.Proofs.YtjnfkhhjfjepoaaGreatDoor
namespace Rows

/-- THE TIED CARD OF 'platenlaw9.CoverTargets'. -/
def coverTargetsCard : Claim7 := { stood := { row := coverTargetsRow, standIns := [], harness := (true, "cabf29dfe0733c607e7f8ee6eb0e59423d625a8f41542b7d22c87499a89551b5"), looks := true }, kinds := [], alts := [], laidByText := true, laidKinds := [.data, .handle, .listed, .data, .pinned], laidTests := true, laidLooks := .later }
def CoverTargetsCardSaid : Prop := Claim7.holds Tryz.pinned (.plain (OpenSpec.ofChange coverTargetsSpec)) coverTargetsCard

/-- THE TIED CARD OF 'platenlaw19.SlotsCounts'. -/
def slotsCountsCard : Claim7 := { stood := { row := slotsCountsRow, standIns := [], harness := (true, "cabf29dfe0733c607e7f8ee6eb0e59423d625a8f41542b7d22c87499a89551b5"), looks := true }, kinds := [], alts := [], laidByText := true, laidKinds := [.data, .handle, .listed, .data, .pinned], laidTests := true, laidLooks := .later }
def SlotsCountsCardSaid : Prop := Claim7.holds Tryz.pinned (.plain (OpenSpec.ofChange slotsCountsSpec)) slotsCountsCard

/-- THE TIED CARD OF 'platenlaw19.SlotsTrails'. -/
def slotsTrailsCard : Claim7 := { stood := { row := slotsTrailsRow, standIns := [], harness := (true, "cabf29dfe0733c607e7f8ee6eb0e59423d625a8f41542b7d22c87499a89551b5"), looks := true }, kinds := [], alts := [], laidByText := true, laidKinds := [.data, .handle, .listed, .data, .pinned], laidTests := true, laidLooks := .later }
def SlotsTrailsCardSaid : Prop := Claim7.holds Tryz.pinned (.plain (OpenSpec.ofChange slotsTrailsSpec)) slotsTrailsCard

/-- THE SECOND FORM's CARD OF 'platenlaw9.CoverTargets'. -/
def coverTargetsUptoCard : Claim7 := { stood := { row := coverTargetsUptoRow, standIns := [], harness := (true, "cabf29dfe0733c607e7f8ee6eb0e59423d625a8f41542b7d22c87499a89551b5"), looks := true }, kinds := [], alts := [], laidByText := true, laidKinds := [.data, .handle, .listed, .data, .pinned], laidTests := true, laidLooks := .later }
def CoverTargetsUptoCardSaid : Prop := Claim7.holds Tryz.pinned (.plain (OpenSpec.upto coverTargetsSpec)) coverTargetsUptoCard

/-- THE SECOND FORM's CARD OF 'platenlaw19.SlotsCounts'. -/
def slotsCountsUptoCard : Claim7 := { stood := { row := slotsCountsUptoRow, standIns := [], harness := (true, "cabf29dfe0733c607e7f8ee6eb0e59423d625a8f41542b7d22c87499a89551b5"), looks := true }, kinds := [], alts := [], laidByText := true, laidKinds := [.data, .handle, .listed, .data, .pinned], laidTests := true, laidLooks := .later }
def SlotsCountsUptoCardSaid : Prop := Claim7.holds Tryz.pinned (.plain (OpenSpec.upto slotsCountsSpec)) slotsCountsUptoCard

/-- THE SECOND FORM's CARD OF 'platenlaw19.SlotsTrails'. -/
def slotsTrailsUptoCard : Claim7 := { stood := { row := slotsTrailsUptoRow, standIns := [], harness := (true, "cabf29dfe0733c607e7f8ee6eb0e59423d625a8f41542b7d22c87499a89551b5"), looks := true }, kinds := [], alts := [], laidByText := true, laidKinds := [.data, .handle, .listed, .data, .pinned], laidTests := true, laidLooks := .later }
def SlotsTrailsUptoCardSaid : Prop := Claim7.holds Tryz.pinned (.plain (OpenSpec.upto slotsTrailsSpec)) slotsTrailsUptoCard
end Rows
end Go.Proofs.YtjnfkhhjfjepoaaGreatDoor
