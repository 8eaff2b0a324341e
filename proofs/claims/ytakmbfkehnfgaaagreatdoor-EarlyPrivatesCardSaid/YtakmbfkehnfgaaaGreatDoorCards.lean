/-
  DERIVED. GIVEN WITH THE SEED: THE CARDS: each row of YtakmbfkehnfgaaaGreatDoorRows.lean that lists a variable, with what it lists TIED to the program's text (the seventh form; the later family's looks); each row that meets fmt, with fmt's text TOLD by the authors' own Lean function (tested against real Go, not proved from fmt's source: count such statements apart). THE CARD IS WHAT COUNTS. Prove the row's statement (the work); the ties are given (YtakmbfkehnfgaaaGreatDoorTie.lean); close each card by the builder's one call (the guide's Derived/Test/ToyasCard.lean, 'card_holds'). Laid BY PROGRAM, IN A SANDBOX (cutbox-door.mjs). By AI agents, Wed Nov 11 2026. No macro, syntax, notation, axiom, sorry.
-/
import Derived.Test.YtakmbfkehnfgaaaGreatDoorRows
import GoSem.ClaimSeven
namespace Go.Proofs.YtakmbfkehnfgaaaGreatDoor
namespace Rows

/-- THE TIED CARD OF 'platenlaw12.EarlyNames'. -/
def earlyNamesCard : Claim7 := { stood := { row := earlyNamesRow, standIns := [], harness := (true, "96ea283c6f7a79d27ade1777127a0c89cabcdf01feca371d1062360a35f5fd60"), looks := true }, kinds := [], alts := [], laidByText := true, laidKinds := [.pinned, .data, .data, .listed, .handle], laidTests := true, laidLooks := .later }
def EarlyNamesCardSaid : Prop := Claim7.holds Tryz.pinned (.plain (OpenSpec.ofChange earlyNamesSpec)) earlyNamesCard

/-- THE TIED CARD OF 'platenlaw12.EarlyLabels'. -/
def earlyLabelsCard : Claim7 := { stood := { row := earlyLabelsRow, standIns := [], harness := (true, "96ea283c6f7a79d27ade1777127a0c89cabcdf01feca371d1062360a35f5fd60"), looks := true }, kinds := [], alts := [], laidByText := true, laidKinds := [.pinned, .data, .data, .listed, .handle], laidTests := true, laidLooks := .later }
def EarlyLabelsCardSaid : Prop := Claim7.holds Tryz.pinned (.plain (OpenSpec.ofChange earlyLabelsSpec)) earlyLabelsCard

/-- THE TIED CARD OF 'platenlaw12.EarlyPrivates'. -/
def earlyPrivatesCard : Claim7 := { stood := { row := earlyPrivatesRow, standIns := [], harness := (true, "96ea283c6f7a79d27ade1777127a0c89cabcdf01feca371d1062360a35f5fd60"), looks := true }, kinds := [], alts := [], laidByText := true, laidKinds := [.pinned, .data, .data, .listed, .handle], laidTests := true, laidLooks := .later }
def EarlyPrivatesCardSaid : Prop := Claim7.holds Tryz.pinned (.plain (OpenSpec.ofChange earlyPrivatesSpec)) earlyPrivatesCard

/-- THE TIED CARD OF 'platenlaw12.EarlySupers'. -/
def earlySupersCard : Claim7 := { stood := { row := earlySupersRow, standIns := [], harness := (true, "96ea283c6f7a79d27ade1777127a0c89cabcdf01feca371d1062360a35f5fd60"), looks := true }, kinds := [], alts := [], laidByText := true, laidKinds := [.pinned, .data, .data, .listed, .handle], laidTests := true, laidLooks := .later }
def EarlySupersCardSaid : Prop := Claim7.holds Tryz.pinned (.plain (OpenSpec.ofChange earlySupersSpec)) earlySupersCard

/-- THE TIED CARD OF 'platenlaw12.EarlyStrict'. -/
def earlyStrictCard : Claim7 := { stood := { row := earlyStrictRow, standIns := [], harness := (true, "96ea283c6f7a79d27ade1777127a0c89cabcdf01feca371d1062360a35f5fd60"), looks := true }, kinds := [], alts := [], laidByText := true, laidKinds := [.pinned, .data, .data, .listed, .handle], laidTests := true, laidLooks := .later }
def EarlyStrictCardSaid : Prop := Claim7.holds Tryz.pinned (.plain (OpenSpec.ofChange earlyStrictSpec)) earlyStrictCard

/-- THE TIED CARD OF 'platenlaw12.EarlyDeletes'. -/
def earlyDeletesCard : Claim7 := { stood := { row := earlyDeletesRow, standIns := [], harness := (true, "96ea283c6f7a79d27ade1777127a0c89cabcdf01feca371d1062360a35f5fd60"), looks := true }, kinds := [], alts := [], laidByText := true, laidKinds := [.pinned, .data, .data, .listed, .handle], laidTests := true, laidLooks := .later }
def EarlyDeletesCardSaid : Prop := Claim7.holds Tryz.pinned (.plain (OpenSpec.ofChange earlyDeletesSpec)) earlyDeletesCard

/-- THE TIED CARD OF 'platenlaw12.EarlyReturns'. -/
def earlyReturnsCard : Claim7 := { stood := { row := earlyReturnsRow, standIns := [], harness := (true, "96ea283c6f7a79d27ade1777127a0c89cabcdf01feca371d1062360a35f5fd60"), looks := true }, kinds := [], alts := [], laidByText := true, laidKinds := [.pinned, .data, .data, .listed, .handle], laidTests := true, laidLooks := .later }
def EarlyReturnsCardSaid : Prop := Claim7.holds Tryz.pinned (.plain (OpenSpec.ofChange earlyReturnsSpec)) earlyReturnsCard

/-- THE TIED CARD OF 'platenlaw12.EarlyWaits'. -/
def earlyWaitsCard : Claim7 := { stood := { row := earlyWaitsRow, standIns := [], harness := (true, "96ea283c6f7a79d27ade1777127a0c89cabcdf01feca371d1062360a35f5fd60"), looks := true }, kinds := [], alts := [], laidByText := true, laidKinds := [.pinned, .data, .data, .listed, .handle], laidTests := true, laidLooks := .later }
def EarlyWaitsCardSaid : Prop := Claim7.holds Tryz.pinned (.plain (OpenSpec.ofChange earlyWaitsSpec)) earlyWaitsCard

/-- THE SECOND FORM's CARD OF 'platenlaw12.EarlyNames'. -/
def earlyNamesUptoCard : Claim7 := { stood := { row := earlyNamesUptoRow, standIns := [], harness := (true, "96ea283c6f7a79d27ade1777127a0c89cabcdf01feca371d1062360a35f5fd60"), looks := true }, kinds := [], alts := [], laidByText := true, laidKinds := [.pinned, .data, .data, .listed, .handle], laidTests := true, laidLooks := .later }
def EarlyNamesUptoCardSaid : Prop := Claim7.holds Tryz.pinned (.plain (OpenSpec.upto earlyNamesSpec)) earlyNamesUptoCard

/-- THE SECOND FORM's CARD OF 'platenlaw12.EarlyLabels'. -/
def earlyLabelsUptoCard : Claim7 := { stood := { row := earlyLabelsUptoRow, standIns := [], harness := (true, "96ea283c6f7a79d27ade1777127a0c89cabcdf01feca371d1062360a35f5fd60"), looks := true }, kinds := [], alts := [], laidByText := true, laidKinds := [.pinned, .data, .data, .listed, .handle], laidTests := true, laidLooks := .later }
def EarlyLabelsUptoCardSaid : Prop := Claim7.holds Tryz.pinned (.plain (OpenSpec.upto earlyLabelsSpec)) earlyLabelsUptoCard

/-- THE SECOND FORM's CARD OF 'platenlaw12.EarlyPrivates'. -/
def earlyPrivatesUptoCard : Claim7 := { stood := { row := earlyPrivatesUptoRow, standIns := [], harness := (true, "96ea283c6f7a79d27ade1777127a0c89cabcdf01feca371d1062360a35f5fd60"), looks := true }, kinds := [], alts := [], laidByText := true, laidKinds := [.pinned, .data, .data, .listed, .handle], laidTests := true, laidLooks := .later }
def EarlyPrivatesUptoCardSaid : Prop := Claim7.holds Tryz.pinned (.plain (OpenSpec.upto earlyPrivatesSpec)) earlyPrivatesUptoCard

/-- THE SECOND FORM's CARD OF 'platenlaw12.EarlySupers'. -/
def earlySupersUptoCard : Claim7 := { stood := { row := earlySupersUptoRow, standIns := [], harness := (true, "96ea283c6f7a79d27ade1777127a0c89cabcdf01feca371d1062360a35f5fd60"), looks := true }, kinds := [], alts := [], laidByText := true, laidKinds := [.pinned, .data, .data, .listed, .handle], laidTests := true, laidLooks := .later }
def EarlySupersUptoCardSaid : Prop := Claim7.holds Tryz.pinned (.plain (OpenSpec.upto earlySupersSpec)) earlySupersUptoCard

/-- THE SECOND FORM's CARD OF 'platenlaw12.EarlyStrict'. -/
def earlyStrictUptoCard : Claim7 := { stood := { row := earlyStrictUptoRow, standIns := [], harness := (true, "96ea283c6f7a79d27ade1777127a0c89cabcdf01feca371d1062360a35f5fd60"), looks := true }, kinds := [], alts := [], laidByText := true, laidKinds := [.pinned, .data, .data, .listed, .handle], laidTests := true, laidLooks := .later }
def EarlyStrictUptoCardSaid : Prop := Claim7.holds Tryz.pinned (.plain (OpenSpec.upto earlyStrictSpec)) earlyStrictUptoCard

/-- THE SECOND FORM's CARD OF 'platenlaw12.EarlyDeletes'. -/
def earlyDeletesUptoCard : Claim7 := { stood := { row := earlyDeletesUptoRow, standIns := [], harness := (true, "96ea283c6f7a79d27ade1777127a0c89cabcdf01feca371d1062360a35f5fd60"), looks := true }, kinds := [], alts := [], laidByText := true, laidKinds := [.pinned, .data, .data, .listed, .handle], laidTests := true, laidLooks := .later }
def EarlyDeletesUptoCardSaid : Prop := Claim7.holds Tryz.pinned (.plain (OpenSpec.upto earlyDeletesSpec)) earlyDeletesUptoCard

/-- THE SECOND FORM's CARD OF 'platenlaw12.EarlyReturns'. -/
def earlyReturnsUptoCard : Claim7 := { stood := { row := earlyReturnsUptoRow, standIns := [], harness := (true, "96ea283c6f7a79d27ade1777127a0c89cabcdf01feca371d1062360a35f5fd60"), looks := true }, kinds := [], alts := [], laidByText := true, laidKinds := [.pinned, .data, .data, .listed, .handle], laidTests := true, laidLooks := .later }
def EarlyReturnsUptoCardSaid : Prop := Claim7.holds Tryz.pinned (.plain (OpenSpec.upto earlyReturnsSpec)) earlyReturnsUptoCard

/-- THE SECOND FORM's CARD OF 'platenlaw12.EarlyWaits'. -/
def earlyWaitsUptoCard : Claim7 := { stood := { row := earlyWaitsUptoRow, standIns := [], harness := (true, "96ea283c6f7a79d27ade1777127a0c89cabcdf01feca371d1062360a35f5fd60"), looks := true }, kinds := [], alts := [], laidByText := true, laidKinds := [.pinned, .data, .data, .listed, .handle], laidTests := true, laidLooks := .later }
def EarlyWaitsUptoCardSaid : Prop := Claim7.holds Tryz.pinned (.plain (OpenSpec.upto earlyWaitsSpec)) earlyWaitsUptoCard
end Rows
end Go.Proofs.YtakmbfkehnfgaaaGreatDoor
