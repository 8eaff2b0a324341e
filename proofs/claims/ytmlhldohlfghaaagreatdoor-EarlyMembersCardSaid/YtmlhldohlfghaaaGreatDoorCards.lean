/-
  DERIVED. GIVEN WITH THE SEED: THE CARDS: each row of YtmlhldohlfghaaaGreatDoorRows.lean that lists a variable, with what it lists TIED to the program's text (the seventh form; the later family's looks); each row that meets fmt, with fmt's text TOLD by the authors' own Lean function (tested against real Go, not proved from fmt's source: count such statements apart). THE CARD IS WHAT COUNTS. Prove the row's statement (the work); the ties are given (YtmlhldohlfghaaaGreatDoorTie.lean); close each card by the builder's one call (the guide's Derived/Test/ToyasCard.lean, 'card_holds'). Laid BY PROGRAM, IN A SANDBOX (cutbox-door.mjs). By AI agents, Wed Nov 11 2026. No macro, syntax, notation, axiom, sorry.
-/
import Derived.Test.YtmlhldohlfghaaaGreatDoorRows
import GoSem.ClaimSeven
namespace Go.Proofs.YtmlhldohlfghaaaGreatDoor
namespace Rows

/-- THE TIED CARD OF 'platenlaw12.EarlyProtos'. -/
def earlyProtosCard : Claim7 := { stood := { row := earlyProtosRow, standIns := [], harness := (true, "be8f351b18fd558485b66ae8d95ee620961b6c6d3478c8d147a9008056eadcc0"), looks := true }, kinds := [], alts := [], laidByText := true, laidKinds := [.pinned, .data, .data, .listed, .handle], laidTests := true, laidLooks := .later }
def EarlyProtosCardSaid : Prop := Claim7.holds Tryz.pinned (.plain (OpenSpec.ofChange earlyProtosSpec)) earlyProtosCard

/-- THE TIED CARD OF 'platenlaw12.EarlyMembers'. -/
def earlyMembersCard : Claim7 := { stood := { row := earlyMembersRow, standIns := [], harness := (true, "be8f351b18fd558485b66ae8d95ee620961b6c6d3478c8d147a9008056eadcc0"), looks := true }, kinds := [], alts := [], laidByText := true, laidKinds := [.pinned, .data, .data, .listed, .handle], laidTests := true, laidLooks := .later }
def EarlyMembersCardSaid : Prop := Claim7.holds Tryz.pinned (.plain (OpenSpec.ofChange earlyMembersSpec)) earlyMembersCard

/-- THE SECOND FORM's CARD OF 'platenlaw12.EarlyProtos'. -/
def earlyProtosUptoCard : Claim7 := { stood := { row := earlyProtosUptoRow, standIns := [], harness := (true, "be8f351b18fd558485b66ae8d95ee620961b6c6d3478c8d147a9008056eadcc0"), looks := true }, kinds := [], alts := [], laidByText := true, laidKinds := [.pinned, .data, .data, .listed, .handle], laidTests := true, laidLooks := .later }
def EarlyProtosUptoCardSaid : Prop := Claim7.holds Tryz.pinned (.plain (OpenSpec.upto earlyProtosSpec)) earlyProtosUptoCard

/-- THE SECOND FORM's CARD OF 'platenlaw12.EarlyMembers'. -/
def earlyMembersUptoCard : Claim7 := { stood := { row := earlyMembersUptoRow, standIns := [], harness := (true, "be8f351b18fd558485b66ae8d95ee620961b6c6d3478c8d147a9008056eadcc0"), looks := true }, kinds := [], alts := [], laidByText := true, laidKinds := [.pinned, .data, .data, .listed, .handle], laidTests := true, laidLooks := .later }
def EarlyMembersUptoCardSaid : Prop := Claim7.holds Tryz.pinned (.plain (OpenSpec.upto earlyMembersSpec)) earlyMembersUptoCard
end Rows
end Go.Proofs.YtmlhldohlfghaaaGreatDoor
