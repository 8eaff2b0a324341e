/-
  DERIVED. GIVEN WITH THE SEED: THE CARDS: each row of YtgpibpkplhlihaaGreatDoorRows.lean that lists a variable, with what it lists TIED to the program's text (the seventh form; the later family's looks); each row that meets fmt, with fmt's text TOLD by the authors' own Lean function (tested against real Go, not proved from fmt's source: count such statements apart). THE CARD IS WHAT COUNTS. Prove the row's statement (the work); the ties are given (YtgpibpkplhlihaaGreatDoorTie.lean); close each card by the builder's one call (the guide's Derived/Test/ToyasCard.lean, 'card_holds'). Laid BY PROGRAM, IN A SANDBOX (cutbox-door.mjs). By AI agents, Wed Nov 11 2026. No macro, syntax, notation, axiom, sorry.
-/
import Derived.Test.YtgpibpkplhlihaaGreatDoorRows
import GoSem.ClaimSeven
namespace Go.Proofs.YtgpibpkplhlihaaGreatDoor
namespace Rows

/-- THE TIED CARD OF 'platenlaw9.CoverTexts'. -/
def coverTextsCard : Claim7 := { stood := { row := coverTextsRow, standIns := [], harness := (true, "56dbe6aa12298b6829e3cf8901d2f04159bc488d55d88469fee6b9ca7ce72001"), looks := true }, kinds := [], alts := [], laidByText := true, laidKinds := [.data, .handle, .listed, .data, .pinned], laidTests := true, laidLooks := .later }
def CoverTextsCardSaid : Prop := Claim7.holds Tryz.pinned (.plain (OpenSpec.ofChange coverTextsSpec)) coverTextsCard

/-- THE TIED CARD OF 'platenlaw11.ScopePatterns'. -/
def scopePatternsCard : Claim7 := { stood := { row := scopePatternsRow, standIns := [], harness := (true, "56dbe6aa12298b6829e3cf8901d2f04159bc488d55d88469fee6b9ca7ce72001"), looks := true }, kinds := [], alts := [], laidByText := true, laidKinds := [.data, .handle, .listed, .data, .pinned], laidTests := true, laidLooks := .later }
def ScopePatternsCardSaid : Prop := Claim7.holds Tryz.pinned (.plain (OpenSpec.ofChange scopePatternsSpec)) scopePatternsCard

/-- THE TIED CARD OF 'platenlaw11.ScopeVars'. -/
def scopeVarsCard : Claim7 := { stood := { row := scopeVarsRow, standIns := [], harness := (true, "56dbe6aa12298b6829e3cf8901d2f04159bc488d55d88469fee6b9ca7ce72001"), looks := true }, kinds := [], alts := [], laidByText := true, laidKinds := [.data, .handle, .listed, .data, .pinned], laidTests := true, laidLooks := .later }
def ScopeVarsCardSaid : Prop := Claim7.holds Tryz.pinned (.plain (OpenSpec.ofChange scopeVarsSpec)) scopeVarsCard

/-- THE SECOND FORM's CARD OF 'platenlaw9.CoverTexts'. -/
def coverTextsUptoCard : Claim7 := { stood := { row := coverTextsUptoRow, standIns := [], harness := (true, "56dbe6aa12298b6829e3cf8901d2f04159bc488d55d88469fee6b9ca7ce72001"), looks := true }, kinds := [], alts := [], laidByText := true, laidKinds := [.data, .handle, .listed, .data, .pinned], laidTests := true, laidLooks := .later }
def CoverTextsUptoCardSaid : Prop := Claim7.holds Tryz.pinned (.plain (OpenSpec.upto coverTextsSpec)) coverTextsUptoCard

/-- THE SECOND FORM's CARD OF 'platenlaw11.ScopePatterns'. -/
def scopePatternsUptoCard : Claim7 := { stood := { row := scopePatternsUptoRow, standIns := [], harness := (true, "56dbe6aa12298b6829e3cf8901d2f04159bc488d55d88469fee6b9ca7ce72001"), looks := true }, kinds := [], alts := [], laidByText := true, laidKinds := [.data, .handle, .listed, .data, .pinned], laidTests := true, laidLooks := .later }
def ScopePatternsUptoCardSaid : Prop := Claim7.holds Tryz.pinned (.plain (OpenSpec.upto scopePatternsSpec)) scopePatternsUptoCard

/-- THE SECOND FORM's CARD OF 'platenlaw11.ScopeVars'. -/
def scopeVarsUptoCard : Claim7 := { stood := { row := scopeVarsUptoRow, standIns := [], harness := (true, "56dbe6aa12298b6829e3cf8901d2f04159bc488d55d88469fee6b9ca7ce72001"), looks := true }, kinds := [], alts := [], laidByText := true, laidKinds := [.data, .handle, .listed, .data, .pinned], laidTests := true, laidLooks := .later }
def ScopeVarsUptoCardSaid : Prop := Claim7.holds Tryz.pinned (.plain (OpenSpec.upto scopeVarsSpec)) scopeVarsUptoCard
end Rows
end Go.Proofs.YtgpibpkplhlihaaGreatDoor
