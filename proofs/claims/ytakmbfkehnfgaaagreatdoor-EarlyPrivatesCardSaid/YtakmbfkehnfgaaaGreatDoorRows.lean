/-
  NARROWER THAN 'FOR EVERY INPUT', by the rows' own cells (each row's printed sentence says how): EarlyNames: laid · EarlyLabels: laid · EarlyPrivates: laid · EarlySupers: laid · EarlyStrict: laid · EarlyDeletes: laid · EarlyReturns: laid · EarlyWaits: laid.
  DERIVED. THE GIVEN ROWS OF THIS SEAT. 8 by the template 'for every input the law returns true; each argument reads behind the call as it read before'; 0 by the template 'total and deterministic' (their statements: YtakmbfkehnfgaaaGreatDoorTotals.lean).
  GIVEN WITH THE SEED: the statements are not yours to turn. If you find one false, say at which input.
  Laid BY PROGRAM, IN A SANDBOX (cutbox-rows.mjs): the forced cells as the released guide's own fill.sh prints them over the translation 7e4bdba05604f89d… (all of the seat's roots in one cut). By AI agents, Wed Nov 11 2026. No macro, syntax, notation, axiom, sorry.
-/
import Derived.Test.YtakmbfkehnfgaaaGreatDoorChecked
import GoSem.PinnedTables
import GoSem.Claim
import GoSem.ClaimJoined
import GoSem.ClaimMapViews
import Derived.JoinedTies
import Derived.KernelRfl
namespace Go.Proofs.YtakmbfkehnfgaaaGreatDoor
/- THE CELL 'sum', in the pinned program and in every row, IS THE sha256 OF THE DUMP (.gsa) THAT YtakmbfkehnfgaaaGreatDoorProg.lean LOADS. Nothing in Lean hashes anything: it is a label: what it is worth is what the hold of that sum in a sandbox is worth. -/
noncomputable def Tryz.pinned : Pinned := { name := "ytakmbfkehnfgaaagreatdoor", sum := "7e4bdba05604f89d4cabcf4bc572e2eb0230a47ed943bf5bd1761a13dd6da721", checked := Tryz.checked }
namespace Rows
def none {H : Type} : Left H := { results := [], args := [] }

/- WHAT THE LISTED PACKAGE-LEVEL VARIABLES READ AS WHEN THE CALL BEGINS. Each datum BY PROGRAM (the guide's laid-datum.mjs) off the statement by which the dump's own 'gosem.cut.vars' lays the variable. In a bare row this is a premise. The card (YtakmbfkehnfgaaaGreatDoorCards.lean) ties it to the program's text. -/
/-- One of Go's own tables, pinned by name: the form's constant. -/
def laid_unicode_utf8_first : DataW Unit := Go.Pinned.utf8First
def laid_unicode_utf8_acceptRanges {H : Type} : DataW H := .agg [.agg [.lit (.int .u8 128), .lit (.int .u8 191)], .agg [.lit (.int .u8 160), .lit (.int .u8 191)], .agg [.lit (.int .u8 128), .lit (.int .u8 159)], .agg [.lit (.int .u8 144), .lit (.int .u8 191)], .agg [.lit (.int .u8 128), .lit (.int .u8 143)], .agg [.lit (.int .u8 0), .lit (.int .u8 0)], .agg [.lit (.int .u8 0), .lit (.int .u8 0)], .agg [.lit (.int .u8 0), .lit (.int .u8 0)], .agg [.lit (.int .u8 0), .lit (.int .u8 0)], .agg [.lit (.int .u8 0), .lit (.int .u8 0)], .agg [.lit (.int .u8 0), .lit (.int .u8 0)], .agg [.lit (.int .u8 0), .lit (.int .u8 0)], .agg [.lit (.int .u8 0), .lit (.int .u8 0)], .agg [.lit (.int .u8 0), .lit (.int .u8 0)], .agg [.lit (.int .u8 0), .lit (.int .u8 0)], .agg [.lit (.int .u8 0), .lit (.int .u8 0)]]
def laid_strings_asciiSpace {H : Type} : DataW H := .agg [.lit (.int .u8 0), .lit (.int .u8 0), .lit (.int .u8 0), .lit (.int .u8 0), .lit (.int .u8 0), .lit (.int .u8 0), .lit (.int .u8 0), .lit (.int .u8 0), .lit (.int .u8 0), .lit (.int .u8 1), .lit (.int .u8 1), .lit (.int .u8 1), .lit (.int .u8 1), .lit (.int .u8 1), .lit (.int .u8 0), .lit (.int .u8 0), .lit (.int .u8 0), .lit (.int .u8 0), .lit (.int .u8 0), .lit (.int .u8 0), .lit (.int .u8 0), .lit (.int .u8 0), .lit (.int .u8 0), .lit (.int .u8 0), .lit (.int .u8 0), .lit (.int .u8 0), .lit (.int .u8 0), .lit (.int .u8 0), .lit (.int .u8 0), .lit (.int .u8 0), .lit (.int .u8 0), .lit (.int .u8 0), .lit (.int .u8 1), .lit (.int .u8 0), .lit (.int .u8 0), .lit (.int .u8 0), .lit (.int .u8 0), .lit (.int .u8 0), .lit (.int .u8 0), .lit (.int .u8 0), .lit (.int .u8 0), .lit (.int .u8 0), .lit (.int .u8 0), .lit (.int .u8 0), .lit (.int .u8 0), .lit (.int .u8 0), .lit (.int .u8 0), .lit (.int .u8 0), .lit (.int .u8 0), .lit (.int .u8 0), .lit (.int .u8 0), .lit (.int .u8 0), .lit (.int .u8 0), .lit (.int .u8 0), .lit (.int .u8 0), .lit (.int .u8 0), .lit (.int .u8 0), .lit (.int .u8 0), .lit (.int .u8 0), .lit (.int .u8 0), .lit (.int .u8 0), .lit (.int .u8 0), .lit (.int .u8 0), .lit (.int .u8 0), .lit (.int .u8 0), .lit (.int .u8 0), .lit (.int .u8 0), .lit (.int .u8 0), .lit (.int .u8 0), .lit (.int .u8 0), .lit (.int .u8 0), .lit (.int .u8 0), .lit (.int .u8 0), .lit (.int .u8 0), .lit (.int .u8 0), .lit (.int .u8 0), .lit (.int .u8 0), .lit (.int .u8 0), .lit (.int .u8 0), .lit (.int .u8 0), .lit (.int .u8 0), .lit (.int .u8 0), .lit (.int .u8 0), .lit (.int .u8 0), .lit (.int .u8 0), .lit (.int .u8 0), .lit (.int .u8 0), .lit (.int .u8 0), .lit (.int .u8 0), .lit (.int .u8 0), .lit (.int .u8 0), .lit (.int .u8 0), .lit (.int .u8 0), .lit (.int .u8 0), .lit (.int .u8 0), .lit (.int .u8 0), .lit (.int .u8 0), .lit (.int .u8 0), .lit (.int .u8 0), .lit (.int .u8 0), .lit (.int .u8 0), .lit (.int .u8 0), .lit (.int .u8 0), .lit (.int .u8 0), .lit (.int .u8 0), .lit (.int .u8 0), .lit (.int .u8 0), .lit (.int .u8 0), .lit (.int .u8 0), .lit (.int .u8 0), .lit (.int .u8 0), .lit (.int .u8 0), .lit (.int .u8 0), .lit (.int .u8 0), .lit (.int .u8 0), .lit (.int .u8 0), .lit (.int .u8 0), .lit (.int .u8 0), .lit (.int .u8 0), .lit (.int .u8 0), .lit (.int .u8 0), .lit (.int .u8 0), .lit (.int .u8 0), .lit (.int .u8 0), .lit (.int .u8 0), .lit (.int .u8 0), .lit (.int .u8 0), .lit (.int .u8 0), .lit (.int .u8 0), .lit (.int .u8 0), .lit (.int .u8 0), .lit (.int .u8 0), .lit (.int .u8 0), .lit (.int .u8 0), .lit (.int .u8 0), .lit (.int .u8 0), .lit (.int .u8 0), .lit (.int .u8 0), .lit (.int .u8 0), .lit (.int .u8 0), .lit (.int .u8 0), .lit (.int .u8 0), .lit (.int .u8 0), .lit (.int .u8 0), .lit (.int .u8 0), .lit (.int .u8 0), .lit (.int .u8 0), .lit (.int .u8 0), .lit (.int .u8 0), .lit (.int .u8 0), .lit (.int .u8 0), .lit (.int .u8 0), .lit (.int .u8 0), .lit (.int .u8 0), .lit (.int .u8 0), .lit (.int .u8 0), .lit (.int .u8 0), .lit (.int .u8 0), .lit (.int .u8 0), .lit (.int .u8 0), .lit (.int .u8 0), .lit (.int .u8 0), .lit (.int .u8 0), .lit (.int .u8 0), .lit (.int .u8 0), .lit (.int .u8 0), .lit (.int .u8 0), .lit (.int .u8 0), .lit (.int .u8 0), .lit (.int .u8 0), .lit (.int .u8 0), .lit (.int .u8 0), .lit (.int .u8 0), .lit (.int .u8 0), .lit (.int .u8 0), .lit (.int .u8 0), .lit (.int .u8 0), .lit (.int .u8 0), .lit (.int .u8 0), .lit (.int .u8 0), .lit (.int .u8 0), .lit (.int .u8 0), .lit (.int .u8 0), .lit (.int .u8 0), .lit (.int .u8 0), .lit (.int .u8 0), .lit (.int .u8 0), .lit (.int .u8 0), .lit (.int .u8 0), .lit (.int .u8 0), .lit (.int .u8 0), .lit (.int .u8 0), .lit (.int .u8 0), .lit (.int .u8 0), .lit (.int .u8 0), .lit (.int .u8 0), .lit (.int .u8 0), .lit (.int .u8 0), .lit (.int .u8 0), .lit (.int .u8 0), .lit (.int .u8 0), .lit (.int .u8 0), .lit (.int .u8 0), .lit (.int .u8 0), .lit (.int .u8 0), .lit (.int .u8 0), .lit (.int .u8 0), .lit (.int .u8 0), .lit (.int .u8 0), .lit (.int .u8 0), .lit (.int .u8 0), .lit (.int .u8 0), .lit (.int .u8 0), .lit (.int .u8 0), .lit (.int .u8 0), .lit (.int .u8 0), .lit (.int .u8 0), .lit (.int .u8 0), .lit (.int .u8 0), .lit (.int .u8 0), .lit (.int .u8 0), .lit (.int .u8 0), .lit (.int .u8 0), .lit (.int .u8 0), .lit (.int .u8 0), .lit (.int .u8 0), .lit (.int .u8 0), .lit (.int .u8 0), .lit (.int .u8 0), .lit (.int .u8 0), .lit (.int .u8 0), .lit (.int .u8 0), .lit (.int .u8 0), .lit (.int .u8 0), .lit (.int .u8 0), .lit (.int .u8 0), .lit (.int .u8 0), .lit (.int .u8 0), .lit (.int .u8 0), .lit (.int .u8 0), .lit (.int .u8 0), .lit (.int .u8 0), .lit (.int .u8 0), .lit (.int .u8 0), .lit (.int .u8 0), .lit (.int .u8 0), .lit (.int .u8 0), .lit (.int .u8 0), .lit (.int .u8 0), .lit (.int .u8 0), .lit (.int .u8 0), .lit (.int .u8 0), .lit (.int .u8 0), .lit (.int .u8 0), .lit (.int .u8 0), .lit (.int .u8 0)]
def laid_unicode_White_Space {H : Type} : DataW H := .ptr (.agg [.slice [.agg [.lit (.int .u16 9), .lit (.int .u16 13), .lit (.int .u16 1)], .agg [.lit (.int .u16 32), .lit (.int .u16 133), .lit (.int .u16 101)], .agg [.lit (.int .u16 160), .lit (.int .u16 5760), .lit (.int .u16 5600)], .agg [.lit (.int .u16 8192), .lit (.int .u16 8202), .lit (.int .u16 1)], .agg [.lit (.int .u16 8232), .lit (.int .u16 8233), .lit (.int .u16 1)], .agg [.lit (.int .u16 8239), .lit (.int .u16 8287), .lit (.int .u16 48)], .agg [.lit (.int .u16 12288), .lit (.int .u16 12288), .lit (.int .u16 1)]] [], .nil, .lit (.int .i64 2)])
def laid_errors_errorType {H : Type} : DataW H := .iface "internal/reflectlite.rtype" (.agg [.ptr (.lit (.string [101, 114, 114, 111, 114]))])

/-- 'platenlaw12.EarlyNames': WHATEVER THE INPUT: true; the input reads as it did. -/
def earlyNamesSpec : ChangeSpec := { name := "earlyNames", fn := fun _ => fun
  | [d1, d2, d3] => { results := [.lit (.bool true)], args := [d1, d2, d3] }
  | _ => none }
def earlyNamesRow : OpenClaim := { program := "ytakmbfkehnfgaaagreatdoor", sum := "7e4bdba05604f89d4cabcf4bc572e2eb0230a47ed943bf5bd1761a13dd6da721", func := "platen/platenlaw12.EarlyNames", spec := "earlyNames", inPlace := ["internal/bytealg.IndexByteString", "internal/bytealg.CountString", "internal/bytealg.IndexString", "internal/abi.NoEscape", "internal/bytealg.MakeNoZero", "internal/reflectlite.ValueOf", "(internal/reflectlite.Value).Type", "(internal/reflectlite.Value).IsNil", "internal/reflectlite.TypeOf", "(internal/reflectlite.Value).Elem", "(internal/reflectlite.Value).Set"], unfollowed := true, recurses := true, named := ["unicode/utf8.first", "unicode/utf8.acceptRanges", "internal/bytealg.MaxLen", "strings.asciiSpace", "unicode.White_Space", "errors.errorType"], apart := false, laid := [("unicode/utf8.first", laid_unicode_utf8_first), ("unicode/utf8.acceptRanges", laid_unicode_utf8_acceptRanges), ("strings.asciiSpace", laid_strings_asciiSpace), ("unicode.White_Space", laid_unicode_White_Space), ("errors.errorType", laid_errors_errorType)] }
def EarlyNamesSaid : Prop := earlyNamesRow.holds Tryz.pinned (OpenSpec.ofChange earlyNamesSpec)

/-- ITS FALSE NEIGHBOUR: 'it returns false'. Refute it at one input. -/
def earlyNamesWrong : ChangeSpec := { name := "earlyNames", fn := fun _ => fun
  | [d1, d2, d3] => { results := [.lit (.bool false)], args := [d1, d2, d3] }
  | _ => none }
def EarlyNamesWrongFalsely : Prop := earlyNamesRow.holds Tryz.pinned (OpenSpec.ofChange earlyNamesWrong)

/-- 'platenlaw12.EarlyLabels': WHATEVER THE INPUT: true; the input reads as it did. -/
def earlyLabelsSpec : ChangeSpec := { name := "earlyLabels", fn := fun _ => fun
  | [d1, d2, d3] => { results := [.lit (.bool true)], args := [d1, d2, d3] }
  | _ => none }
def earlyLabelsRow : OpenClaim := { program := "ytakmbfkehnfgaaagreatdoor", sum := "7e4bdba05604f89d4cabcf4bc572e2eb0230a47ed943bf5bd1761a13dd6da721", func := "platen/platenlaw12.EarlyLabels", spec := "earlyLabels", inPlace := ["internal/bytealg.IndexByteString", "internal/bytealg.CountString", "internal/bytealg.IndexString", "internal/abi.NoEscape", "internal/bytealg.MakeNoZero", "internal/reflectlite.ValueOf", "(internal/reflectlite.Value).Type", "(internal/reflectlite.Value).IsNil", "internal/reflectlite.TypeOf", "(internal/reflectlite.Value).Elem", "(internal/reflectlite.Value).Set"], unfollowed := true, recurses := true, named := ["unicode/utf8.first", "unicode/utf8.acceptRanges", "internal/bytealg.MaxLen", "strings.asciiSpace", "unicode.White_Space", "errors.errorType"], apart := false, laid := [("unicode/utf8.first", laid_unicode_utf8_first), ("unicode/utf8.acceptRanges", laid_unicode_utf8_acceptRanges), ("strings.asciiSpace", laid_strings_asciiSpace), ("unicode.White_Space", laid_unicode_White_Space), ("errors.errorType", laid_errors_errorType)] }
def EarlyLabelsSaid : Prop := earlyLabelsRow.holds Tryz.pinned (OpenSpec.ofChange earlyLabelsSpec)

/-- ITS FALSE NEIGHBOUR: 'it returns false'. Refute it at one input. -/
def earlyLabelsWrong : ChangeSpec := { name := "earlyLabels", fn := fun _ => fun
  | [d1, d2, d3] => { results := [.lit (.bool false)], args := [d1, d2, d3] }
  | _ => none }
def EarlyLabelsWrongFalsely : Prop := earlyLabelsRow.holds Tryz.pinned (OpenSpec.ofChange earlyLabelsWrong)

/-- 'platenlaw12.EarlyPrivates': WHATEVER THE INPUT: true; the input reads as it did. -/
def earlyPrivatesSpec : ChangeSpec := { name := "earlyPrivates", fn := fun _ => fun
  | [d1, d2, d3] => { results := [.lit (.bool true)], args := [d1, d2, d3] }
  | _ => none }
def earlyPrivatesRow : OpenClaim := { program := "ytakmbfkehnfgaaagreatdoor", sum := "7e4bdba05604f89d4cabcf4bc572e2eb0230a47ed943bf5bd1761a13dd6da721", func := "platen/platenlaw12.EarlyPrivates", spec := "earlyPrivates", inPlace := ["internal/bytealg.IndexByteString", "internal/bytealg.CountString", "internal/bytealg.IndexString", "internal/abi.NoEscape", "internal/bytealg.MakeNoZero", "internal/reflectlite.ValueOf", "(internal/reflectlite.Value).Type", "(internal/reflectlite.Value).IsNil", "internal/reflectlite.TypeOf", "(internal/reflectlite.Value).Elem", "(internal/reflectlite.Value).Set"], unfollowed := true, recurses := true, named := ["unicode/utf8.first", "unicode/utf8.acceptRanges", "internal/bytealg.MaxLen", "strings.asciiSpace", "unicode.White_Space", "errors.errorType"], apart := false, laid := [("unicode/utf8.first", laid_unicode_utf8_first), ("unicode/utf8.acceptRanges", laid_unicode_utf8_acceptRanges), ("strings.asciiSpace", laid_strings_asciiSpace), ("unicode.White_Space", laid_unicode_White_Space), ("errors.errorType", laid_errors_errorType)] }
def EarlyPrivatesSaid : Prop := earlyPrivatesRow.holds Tryz.pinned (OpenSpec.ofChange earlyPrivatesSpec)

/-- ITS FALSE NEIGHBOUR: 'it returns false'. Refute it at one input. -/
def earlyPrivatesWrong : ChangeSpec := { name := "earlyPrivates", fn := fun _ => fun
  | [d1, d2, d3] => { results := [.lit (.bool false)], args := [d1, d2, d3] }
  | _ => none }
def EarlyPrivatesWrongFalsely : Prop := earlyPrivatesRow.holds Tryz.pinned (OpenSpec.ofChange earlyPrivatesWrong)

/-- 'platenlaw12.EarlySupers': WHATEVER THE INPUT: true; the input reads as it did. -/
def earlySupersSpec : ChangeSpec := { name := "earlySupers", fn := fun _ => fun
  | [d1, d2, d3] => { results := [.lit (.bool true)], args := [d1, d2, d3] }
  | _ => none }
def earlySupersRow : OpenClaim := { program := "ytakmbfkehnfgaaagreatdoor", sum := "7e4bdba05604f89d4cabcf4bc572e2eb0230a47ed943bf5bd1761a13dd6da721", func := "platen/platenlaw12.EarlySupers", spec := "earlySupers", inPlace := ["internal/bytealg.IndexByteString", "internal/bytealg.CountString", "internal/bytealg.IndexString", "internal/abi.NoEscape", "internal/bytealg.MakeNoZero", "internal/reflectlite.ValueOf", "(internal/reflectlite.Value).Type", "(internal/reflectlite.Value).IsNil", "internal/reflectlite.TypeOf", "(internal/reflectlite.Value).Elem", "(internal/reflectlite.Value).Set"], unfollowed := true, recurses := true, named := ["unicode/utf8.first", "unicode/utf8.acceptRanges", "internal/bytealg.MaxLen", "strings.asciiSpace", "unicode.White_Space", "errors.errorType"], apart := false, laid := [("unicode/utf8.first", laid_unicode_utf8_first), ("unicode/utf8.acceptRanges", laid_unicode_utf8_acceptRanges), ("strings.asciiSpace", laid_strings_asciiSpace), ("unicode.White_Space", laid_unicode_White_Space), ("errors.errorType", laid_errors_errorType)] }
def EarlySupersSaid : Prop := earlySupersRow.holds Tryz.pinned (OpenSpec.ofChange earlySupersSpec)

/-- ITS FALSE NEIGHBOUR: 'it returns false'. Refute it at one input. -/
def earlySupersWrong : ChangeSpec := { name := "earlySupers", fn := fun _ => fun
  | [d1, d2, d3] => { results := [.lit (.bool false)], args := [d1, d2, d3] }
  | _ => none }
def EarlySupersWrongFalsely : Prop := earlySupersRow.holds Tryz.pinned (OpenSpec.ofChange earlySupersWrong)

/-- 'platenlaw12.EarlyStrict': WHATEVER THE INPUT: true; the input reads as it did. -/
def earlyStrictSpec : ChangeSpec := { name := "earlyStrict", fn := fun _ => fun
  | [d1, d2] => { results := [.lit (.bool true)], args := [d1, d2] }
  | _ => none }
def earlyStrictRow : OpenClaim := { program := "ytakmbfkehnfgaaagreatdoor", sum := "7e4bdba05604f89d4cabcf4bc572e2eb0230a47ed943bf5bd1761a13dd6da721", func := "platen/platenlaw12.EarlyStrict", spec := "earlyStrict", inPlace := ["internal/bytealg.IndexByteString", "internal/bytealg.CountString", "internal/bytealg.IndexString", "internal/abi.NoEscape", "internal/bytealg.MakeNoZero", "internal/reflectlite.ValueOf", "(internal/reflectlite.Value).Type", "(internal/reflectlite.Value).IsNil", "internal/reflectlite.TypeOf", "(internal/reflectlite.Value).Elem", "(internal/reflectlite.Value).Set"], unfollowed := true, recurses := true, named := ["unicode/utf8.first", "unicode/utf8.acceptRanges", "internal/bytealg.MaxLen", "strings.asciiSpace", "unicode.White_Space", "errors.errorType"], apart := false, laid := [("unicode/utf8.first", laid_unicode_utf8_first), ("unicode/utf8.acceptRanges", laid_unicode_utf8_acceptRanges), ("strings.asciiSpace", laid_strings_asciiSpace), ("unicode.White_Space", laid_unicode_White_Space), ("errors.errorType", laid_errors_errorType)] }
def EarlyStrictSaid : Prop := earlyStrictRow.holds Tryz.pinned (OpenSpec.ofChange earlyStrictSpec)

/-- ITS FALSE NEIGHBOUR: 'it returns false'. Refute it at one input. -/
def earlyStrictWrong : ChangeSpec := { name := "earlyStrict", fn := fun _ => fun
  | [d1, d2] => { results := [.lit (.bool false)], args := [d1, d2] }
  | _ => none }
def EarlyStrictWrongFalsely : Prop := earlyStrictRow.holds Tryz.pinned (OpenSpec.ofChange earlyStrictWrong)

/-- 'platenlaw12.EarlyDeletes': WHATEVER THE INPUT: true; the input reads as it did. -/
def earlyDeletesSpec : ChangeSpec := { name := "earlyDeletes", fn := fun _ => fun
  | [d1, d2] => { results := [.lit (.bool true)], args := [d1, d2] }
  | _ => none }
def earlyDeletesRow : OpenClaim := { program := "ytakmbfkehnfgaaagreatdoor", sum := "7e4bdba05604f89d4cabcf4bc572e2eb0230a47ed943bf5bd1761a13dd6da721", func := "platen/platenlaw12.EarlyDeletes", spec := "earlyDeletes", inPlace := ["internal/bytealg.IndexByteString", "internal/bytealg.CountString", "internal/bytealg.IndexString", "internal/abi.NoEscape", "internal/bytealg.MakeNoZero", "internal/reflectlite.ValueOf", "(internal/reflectlite.Value).Type", "(internal/reflectlite.Value).IsNil", "internal/reflectlite.TypeOf", "(internal/reflectlite.Value).Elem", "(internal/reflectlite.Value).Set"], unfollowed := true, recurses := true, named := ["unicode/utf8.first", "unicode/utf8.acceptRanges", "internal/bytealg.MaxLen", "strings.asciiSpace", "unicode.White_Space", "errors.errorType"], apart := false, laid := [("unicode/utf8.first", laid_unicode_utf8_first), ("unicode/utf8.acceptRanges", laid_unicode_utf8_acceptRanges), ("strings.asciiSpace", laid_strings_asciiSpace), ("unicode.White_Space", laid_unicode_White_Space), ("errors.errorType", laid_errors_errorType)] }
def EarlyDeletesSaid : Prop := earlyDeletesRow.holds Tryz.pinned (OpenSpec.ofChange earlyDeletesSpec)

/-- ITS FALSE NEIGHBOUR: 'it returns false'. Refute it at one input. -/
def earlyDeletesWrong : ChangeSpec := { name := "earlyDeletes", fn := fun _ => fun
  | [d1, d2] => { results := [.lit (.bool false)], args := [d1, d2] }
  | _ => none }
def EarlyDeletesWrongFalsely : Prop := earlyDeletesRow.holds Tryz.pinned (OpenSpec.ofChange earlyDeletesWrong)

/-- 'platenlaw12.EarlyReturns': WHATEVER THE INPUT: true; the input reads as it did. -/
def earlyReturnsSpec : ChangeSpec := { name := "earlyReturns", fn := fun _ => fun
  | [d1, d2] => { results := [.lit (.bool true)], args := [d1, d2] }
  | _ => none }
def earlyReturnsRow : OpenClaim := { program := "ytakmbfkehnfgaaagreatdoor", sum := "7e4bdba05604f89d4cabcf4bc572e2eb0230a47ed943bf5bd1761a13dd6da721", func := "platen/platenlaw12.EarlyReturns", spec := "earlyReturns", inPlace := ["internal/bytealg.IndexByteString", "internal/bytealg.CountString", "internal/bytealg.IndexString", "internal/abi.NoEscape", "internal/bytealg.MakeNoZero", "internal/reflectlite.ValueOf", "(internal/reflectlite.Value).Type", "(internal/reflectlite.Value).IsNil", "internal/reflectlite.TypeOf", "(internal/reflectlite.Value).Elem", "(internal/reflectlite.Value).Set"], unfollowed := true, recurses := true, named := ["unicode/utf8.first", "unicode/utf8.acceptRanges", "internal/bytealg.MaxLen", "strings.asciiSpace", "unicode.White_Space", "errors.errorType"], apart := false, laid := [("unicode/utf8.first", laid_unicode_utf8_first), ("unicode/utf8.acceptRanges", laid_unicode_utf8_acceptRanges), ("strings.asciiSpace", laid_strings_asciiSpace), ("unicode.White_Space", laid_unicode_White_Space), ("errors.errorType", laid_errors_errorType)] }
def EarlyReturnsSaid : Prop := earlyReturnsRow.holds Tryz.pinned (OpenSpec.ofChange earlyReturnsSpec)

/-- ITS FALSE NEIGHBOUR: 'it returns false'. Refute it at one input. -/
def earlyReturnsWrong : ChangeSpec := { name := "earlyReturns", fn := fun _ => fun
  | [d1, d2] => { results := [.lit (.bool false)], args := [d1, d2] }
  | _ => none }
def EarlyReturnsWrongFalsely : Prop := earlyReturnsRow.holds Tryz.pinned (OpenSpec.ofChange earlyReturnsWrong)

/-- 'platenlaw12.EarlyWaits': WHATEVER THE INPUT: true; the input reads as it did. -/
def earlyWaitsSpec : ChangeSpec := { name := "earlyWaits", fn := fun _ => fun
  | [d] => { results := [.lit (.bool true)], args := [d] }
  | _ => none }
def earlyWaitsRow : OpenClaim := { program := "ytakmbfkehnfgaaagreatdoor", sum := "7e4bdba05604f89d4cabcf4bc572e2eb0230a47ed943bf5bd1761a13dd6da721", func := "platen/platenlaw12.EarlyWaits", spec := "earlyWaits", inPlace := ["internal/bytealg.IndexByteString", "internal/bytealg.CountString", "internal/bytealg.IndexString", "internal/abi.NoEscape", "internal/bytealg.MakeNoZero", "internal/reflectlite.ValueOf", "(internal/reflectlite.Value).Type", "(internal/reflectlite.Value).IsNil", "internal/reflectlite.TypeOf", "(internal/reflectlite.Value).Elem", "(internal/reflectlite.Value).Set"], unfollowed := true, recurses := true, named := ["unicode/utf8.first", "unicode/utf8.acceptRanges", "internal/bytealg.MaxLen", "strings.asciiSpace", "unicode.White_Space", "errors.errorType"], apart := false, laid := [("unicode/utf8.first", laid_unicode_utf8_first), ("unicode/utf8.acceptRanges", laid_unicode_utf8_acceptRanges), ("strings.asciiSpace", laid_strings_asciiSpace), ("unicode.White_Space", laid_unicode_White_Space), ("errors.errorType", laid_errors_errorType)] }
def EarlyWaitsSaid : Prop := earlyWaitsRow.holds Tryz.pinned (OpenSpec.ofChange earlyWaitsSpec)

/-- ITS FALSE NEIGHBOUR: 'it returns false'. Refute it at one input. -/
def earlyWaitsWrong : ChangeSpec := { name := "earlyWaits", fn := fun _ => fun
  | [d] => { results := [.lit (.bool false)], args := [d] }
  | _ => none }
def EarlyWaitsWrongFalsely : Prop := earlyWaitsRow.holds Tryz.pinned (OpenSpec.ofChange earlyWaitsWrong)

/- THE SECOND FORM. 'bulk': how many values and letters a reading holds, each counted each time it is reached (what is shared counts as often as it is met; a slice's spare places count too). A statement '..UptoSaid' is the law's where the arguments, and the package variables that the reading takes, are together of bulk at most 1048576: NARROWER than '..Said'. Prove '..Said' where nothing that the law and all that it calls make is longer than what came in: it says more and counts as full. Else prove '..UptoSaid'. A law counts once. -/
mutual
def uptoBulk {H : Type} : DataW H → Nat
  | .lit (.string bytes) => bytes.length + 1
  | .lit _ => 1
  | .nil => 1
  | .ptr d => uptoBulk d + 1
  | .slice elems spare => uptoBulkAll elems + uptoBulkAll spare + 1
  | .agg parts => uptoBulkAll parts + 1
  | .iface _ d => uptoBulk d + 1
  | .map entries => uptoBulkEntries entries + 1
  | .held _ => 1
def uptoBulkAll {H : Type} : List (DataW H) → Nat
  | [] => 0
  | d :: r => uptoBulk d + uptoBulkAll r
def uptoBulkEntries {H : Type} : List (Lit × DataW H) → Nat
  | [] => 0
  | x :: r => uptoBulkEntry x + uptoBulkEntries r
def uptoBulkEntry {H : Type} : Lit × DataW H → Nat
  | (.string bytes, d) => bytes.length + uptoBulk d + 1
  | (_, d) => uptoBulk d + 1
 end
def uptoSmall : (H : Type) → List (DataW H) → Bool := fun _ ds => decide (uptoBulkAll ds ≤ 1048576)
def OpenSpec.upto (s : _root_.Go.ChangeSpec) : _root_.Go.OpenSpec := { _root_.Go.OpenSpec.ofChange s with cond := some uptoSmall }

/-- 'platenlaw12.EarlyNames', WHERE WHAT IT READS IS OF BULK AT MOST 1048576: true; the input reads as it did. -/
def earlyNamesUptoRow : OpenClaim := { program := "ytakmbfkehnfgaaagreatdoor", sum := "7e4bdba05604f89d4cabcf4bc572e2eb0230a47ed943bf5bd1761a13dd6da721", func := "platen/platenlaw12.EarlyNames", spec := "earlyNames", inPlace := ["internal/bytealg.IndexByteString", "internal/bytealg.CountString", "internal/bytealg.IndexString", "internal/abi.NoEscape", "internal/bytealg.MakeNoZero", "internal/reflectlite.ValueOf", "(internal/reflectlite.Value).Type", "(internal/reflectlite.Value).IsNil", "internal/reflectlite.TypeOf", "(internal/reflectlite.Value).Elem", "(internal/reflectlite.Value).Set"], unfollowed := true, recurses := true, named := ["unicode/utf8.first", "unicode/utf8.acceptRanges", "internal/bytealg.MaxLen", "strings.asciiSpace", "unicode.White_Space", "errors.errorType"], apart := false, laid := [("unicode/utf8.first", laid_unicode_utf8_first), ("unicode/utf8.acceptRanges", laid_unicode_utf8_acceptRanges), ("strings.asciiSpace", laid_strings_asciiSpace), ("unicode.White_Space", laid_unicode_White_Space), ("errors.errorType", laid_errors_errorType)], narrowed := true }
def EarlyNamesUptoSaid : Prop := earlyNamesUptoRow.holds Tryz.pinned (OpenSpec.upto earlyNamesSpec)

/-- 'platenlaw12.EarlyLabels', WHERE WHAT IT READS IS OF BULK AT MOST 1048576: true; the input reads as it did. -/
def earlyLabelsUptoRow : OpenClaim := { program := "ytakmbfkehnfgaaagreatdoor", sum := "7e4bdba05604f89d4cabcf4bc572e2eb0230a47ed943bf5bd1761a13dd6da721", func := "platen/platenlaw12.EarlyLabels", spec := "earlyLabels", inPlace := ["internal/bytealg.IndexByteString", "internal/bytealg.CountString", "internal/bytealg.IndexString", "internal/abi.NoEscape", "internal/bytealg.MakeNoZero", "internal/reflectlite.ValueOf", "(internal/reflectlite.Value).Type", "(internal/reflectlite.Value).IsNil", "internal/reflectlite.TypeOf", "(internal/reflectlite.Value).Elem", "(internal/reflectlite.Value).Set"], unfollowed := true, recurses := true, named := ["unicode/utf8.first", "unicode/utf8.acceptRanges", "internal/bytealg.MaxLen", "strings.asciiSpace", "unicode.White_Space", "errors.errorType"], apart := false, laid := [("unicode/utf8.first", laid_unicode_utf8_first), ("unicode/utf8.acceptRanges", laid_unicode_utf8_acceptRanges), ("strings.asciiSpace", laid_strings_asciiSpace), ("unicode.White_Space", laid_unicode_White_Space), ("errors.errorType", laid_errors_errorType)], narrowed := true }
def EarlyLabelsUptoSaid : Prop := earlyLabelsUptoRow.holds Tryz.pinned (OpenSpec.upto earlyLabelsSpec)

/-- 'platenlaw12.EarlyPrivates', WHERE WHAT IT READS IS OF BULK AT MOST 1048576: true; the input reads as it did. -/
def earlyPrivatesUptoRow : OpenClaim := { program := "ytakmbfkehnfgaaagreatdoor", sum := "7e4bdba05604f89d4cabcf4bc572e2eb0230a47ed943bf5bd1761a13dd6da721", func := "platen/platenlaw12.EarlyPrivates", spec := "earlyPrivates", inPlace := ["internal/bytealg.IndexByteString", "internal/bytealg.CountString", "internal/bytealg.IndexString", "internal/abi.NoEscape", "internal/bytealg.MakeNoZero", "internal/reflectlite.ValueOf", "(internal/reflectlite.Value).Type", "(internal/reflectlite.Value).IsNil", "internal/reflectlite.TypeOf", "(internal/reflectlite.Value).Elem", "(internal/reflectlite.Value).Set"], unfollowed := true, recurses := true, named := ["unicode/utf8.first", "unicode/utf8.acceptRanges", "internal/bytealg.MaxLen", "strings.asciiSpace", "unicode.White_Space", "errors.errorType"], apart := false, laid := [("unicode/utf8.first", laid_unicode_utf8_first), ("unicode/utf8.acceptRanges", laid_unicode_utf8_acceptRanges), ("strings.asciiSpace", laid_strings_asciiSpace), ("unicode.White_Space", laid_unicode_White_Space), ("errors.errorType", laid_errors_errorType)], narrowed := true }
def EarlyPrivatesUptoSaid : Prop := earlyPrivatesUptoRow.holds Tryz.pinned (OpenSpec.upto earlyPrivatesSpec)

/-- 'platenlaw12.EarlySupers', WHERE WHAT IT READS IS OF BULK AT MOST 1048576: true; the input reads as it did. -/
def earlySupersUptoRow : OpenClaim := { program := "ytakmbfkehnfgaaagreatdoor", sum := "7e4bdba05604f89d4cabcf4bc572e2eb0230a47ed943bf5bd1761a13dd6da721", func := "platen/platenlaw12.EarlySupers", spec := "earlySupers", inPlace := ["internal/bytealg.IndexByteString", "internal/bytealg.CountString", "internal/bytealg.IndexString", "internal/abi.NoEscape", "internal/bytealg.MakeNoZero", "internal/reflectlite.ValueOf", "(internal/reflectlite.Value).Type", "(internal/reflectlite.Value).IsNil", "internal/reflectlite.TypeOf", "(internal/reflectlite.Value).Elem", "(internal/reflectlite.Value).Set"], unfollowed := true, recurses := true, named := ["unicode/utf8.first", "unicode/utf8.acceptRanges", "internal/bytealg.MaxLen", "strings.asciiSpace", "unicode.White_Space", "errors.errorType"], apart := false, laid := [("unicode/utf8.first", laid_unicode_utf8_first), ("unicode/utf8.acceptRanges", laid_unicode_utf8_acceptRanges), ("strings.asciiSpace", laid_strings_asciiSpace), ("unicode.White_Space", laid_unicode_White_Space), ("errors.errorType", laid_errors_errorType)], narrowed := true }
def EarlySupersUptoSaid : Prop := earlySupersUptoRow.holds Tryz.pinned (OpenSpec.upto earlySupersSpec)

/-- 'platenlaw12.EarlyStrict', WHERE WHAT IT READS IS OF BULK AT MOST 1048576: true; the input reads as it did. -/
def earlyStrictUptoRow : OpenClaim := { program := "ytakmbfkehnfgaaagreatdoor", sum := "7e4bdba05604f89d4cabcf4bc572e2eb0230a47ed943bf5bd1761a13dd6da721", func := "platen/platenlaw12.EarlyStrict", spec := "earlyStrict", inPlace := ["internal/bytealg.IndexByteString", "internal/bytealg.CountString", "internal/bytealg.IndexString", "internal/abi.NoEscape", "internal/bytealg.MakeNoZero", "internal/reflectlite.ValueOf", "(internal/reflectlite.Value).Type", "(internal/reflectlite.Value).IsNil", "internal/reflectlite.TypeOf", "(internal/reflectlite.Value).Elem", "(internal/reflectlite.Value).Set"], unfollowed := true, recurses := true, named := ["unicode/utf8.first", "unicode/utf8.acceptRanges", "internal/bytealg.MaxLen", "strings.asciiSpace", "unicode.White_Space", "errors.errorType"], apart := false, laid := [("unicode/utf8.first", laid_unicode_utf8_first), ("unicode/utf8.acceptRanges", laid_unicode_utf8_acceptRanges), ("strings.asciiSpace", laid_strings_asciiSpace), ("unicode.White_Space", laid_unicode_White_Space), ("errors.errorType", laid_errors_errorType)], narrowed := true }
def EarlyStrictUptoSaid : Prop := earlyStrictUptoRow.holds Tryz.pinned (OpenSpec.upto earlyStrictSpec)

/-- 'platenlaw12.EarlyDeletes', WHERE WHAT IT READS IS OF BULK AT MOST 1048576: true; the input reads as it did. -/
def earlyDeletesUptoRow : OpenClaim := { program := "ytakmbfkehnfgaaagreatdoor", sum := "7e4bdba05604f89d4cabcf4bc572e2eb0230a47ed943bf5bd1761a13dd6da721", func := "platen/platenlaw12.EarlyDeletes", spec := "earlyDeletes", inPlace := ["internal/bytealg.IndexByteString", "internal/bytealg.CountString", "internal/bytealg.IndexString", "internal/abi.NoEscape", "internal/bytealg.MakeNoZero", "internal/reflectlite.ValueOf", "(internal/reflectlite.Value).Type", "(internal/reflectlite.Value).IsNil", "internal/reflectlite.TypeOf", "(internal/reflectlite.Value).Elem", "(internal/reflectlite.Value).Set"], unfollowed := true, recurses := true, named := ["unicode/utf8.first", "unicode/utf8.acceptRanges", "internal/bytealg.MaxLen", "strings.asciiSpace", "unicode.White_Space", "errors.errorType"], apart := false, laid := [("unicode/utf8.first", laid_unicode_utf8_first), ("unicode/utf8.acceptRanges", laid_unicode_utf8_acceptRanges), ("strings.asciiSpace", laid_strings_asciiSpace), ("unicode.White_Space", laid_unicode_White_Space), ("errors.errorType", laid_errors_errorType)], narrowed := true }
def EarlyDeletesUptoSaid : Prop := earlyDeletesUptoRow.holds Tryz.pinned (OpenSpec.upto earlyDeletesSpec)

/-- 'platenlaw12.EarlyReturns', WHERE WHAT IT READS IS OF BULK AT MOST 1048576: true; the input reads as it did. -/
def earlyReturnsUptoRow : OpenClaim := { program := "ytakmbfkehnfgaaagreatdoor", sum := "7e4bdba05604f89d4cabcf4bc572e2eb0230a47ed943bf5bd1761a13dd6da721", func := "platen/platenlaw12.EarlyReturns", spec := "earlyReturns", inPlace := ["internal/bytealg.IndexByteString", "internal/bytealg.CountString", "internal/bytealg.IndexString", "internal/abi.NoEscape", "internal/bytealg.MakeNoZero", "internal/reflectlite.ValueOf", "(internal/reflectlite.Value).Type", "(internal/reflectlite.Value).IsNil", "internal/reflectlite.TypeOf", "(internal/reflectlite.Value).Elem", "(internal/reflectlite.Value).Set"], unfollowed := true, recurses := true, named := ["unicode/utf8.first", "unicode/utf8.acceptRanges", "internal/bytealg.MaxLen", "strings.asciiSpace", "unicode.White_Space", "errors.errorType"], apart := false, laid := [("unicode/utf8.first", laid_unicode_utf8_first), ("unicode/utf8.acceptRanges", laid_unicode_utf8_acceptRanges), ("strings.asciiSpace", laid_strings_asciiSpace), ("unicode.White_Space", laid_unicode_White_Space), ("errors.errorType", laid_errors_errorType)], narrowed := true }
def EarlyReturnsUptoSaid : Prop := earlyReturnsUptoRow.holds Tryz.pinned (OpenSpec.upto earlyReturnsSpec)

/-- 'platenlaw12.EarlyWaits', WHERE WHAT IT READS IS OF BULK AT MOST 1048576: true; the input reads as it did. -/
def earlyWaitsUptoRow : OpenClaim := { program := "ytakmbfkehnfgaaagreatdoor", sum := "7e4bdba05604f89d4cabcf4bc572e2eb0230a47ed943bf5bd1761a13dd6da721", func := "platen/platenlaw12.EarlyWaits", spec := "earlyWaits", inPlace := ["internal/bytealg.IndexByteString", "internal/bytealg.CountString", "internal/bytealg.IndexString", "internal/abi.NoEscape", "internal/bytealg.MakeNoZero", "internal/reflectlite.ValueOf", "(internal/reflectlite.Value).Type", "(internal/reflectlite.Value).IsNil", "internal/reflectlite.TypeOf", "(internal/reflectlite.Value).Elem", "(internal/reflectlite.Value).Set"], unfollowed := true, recurses := true, named := ["unicode/utf8.first", "unicode/utf8.acceptRanges", "internal/bytealg.MaxLen", "strings.asciiSpace", "unicode.White_Space", "errors.errorType"], apart := false, laid := [("unicode/utf8.first", laid_unicode_utf8_first), ("unicode/utf8.acceptRanges", laid_unicode_utf8_acceptRanges), ("strings.asciiSpace", laid_strings_asciiSpace), ("unicode.White_Space", laid_unicode_White_Space), ("errors.errorType", laid_errors_errorType)], narrowed := true }
def EarlyWaitsUptoSaid : Prop := earlyWaitsUptoRow.holds Tryz.pinned (OpenSpec.upto earlyWaitsSpec)

end Rows
end Go.Proofs.YtakmbfkehnfgaaaGreatDoor
