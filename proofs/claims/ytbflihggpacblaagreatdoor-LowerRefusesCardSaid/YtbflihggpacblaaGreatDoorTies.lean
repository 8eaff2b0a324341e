/- The listed variables are what the program's own text lays: the tie of the row, each closed fact by itself. No condition. -/
import Derived.Test.YtbflihggpacblaaGreatDoorTieG
import Derived.Test.YtbflihggpacblaaGreatDoorTieH
import Derived.Test.YtbflihggpacblaaGreatDoorTieI
import Derived.Test.YtbflihggpacblaaGreatDoorTieJ
import Derived.LaidByTextLater
import Derived.SevenTiedAt
namespace Go.Proofs.YtbflihggpacblaaGreatDoor
open Go
theorem tieA : Tryz.prog.worded (varsWordLater true) = true := by kernel_rfl
theorem tieB : Tryz.prog.worded (varsWordLater !true) = false := by kernel_rfl
theorem tieC : Tryz.prog.worded rootWordLater = true := by kernel_rfl
theorem tieD : lay.map (fun x => Tryz.prog.kindOfLater x.1) = ([.data, .data, .listed, .handle] : List LaidKind).map some := by kernel_rfl
theorem tieE : (Tryz.prog.funcNamed "gosem.cut.vars").isSome = true := by kernel_rfl
theorem tieF : varsNamedLaterB Tryz.prog (varsId Tryz.prog) lay = true := by kernel_rfl
theorem tie : Tryz.prog.laidByTextLater lay [.data, .data, .listed, .handle] true := Program.laidByTextLater_by_run_h 400 8 tieA tieB tieC tieD tieE tieF tieG tieH tieI tieJ
theorem pin_laid_unicode_utf8_first : Tryz.pinned.checked.prog.pinnedFits "unicode/utf8.first" = true := by kernel_rfl
theorem pin_laid_unicode_CaseRanges : Tryz.pinned.checked.prog.pinnedFits "unicode.CaseRanges" = true := by kernel_rfl
theorem noOwnUnsafe : Tryz.pinned.checked.prog.headLifts.contains "ownunsafe" = false := by kernel_rfl
theorem fits1 : Tryz.pinned.checked.prog.listedFits [("unicode/utf8.first", Rows.laid_unicode_utf8_first), ("unicode/utf8.acceptRanges", Rows.laid_unicode_utf8_acceptRanges), ("strings.asciiSpace", Rows.laid_strings_asciiSpace), ("unicode.White_Space", Rows.laid_unicode_White_Space), ("errors.errorType", Rows.laid_errors_errorType), ("unicode.CaseRanges", Rows.laid_unicode_CaseRanges)] = true := by
  unfold Program.listedFits
  rw [noOwnUnsafe]
  kernel_rfl
theorem lowerRefuses_row_tie : Rows.lowerRefusesRow.laidByTextAt .later Tryz.pinned [.pinned, .data, .data, .listed, .handle, .pinned] true :=
  OpenClaim.laidByTextAt_pinned rfl rfl tie rfl rfl rfl rfl (fun y hy _e => by
    simp only [Rows.lowerRefusesRow, List.zip_cons_cons, List.zip_nil_right, List.mem_cons, List.mem_nil_iff, or_false] at hy
    rcases hy with rfl | rfl | rfl | rfl | rfl | rfl
    · exact ⟨pin_laid_unicode_utf8_first, by kernel_rfl⟩
    · cases _e
    · cases _e
    · cases _e
    · cases _e
    · exact ⟨pin_laid_unicode_CaseRanges, by kernel_rfl⟩) fits1

end Go.Proofs.YtbflihggpacblaaGreatDoor
