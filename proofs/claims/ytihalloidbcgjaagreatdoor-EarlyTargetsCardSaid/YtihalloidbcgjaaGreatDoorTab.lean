/- The table of blanks as it lies in memory, the list of punctuators (a closed call's answer), and what the evaluator asks of the program. No condition beyond the row's own. -/
import Derived.Test.YtihalloidbcgjaaGreatDoorRows
import Derived.Test.YtihalloidbcgjaaGreatDoorEvSig
namespace Go.Proofs.YtihalloidbcgjaaGreatDoor
open Go Go.Ev
set_option linter.unusedSectionVars false
variable [Sig]

set_option maxRecDepth 100000 in
def ks : List Int := [0, 0, 0, 0, 0, 0, 0, 0, 0, 1, 1, 1, 1, 1, 0, 0, 0, 0, 0, 0, 0, 0, 0, 0, 0, 0, 0, 0, 0, 0, 0, 0, 1, 0, 0, 0, 0, 0, 0, 0, 0, 0, 0, 0, 0, 0, 0, 0, 0, 0, 0, 0, 0, 0, 0, 0, 0, 0, 0, 0, 0, 0, 0, 0, 0, 0, 0, 0, 0, 0, 0, 0, 0, 0, 0, 0, 0, 0, 0, 0, 0, 0, 0, 0, 0, 0, 0, 0, 0, 0, 0, 0, 0, 0, 0, 0, 0, 0, 0, 0, 0, 0, 0, 0, 0, 0, 0, 0, 0, 0, 0, 0, 0, 0, 0, 0, 0, 0, 0, 0, 0, 0, 0, 0, 0, 0, 0, 0, 0, 0, 0, 0, 0, 0, 0, 0, 0, 0, 0, 0, 0, 0, 0, 0, 0, 0, 0, 0, 0, 0, 0, 0, 0, 0, 0, 0, 0, 0, 0, 0, 0, 0, 0, 0, 0, 0, 0, 0, 0, 0, 0, 0, 0, 0, 0, 0, 0, 0, 0, 0, 0, 0, 0, 0, 0, 0, 0, 0, 0, 0, 0, 0, 0, 0, 0, 0, 0, 0, 0, 0, 0, 0, 0, 0, 0, 0, 0, 0, 0, 0, 0, 0, 0, 0, 0, 0, 0, 0, 0, 0, 0, 0, 0, 0, 0, 0, 0, 0, 0, 0, 0, 0, 0, 0, 0, 0, 0, 0, 0, 0, 0, 0, 0, 0, 0, 0, 0, 0, 0, 0, 0, 0, 0, 0, 0, 0]
set_option maxRecDepth 100000 in
theorem ks_eq : (Rows.laid_strings_asciiSpace : DataW Unit) = .agg (ks.map fun m => .lit (.int .u8 m)) := by kernel_rfl
def tab : Tab := ⟨3, ks.map fun m => .int .u8 m⟩
def pwords : List AV := [.str 4 1027489342, .str 3 3026478, .str 3 4013373, .str 3 4013345, .str 3 4008490, .str 3 4013116, .str 3 4013630, .str 3 4079166, .str 3 4007462, .str 3 4029564, .str 3 4013887, .str 2 15676, .str 2 15678, .str 2 15677, .str 2 15649, .str 2 10794, .str 2 11051, .str 2 11565, .str 2 15420, .str 2 15934, .str 2 9766, .str 2 31868, .str 2 16191, .str 2 11839, .str 2 15659, .str 2 15661, .str 2 15658, .str 2 15653, .str 2 15654, .str 2 15740, .str 2 15710, .str 2 15933, .str 1 123, .str 1 125, .str 1 40, .str 1 41, .str 1 91, .str 1 93, .str 1 46, .str 1 59, .str 1 44, .str 1 60, .str 1 62, .str 1 43, .str 1 45, .str 1 42, .str 1 37, .str 1 38, .str 1 124, .str 1 94, .str 1 33, .str 1 126, .str 1 63, .str 1 58, .str 1 61]

theorem progOk : ProgOk Tryz.prog := by
  refine ⟨?_, by kernel_rfl⟩
  have h : (Tryz.prog.funcs.toList.all fun fn => !(fn.body.isSome && (fn.name == "runtime.NumGoroutine"))) = true := by kernel_rfl
  intro f fn hf hb
  have := List.all_eq_true.1 h fn (List.mem_of_getElem? (by simpa using hf))
  simpa [hb] using this
theorem p_ok : isRow pwords 9 55 ((fns Tryz.prog noOrc 300).call 248 [] (hInit [tab])) = true := by kernel_rfl
def orc : Orc := fun f args => match Nat.beq f 248 with
  | true => (match args with | [] => some (.row pwords 9 55) | _ => none)
  | false => none
theorem orc_ok : ∀ w, TabsOk w [tab] → OrcOk Tryz.prog w orc := by
  intro w ht f args ans h
  unfold orc at h
  split at h
  · rename_i hf
    have := Nat.eq_of_beq_eq_true hf
    subst this
    split at h
    · cases h
      obtain ⟨h1, h2⟩ := ans_row (l := [tab]) progOk (fun _ _ => noOrc_ok) (by kernel_rfl) rfl p_ok
      exact ⟨h1, h2 w ht⟩
    · cases h
  · cases h

theorem tab_ok {W : World} (h : laidMetH Tryz.prog Rows.earlyTargetsRow.laid W) : TabsOk W [tab] := by
  have h' : laidMet Tryz.prog [("unicode/utf8.first", Rows.laid_unicode_utf8_first), ("unicode/utf8.acceptRanges", Rows.laid_unicode_utf8_acceptRanges), ("strings.asciiSpace", Rows.laid_strings_asciiSpace), ("unicode.White_Space", Rows.laid_unicode_White_Space)] W ∧ handlesMet Tryz.prog [("errors.errorType", Rows.laid_errors_errorType)] W := h
  obtain ⟨⟨ps, ⟨_, _, _, _, _, _, _, _, _, _, ⟨_, _, _, _, _, _, _, _, _, _, ⟨g, t, cs, f, p, q, hg, ht, hv, hd, _, _⟩, _⟩, _⟩, _, _⟩, _⟩ := h'
  obtain rfl := Option.some.inj ((show Tryz.prog.globalNamed "strings.asciiSpace" = some 3 by kernel_rfl).symm.trans hg)
  obtain rfl := Option.some.inj ((show (Tryz.prog.globals[3]?).map (·.type) = some 244 by kernel_rfl).symm.trans ht)
  intro x hx
  obtain rfl := List.mem_singleton.1 hx
  rw [ks_eq] at hd
  exact tab_of_var (by kernel_rfl) hg (by decide) hv Tryz.underlying244 Tryz.underlying5 (by kernel_rfl) hd
end Go.Proofs.YtihalloidbcgjaaGreatDoor
