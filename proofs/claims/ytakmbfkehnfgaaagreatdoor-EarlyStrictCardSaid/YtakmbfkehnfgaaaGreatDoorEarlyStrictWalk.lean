/- The law EarlyStrict returns true whatever the arguments are: by their residues. No condition beyond the listed variables. -/
import Derived.Test.YtakmbfkehnfgaaaGreatDoorEarlyStrictRun0
import Derived.Test.YtakmbfkehnfgaaaGreatDoorEarlyStrictRun1
import Derived.Test.YtakmbfkehnfgaaaGreatDoorEarlyStrictRun2
namespace Go.Proofs.YtakmbfkehnfgaaaGreatDoor
open Go Go.Ev
theorem tab_okEarlyStrict {W : World} [Sig] (h : laidMetH Tryz.prog Rows.earlyStrictRow.laid W) : TabsOk W tabs := by
  have h' : laidMet Tryz.prog [("unicode/utf8.first", Rows.laid_unicode_utf8_first), ("unicode/utf8.acceptRanges", Rows.laid_unicode_utf8_acceptRanges), ("strings.asciiSpace", Rows.laid_strings_asciiSpace), ("unicode.White_Space", Rows.laid_unicode_White_Space)] W ∧ handlesMet Tryz.prog [("errors.errorType", Rows.laid_errors_errorType)] W := h
  obtain ⟨⟨ps, ⟨_, _, _, _, _, _, _, _, _, _, ⟨_, _, _, _, _, _, _, _, _, _, ⟨g, t, cs, f, p, q, hg, ht, hv, hd, _, _⟩, _⟩, _⟩, _, _⟩, hh⟩ := h'
  obtain rfl := Option.some.inj ((show Tryz.prog.globalNamed "strings.asciiSpace" = some 3 by kernel_rfl).symm.trans hg)
  obtain rfl := Option.some.inj ((show (Tryz.prog.globals[3]?).map (·.type) = some 250 by kernel_rfl).symm.trans ht)
  rw [ks_eq] at hd
  have h1 : TabOk W tab := tab_of_var (by kernel_rfl) hg (by decide) hv Tryz.underlying250 Tryz.underlying5 (by kernel_rfl) hd
  intro x hx
  obtain rfl := List.mem_singleton.1 hx
  exact h1
namespace EarlyStrictW
theorem at_ (a0 : Int) (a1 : Int) (r0 r1 : Nat) (w : World) (hL : laidMetH Tryz.prog Rows.earlyStrictRow.laid w) (h0 : SymOk 0 3 r0 a0) (h1 : SymOk 0 9 r1 a1)
    (hv0 : ∀ v0 : Nat → Nat → Nat → Nat → Int, decV (Go.Ev.valOf v0) (symC 0 0 3 r0) = v0 0 0 3 r0) (hv1 : ∀ v0 : Nat → Nat → Nat → Nat → Int, decV (Go.Ev.valOf v0) (symC 0 1 9 r1) = v0 0 1 9 r1)
    (hrun : isV (.bool true) ((fnsF Tryz.prog orc2 3000).call 7 [.int .i64 (symC 0 0 3 r0), .int .i64 (symC 0 1 9 r1)] (hInit tabs)) = true) :
    Calls Tryz.prog 7 #[.int .i64 a0, .int .i64 a1] w fun e w' => e = .returned (.bool true) ∧ Keeps w w' := by
  letI : Sig := sigOf (symVal [⟨0, 0, 3, r0, a0⟩, ⟨0, 1, 9, r1, a1⟩]) (symVal_ok (fun s hs => by
    simp only [List.mem_cons, List.not_mem_nil, or_false] at hs
    rcases hs with rfl | rfl
    · exact h0
    · exact h1))
  have ht := tab_okEarlyStrict hL
  refine run_trueF progOk (orc2_ok w ht) ht (us := [.int .i64 a0, .int .i64 a1]) (args := [.int .i64 (symC 0 0 3 r0), .int .i64 (symC 0 1 9 r1)]) (n := 3000) ?_ hrun
  have hd0 : dec (symC 0 0 3 r0) = a0 := (hv0 _).trans (by simp [symVal])
  have hd1 : dec (symC 0 1 9 r1) = a1 := (hv1 _).trans (by simp [symVal])
  simp only [cvL, cv, hd0, hd1]
theorem hv0 (r : Nat) (h : r < 3) : ∀ v0 : Nat → Nat → Nat → Nat → Int, decV (Go.Ev.valOf v0) (symC 0 0 3 r) = v0 0 0 3 r := by
  rcases (show r = 0 ∨ r = 1 ∨ r = 2 by omega) with rfl | rfl | rfl <;> exact fun _ => rfl
theorem hv1 (r : Nat) (h : r < 9) : ∀ v0 : Nat → Nat → Nat → Nat → Int, decV (Go.Ev.valOf v0) (symC 0 1 9 r) = v0 0 1 9 r := by
  rcases (show r = 0 ∨ r = 1 ∨ r = 2 ∨ r = 3 ∨ r = 4 ∨ r = 5 ∨ r = 6 ∨ r = 7 ∨ r = 8 by omega) with rfl | rfl | rfl | rfl | rfl | rfl | rfl | rfl | rfl <;> exact fun _ => rfl
theorem all (r0 : Nat) (l0 : r0 < 3) (r1 : Nat) (l1 : r1 < 9) : isV (.bool true) ((fnsF Tryz.prog orc2 3000).call 7 [.int .i64 (symC 0 0 3 r0), .int .i64 (symC 0 1 9 r1)] (hInit tabs)) = true := by
  rcases (show r0 = 0 ∨ r0 = 1 ∨ r0 = 2 by omega) with rfl | rfl | rfl
  · rcases (show r1 = 0 ∨ r1 = 1 ∨ r1 = 2 ∨ r1 = 3 ∨ r1 = 4 ∨ r1 = 5 ∨ r1 = 6 ∨ r1 = 7 ∨ r1 = 8 by omega) with rfl | rfl | rfl | rfl | rfl | rfl | rfl | rfl | rfl
    · exact runEarlyStrict_0_0
    · exact runEarlyStrict_0_1
    · exact runEarlyStrict_0_2
    · exact runEarlyStrict_0_3
    · exact runEarlyStrict_0_4
    · exact runEarlyStrict_0_5
    · exact runEarlyStrict_0_6
    · exact runEarlyStrict_0_7
    · exact runEarlyStrict_0_8
  · rcases (show r1 = 0 ∨ r1 = 1 ∨ r1 = 2 ∨ r1 = 3 ∨ r1 = 4 ∨ r1 = 5 ∨ r1 = 6 ∨ r1 = 7 ∨ r1 = 8 by omega) with rfl | rfl | rfl | rfl | rfl | rfl | rfl | rfl | rfl
    · exact runEarlyStrict_1_0
    · exact runEarlyStrict_1_1
    · exact runEarlyStrict_1_2
    · exact runEarlyStrict_1_3
    · exact runEarlyStrict_1_4
    · exact runEarlyStrict_1_5
    · exact runEarlyStrict_1_6
    · exact runEarlyStrict_1_7
    · exact runEarlyStrict_1_8
  · rcases (show r1 = 0 ∨ r1 = 1 ∨ r1 = 2 ∨ r1 = 3 ∨ r1 = 4 ∨ r1 = 5 ∨ r1 = 6 ∨ r1 = 7 ∨ r1 = 8 by omega) with rfl | rfl | rfl | rfl | rfl | rfl | rfl | rfl | rfl
    · exact runEarlyStrict_2_0
    · exact runEarlyStrict_2_1
    · exact runEarlyStrict_2_2
    · exact runEarlyStrict_2_3
    · exact runEarlyStrict_2_4
    · exact runEarlyStrict_2_5
    · exact runEarlyStrict_2_6
    · exact runEarlyStrict_2_7
    · exact runEarlyStrict_2_8
end EarlyStrictW
theorem walkEarlyStrict (a0 : Int) (a1 : Int) (w : World) (hL : laidMetH Tryz.prog Rows.earlyStrictRow.laid w) : Calls Tryz.prog 7 #[.int .i64 a0, .int .i64 a1] w fun e w' => e = .returned (.bool true) ∧ Keeps w w' := by
  obtain ⟨r0, l0, h0⟩ := symOk_ex 0 3 (by decide) (by decide) a0
  obtain ⟨r1, l1, h1⟩ := symOk_ex 0 9 (by decide) (by decide) a1
  exact EarlyStrictW.at_ a0 a1 r0 r1 w hL h0 h1 (EarlyStrictW.hv0 r0 l0) (EarlyStrictW.hv1 r1 l1) (EarlyStrictW.all r0 l0 r1 l1)
end Go.Proofs.YtakmbfkehnfgaaaGreatDoor
