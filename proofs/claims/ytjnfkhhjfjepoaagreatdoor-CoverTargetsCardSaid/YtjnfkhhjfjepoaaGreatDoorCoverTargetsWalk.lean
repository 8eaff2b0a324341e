/- The law CoverTargets returns true whatever the arguments are: by their residues. No condition beyond the listed variables. -/
import Derived.Test.YtjnfkhhjfjepoaaGreatDoorCoverTargetsRun0
import Derived.Test.YtjnfkhhjfjepoaaGreatDoorCoverTargetsRun1
import Derived.Test.YtjnfkhhjfjepoaaGreatDoorCoverTargetsRun2
import Derived.Test.YtjnfkhhjfjepoaaGreatDoorCoverTargetsRun3
import Derived.Test.YtjnfkhhjfjepoaaGreatDoorCoverTargetsRun4
import Derived.Test.YtjnfkhhjfjepoaaGreatDoorCoverTargetsRun5
import Derived.Test.YtjnfkhhjfjepoaaGreatDoorCoverTargetsRun6
import Derived.Test.YtjnfkhhjfjepoaaGreatDoorCoverTargetsRun7
namespace Go.Proofs.YtjnfkhhjfjepoaaGreatDoor
open Go Go.Ev
theorem tab_okCoverTargets {W : World} [Sig] (h : laidMetH Tryz.prog Rows.coverTargetsRow.laid W) : TabsOk W tabs := by
  have h' : laidMet Tryz.prog [("unicode/utf8.acceptRanges", Rows.laid_unicode_utf8_acceptRanges), ("unicode.White_Space", Rows.laid_unicode_White_Space), ("strings.asciiSpace", Rows.laid_strings_asciiSpace), ("unicode/utf8.first", Rows.laid_unicode_utf8_first)] W ∧ handlesMet Tryz.prog [("errors.errorType", Rows.laid_errors_errorType)] W := h
  obtain ⟨⟨ps, ⟨_, _, _, _, _, _, _, _, _, _, ⟨_, _, _, _, _, _, _, _, _, _, ⟨g, t, cs, f, p, q, hg, ht, hv, hd, _, _⟩, _⟩, _⟩, _, _⟩, hh⟩ := h'
  obtain rfl := Option.some.inj ((show Tryz.prog.globalNamed "strings.asciiSpace" = some 1 by kernel_rfl).symm.trans hg)
  obtain rfl := Option.some.inj ((show (Tryz.prog.globals[1]?).map (·.type) = some 192 by kernel_rfl).symm.trans ht)
  rw [ks_eq] at hd
  have h1 : TabOk W tab := tab_of_var (by kernel_rfl) hg (by decide) hv Tryz.underlying192 Tryz.underlying5 (by kernel_rfl) hd
  intro x hx
  rcases List.mem_cons.1 hx with rfl | hx
  · exact h1
  · obtain rfl := List.mem_singleton.1 hx
    exact htab_ok hh
namespace CoverTargetsW
theorem at_ (a0 : Int) (a1 : Int) (r0 r1 : Nat) (w : World) (hL : laidMetH Tryz.prog Rows.coverTargetsRow.laid w) (h0 : SymOk 0 10 r0 a0) (h1 : SymOk 4 8 r1 a1)
    (hv0 : ∀ v0 : Nat → Nat → Nat → Nat → Int, decV (Go.Ev.valOf v0) (symC 0 0 10 r0) = v0 0 0 10 r0) (hv1 : ∀ v0 : Nat → Nat → Nat → Nat → Int, decV (Go.Ev.valOf v0) (symC 4 1 8 r1) = v0 4 1 8 r1)
    (hrun : isV (.bool true) ((fnsF Tryz.prog orc2 3000).call 3 [.int .i64 (symC 0 0 10 r0), .int .i64 (symC 4 1 8 r1)] (hInit tabs)) = true) :
    Calls Tryz.prog 3 #[.int .i64 a0, .int .i64 a1] w fun e w' => e = .returned (.bool true) ∧ Keeps w w' := by
  letI : Sig := sigOf (symVal [⟨0, 0, 10, r0, a0⟩, ⟨4, 1, 8, r1, a1⟩]) (symVal_ok (fun s hs => by
    simp only [List.mem_cons, List.not_mem_nil, or_false] at hs
    rcases hs with rfl | rfl
    · exact h0
    · exact h1))
  have ht := tab_okCoverTargets hL
  refine run_trueF progOk (orc2_ok w ht) ht (us := [.int .i64 a0, .int .i64 a1]) (args := [.int .i64 (symC 0 0 10 r0), .int .i64 (symC 4 1 8 r1)]) (n := 3000) ?_ hrun
  have hd0 : dec (symC 0 0 10 r0) = a0 := (hv0 _).trans (by simp [symVal])
  have hd1 : dec (symC 4 1 8 r1) = a1 := (hv1 _).trans (by simp [symVal])
  simp only [cvL, cv, hd0, hd1]
theorem hv0 (r : Nat) (h : r < 10) : ∀ v0 : Nat → Nat → Nat → Nat → Int, decV (Go.Ev.valOf v0) (symC 0 0 10 r) = v0 0 0 10 r := by
  rcases (show r = 0 ∨ r = 1 ∨ r = 2 ∨ r = 3 ∨ r = 4 ∨ r = 5 ∨ r = 6 ∨ r = 7 ∨ r = 8 ∨ r = 9 by omega) with rfl | rfl | rfl | rfl | rfl | rfl | rfl | rfl | rfl | rfl <;> exact fun _ => rfl
theorem hv1 (r : Nat) (h : r < 8) : ∀ v0 : Nat → Nat → Nat → Nat → Int, decV (Go.Ev.valOf v0) (symC 4 1 8 r) = v0 4 1 8 r := by
  rcases (show r = 0 ∨ r = 1 ∨ r = 2 ∨ r = 3 ∨ r = 4 ∨ r = 5 ∨ r = 6 ∨ r = 7 by omega) with rfl | rfl | rfl | rfl | rfl | rfl | rfl | rfl <;> exact fun _ => rfl
theorem all (r0 : Nat) (l0 : r0 < 10) (r1 : Nat) (l1 : r1 < 8) : isV (.bool true) ((fnsF Tryz.prog orc2 3000).call 3 [.int .i64 (symC 0 0 10 r0), .int .i64 (symC 4 1 8 r1)] (hInit tabs)) = true := by
  rcases (show r0 = 0 ∨ r0 = 1 ∨ r0 = 2 ∨ r0 = 3 ∨ r0 = 4 ∨ r0 = 5 ∨ r0 = 6 ∨ r0 = 7 ∨ r0 = 8 ∨ r0 = 9 by omega) with rfl | rfl | rfl | rfl | rfl | rfl | rfl | rfl | rfl | rfl
  · rcases (show r1 = 0 ∨ r1 = 1 ∨ r1 = 2 ∨ r1 = 3 ∨ r1 = 4 ∨ r1 = 5 ∨ r1 = 6 ∨ r1 = 7 by omega) with rfl | rfl | rfl | rfl | rfl | rfl | rfl | rfl
    · exact runCoverTargets_0_0
    · exact runCoverTargets_0_1
    · exact runCoverTargets_0_2
    · exact runCoverTargets_0_3
    · exact runCoverTargets_0_4
    · exact runCoverTargets_0_5
    · exact runCoverTargets_0_6
    · exact runCoverTargets_0_7
  · rcases (show r1 = 0 ∨ r1 = 1 ∨ r1 = 2 ∨ r1 = 3 ∨ r1 = 4 ∨ r1 = 5 ∨ r1 = 6 ∨ r1 = 7 by omega) with rfl | rfl | rfl | rfl | rfl | rfl | rfl | rfl
    · exact runCoverTargets_1_0
    · exact runCoverTargets_1_1
    · exact runCoverTargets_1_2
    · exact runCoverTargets_1_3
    · exact runCoverTargets_1_4
    · exact runCoverTargets_1_5
    · exact runCoverTargets_1_6
    · exact runCoverTargets_1_7
  · rcases (show r1 = 0 ∨ r1 = 1 ∨ r1 = 2 ∨ r1 = 3 ∨ r1 = 4 ∨ r1 = 5 ∨ r1 = 6 ∨ r1 = 7 by omega) with rfl | rfl | rfl | rfl | rfl | rfl | rfl | rfl
    · exact runCoverTargets_2_0
    · exact runCoverTargets_2_1
    · exact runCoverTargets_2_2
    · exact runCoverTargets_2_3
    · exact runCoverTargets_2_4
    · exact runCoverTargets_2_5
    · exact runCoverTargets_2_6
    · exact runCoverTargets_2_7
  · rcases (show r1 = 0 ∨ r1 = 1 ∨ r1 = 2 ∨ r1 = 3 ∨ r1 = 4 ∨ r1 = 5 ∨ r1 = 6 ∨ r1 = 7 by omega) with rfl | rfl | rfl | rfl | rfl | rfl | rfl | rfl
    · exact runCoverTargets_3_0
    · exact runCoverTargets_3_1
    · exact runCoverTargets_3_2
    · exact runCoverTargets_3_3
    · exact runCoverTargets_3_4
    · exact runCoverTargets_3_5
    · exact runCoverTargets_3_6
    · exact runCoverTargets_3_7
  · rcases (show r1 = 0 ∨ r1 = 1 ∨ r1 = 2 ∨ r1 = 3 ∨ r1 = 4 ∨ r1 = 5 ∨ r1 = 6 ∨ r1 = 7 by omega) with rfl | rfl | rfl | rfl | rfl | rfl | rfl | rfl
    · exact runCoverTargets_4_0
    · exact runCoverTargets_4_1
    · exact runCoverTargets_4_2
    · exact runCoverTargets_4_3
    · exact runCoverTargets_4_4
    · exact runCoverTargets_4_5
    · exact runCoverTargets_4_6
    · exact runCoverTargets_4_7
  · rcases (show r1 = 0 ∨ r1 = 1 ∨ r1 = 2 ∨ r1 = 3 ∨ r1 = 4 ∨ r1 = 5 ∨ r1 = 6 ∨ r1 = 7 by omega) with rfl | rfl | rfl | rfl | rfl | rfl | rfl | rfl
    · exact runCoverTargets_5_0
    · exact runCoverTargets_5_1
    · exact runCoverTargets_5_2
    · exact runCoverTargets_5_3
    · exact runCoverTargets_5_4
    · exact runCoverTargets_5_5
    · exact runCoverTargets_5_6
    · exact runCoverTargets_5_7
  · rcases (show r1 = 0 ∨ r1 = 1 ∨ r1 = 2 ∨ r1 = 3 ∨ r1 = 4 ∨ r1 = 5 ∨ r1 = 6 ∨ r1 = 7 by omega) with rfl | rfl | rfl | rfl | rfl | rfl | rfl | rfl
    · exact runCoverTargets_6_0
    · exact runCoverTargets_6_1
    · exact runCoverTargets_6_2
    · exact runCoverTargets_6_3
    · exact runCoverTargets_6_4
    · exact runCoverTargets_6_5
    · exact runCoverTargets_6_6
    · exact runCoverTargets_6_7
  · rcases (show r1 = 0 ∨ r1 = 1 ∨ r1 = 2 ∨ r1 = 3 ∨ r1 = 4 ∨ r1 = 5 ∨ r1 = 6 ∨ r1 = 7 by omega) with rfl | rfl | rfl | rfl | rfl | rfl | rfl | rfl
    · exact runCoverTargets_7_0
    · exact runCoverTargets_7_1
    · exact runCoverTargets_7_2
    · exact runCoverTargets_7_3
    · exact runCoverTargets_7_4
    · exact runCoverTargets_7_5
    · exact runCoverTargets_7_6
    · exact runCoverTargets_7_7
  · rcases (show r1 = 0 ∨ r1 = 1 ∨ r1 = 2 ∨ r1 = 3 ∨ r1 = 4 ∨ r1 = 5 ∨ r1 = 6 ∨ r1 = 7 by omega) with rfl | rfl | rfl | rfl | rfl | rfl | rfl | rfl
    · exact runCoverTargets_8_0
    · exact runCoverTargets_8_1
    · exact runCoverTargets_8_2
    · exact runCoverTargets_8_3
    · exact runCoverTargets_8_4
    · exact runCoverTargets_8_5
    · exact runCoverTargets_8_6
    · exact runCoverTargets_8_7
  · rcases (show r1 = 0 ∨ r1 = 1 ∨ r1 = 2 ∨ r1 = 3 ∨ r1 = 4 ∨ r1 = 5 ∨ r1 = 6 ∨ r1 = 7 by omega) with rfl | rfl | rfl | rfl | rfl | rfl | rfl | rfl
    · exact runCoverTargets_9_0
    · exact runCoverTargets_9_1
    · exact runCoverTargets_9_2
    · exact runCoverTargets_9_3
    · exact runCoverTargets_9_4
    · exact runCoverTargets_9_5
    · exact runCoverTargets_9_6
    · exact runCoverTargets_9_7
end CoverTargetsW
theorem walkCoverTargets (a0 : Int) (a1 : Int) (w : World) (hL : laidMetH Tryz.prog Rows.coverTargetsRow.laid w) : Calls Tryz.prog 3 #[.int .i64 a0, .int .i64 a1] w fun e w' => e = .returned (.bool true) ∧ Keeps w w' := by
  obtain ⟨r0, l0, h0⟩ := symOk_ex 0 10 (by decide) (by decide) a0
  obtain ⟨r1, l1, h1⟩ := symOk_ex 4 8 (by decide) (by decide) a1
  exact CoverTargetsW.at_ a0 a1 r0 r1 w hL h0 h1 (CoverTargetsW.hv0 r0 l0) (CoverTargetsW.hv1 r1 l1) (CoverTargetsW.all r0 l0 r1 l1)
end Go.Proofs.YtjnfkhhjfjepoaaGreatDoor
