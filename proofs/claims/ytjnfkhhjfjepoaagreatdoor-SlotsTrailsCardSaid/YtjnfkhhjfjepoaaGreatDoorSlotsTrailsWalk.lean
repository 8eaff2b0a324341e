/- The law SlotsTrails returns true whatever the arguments are: by their residues. No condition beyond the listed variables. -/
import Derived.Test.YtjnfkhhjfjepoaaGreatDoorSlotsTrailsRun0
import Derived.Test.YtjnfkhhjfjepoaaGreatDoorSlotsTrailsRun1
import Derived.Test.YtjnfkhhjfjepoaaGreatDoorSlotsTrailsRun2
import Derived.Test.YtjnfkhhjfjepoaaGreatDoorSlotsTrailsRun3
import Derived.Test.YtjnfkhhjfjepoaaGreatDoorSlotsTrailsRun4
import Derived.Test.YtjnfkhhjfjepoaaGreatDoorSlotsTrailsRun5
namespace Go.Proofs.YtjnfkhhjfjepoaaGreatDoor
open Go Go.Ev
theorem tab_okSlotsTrails {W : World} [Sig] (h : laidMetH Tryz.prog Rows.slotsTrailsRow.laid W) : TabsOk W tabs := by
  have h' : laidMet Tryz.prog [("unicode/utf8.acceptRanges", Rows.laid_unicode_utf8_acceptRanges), ("unicode.White_Space", Rows.laid_unicode_White_Space), ("strings.asciiSpace", Rows.laid_strings_asciiSpace), ("unicode/utf8.first", Rows.laid_unicode_utf8_first)] W ∧ handlesMet Tryz.prog [("errors.errorType", Rows.laid_errors_errorType)] W := h
  obtain ⟨⟨ps, ⟨_, _, _, _, _, _, _, _, _, _, ⟨_, _, _, _, _, _, _, _, _, _, ⟨g, t, cs, f, p, q, hg, ht, hv, hd, _, _⟩, _⟩, _⟩, _, _⟩, hh⟩ := h'
  obtain rfl := Option.some.inj ((show Tryz.prog.globalNamed "strings.asciiSpace" = some 1 by kernel_rfl).symm.trans hg)
  obtain rfl := Option.some.inj ((show (Tryz.prog.globals[1]?).map (·.type) = some 192 by kernel_rfl).symm.trans ht)
  rw [ks_eq] at hd
  have h1 : TabOk W tab := tab_of_var (by kernel_rfl) hg (by decide) hv Tryz.underlying192 Tryz.underlying5 (by kernel_rfl) hd
  intro x hx
  rcases List.mem_cons.1 hx with rfl | hx
  · exact h1
  · obtain rfl := List.mem_singleton.1 hx
    exact htab_ok hh
namespace SlotsTrailsW
theorem at_ (a0 : Int) (a1 : Int) (r0 r1 : Nat) (w : World) (hL : laidMetH Tryz.prog Rows.slotsTrailsRow.laid w) (h0 : SymOk 0 14 r0 a0) (h1 : SymOk 4 4 r1 a1)
    (hv0 : ∀ v0 : Nat → Nat → Nat → Nat → Int, decV (Go.Ev.valOf v0) (symC 0 0 14 r0) = v0 0 0 14 r0) (hv1 : ∀ v0 : Nat → Nat → Nat → Nat → Int, decV (Go.Ev.valOf v0) (symC 4 1 4 r1) = v0 4 1 4 r1)
    (hrun : isV (.bool true) ((fnsF Tryz.prog orc2 3000).call 5 [.int .i64 (symC 0 0 14 r0), .int .i64 (symC 4 1 4 r1)] (hInit tabs)) = true) :
    Calls Tryz.prog 5 #[.int .i64 a0, .int .i64 a1] w fun e w' => e = .returned (.bool true) ∧ Keeps w w' := by
  letI : Sig := sigOf (symVal [⟨0, 0, 14, r0, a0⟩, ⟨4, 1, 4, r1, a1⟩]) (symVal_ok (fun s hs => by
    simp only [List.mem_cons, List.not_mem_nil, or_false] at hs
    rcases hs with rfl | rfl
    · exact h0
    · exact h1))
  have ht := tab_okSlotsTrails hL
  refine run_trueF progOk (orc2_ok w ht) ht (us := [.int .i64 a0, .int .i64 a1]) (args := [.int .i64 (symC 0 0 14 r0), .int .i64 (symC 4 1 4 r1)]) (n := 3000) ?_ hrun
  have hd0 : dec (symC 0 0 14 r0) = a0 := (hv0 _).trans (by simp [symVal])
  have hd1 : dec (symC 4 1 4 r1) = a1 := (hv1 _).trans (by simp [symVal])
  simp only [cvL, cv, hd0, hd1]
theorem hv0 (r : Nat) (h : r < 14) : ∀ v0 : Nat → Nat → Nat → Nat → Int, decV (Go.Ev.valOf v0) (symC 0 0 14 r) = v0 0 0 14 r := by
  rcases (show r = 0 ∨ r = 1 ∨ r = 2 ∨ r = 3 ∨ r = 4 ∨ r = 5 ∨ r = 6 ∨ r = 7 ∨ r = 8 ∨ r = 9 ∨ r = 10 ∨ r = 11 ∨ r = 12 ∨ r = 13 by omega) with rfl | rfl | rfl | rfl | rfl | rfl | rfl | rfl | rfl | rfl | rfl | rfl | rfl | rfl <;> exact fun _ => rfl
theorem hv1 (r : Nat) (h : r < 4) : ∀ v0 : Nat → Nat → Nat → Nat → Int, decV (Go.Ev.valOf v0) (symC 4 1 4 r) = v0 4 1 4 r := by
  rcases (show r = 0 ∨ r = 1 ∨ r = 2 ∨ r = 3 by omega) with rfl | rfl | rfl | rfl <;> exact fun _ => rfl
theorem all (r0 : Nat) (l0 : r0 < 14) (r1 : Nat) (l1 : r1 < 4) : isV (.bool true) ((fnsF Tryz.prog orc2 3000).call 5 [.int .i64 (symC 0 0 14 r0), .int .i64 (symC 4 1 4 r1)] (hInit tabs)) = true := by
  rcases (show r0 = 0 ∨ r0 = 1 ∨ r0 = 2 ∨ r0 = 3 ∨ r0 = 4 ∨ r0 = 5 ∨ r0 = 6 ∨ r0 = 7 ∨ r0 = 8 ∨ r0 = 9 ∨ r0 = 10 ∨ r0 = 11 ∨ r0 = 12 ∨ r0 = 13 by omega) with rfl | rfl | rfl | rfl | rfl | rfl | rfl | rfl | rfl | rfl | rfl | rfl | rfl | rfl
  · rcases (show r1 = 0 ∨ r1 = 1 ∨ r1 = 2 ∨ r1 = 3 by omega) with rfl | rfl | rfl | rfl
    · exact runSlotsTrails_0_0
    · exact runSlotsTrails_0_1
    · exact runSlotsTrails_0_2
    · exact runSlotsTrails_0_3
  · rcases (show r1 = 0 ∨ r1 = 1 ∨ r1 = 2 ∨ r1 = 3 by omega) with rfl | rfl | rfl | rfl
    · exact runSlotsTrails_1_0
    · exact runSlotsTrails_1_1
    · exact runSlotsTrails_1_2
    · exact runSlotsTrails_1_3
  · rcases (show r1 = 0 ∨ r1 = 1 ∨ r1 = 2 ∨ r1 = 3 by omega) with rfl | rfl | rfl | rfl
    · exact runSlotsTrails_2_0
    · exact runSlotsTrails_2_1
    · exact runSlotsTrails_2_2
    · exact runSlotsTrails_2_3
  · rcases (show r1 = 0 ∨ r1 = 1 ∨ r1 = 2 ∨ r1 = 3 by omega) with rfl | rfl | rfl | rfl
    · exact runSlotsTrails_3_0
    · exact runSlotsTrails_3_1
    · exact runSlotsTrails_3_2
    · exact runSlotsTrails_3_3
  · rcases (show r1 = 0 ∨ r1 = 1 ∨ r1 = 2 ∨ r1 = 3 by omega) with rfl | rfl | rfl | rfl
    · exact runSlotsTrails_4_0
    · exact runSlotsTrails_4_1
    · exact runSlotsTrails_4_2
    · exact runSlotsTrails_4_3
  · rcases (show r1 = 0 ∨ r1 = 1 ∨ r1 = 2 ∨ r1 = 3 by omega) with rfl | rfl | rfl | rfl
    · exact runSlotsTrails_5_0
    · exact runSlotsTrails_5_1
    · exact runSlotsTrails_5_2
    · exact runSlotsTrails_5_3
  · rcases (show r1 = 0 ∨ r1 = 1 ∨ r1 = 2 ∨ r1 = 3 by omega) with rfl | rfl | rfl | rfl
    · exact runSlotsTrails_6_0
    · exact runSlotsTrails_6_1
    · exact runSlotsTrails_6_2
    · exact runSlotsTrails_6_3
  · rcases (show r1 = 0 ∨ r1 = 1 ∨ r1 = 2 ∨ r1 = 3 by omega) with rfl | rfl | rfl | rfl
    · exact runSlotsTrails_7_0
    · exact runSlotsTrails_7_1
    · exact runSlotsTrails_7_2
    · exact runSlotsTrails_7_3
  · rcases (show r1 = 0 ∨ r1 = 1 ∨ r1 = 2 ∨ r1 = 3 by omega) with rfl | rfl | rfl | rfl
    · exact runSlotsTrails_8_0
    · exact runSlotsTrails_8_1
    · exact runSlotsTrails_8_2
    · exact runSlotsTrails_8_3
  · rcases (show r1 = 0 ∨ r1 = 1 ∨ r1 = 2 ∨ r1 = 3 by omega) with rfl | rfl | rfl | rfl
    · exact runSlotsTrails_9_0
    · exact runSlotsTrails_9_1
    · exact runSlotsTrails_9_2
    · exact runSlotsTrails_9_3
  · rcases (show r1 = 0 ∨ r1 = 1 ∨ r1 = 2 ∨ r1 = 3 by omega) with rfl | rfl | rfl | rfl
    · exact runSlotsTrails_10_0
    · exact runSlotsTrails_10_1
    · exact runSlotsTrails_10_2
    · exact runSlotsTrails_10_3
  · rcases (show r1 = 0 ∨ r1 = 1 ∨ r1 = 2 ∨ r1 = 3 by omega) with rfl | rfl | rfl | rfl
    · exact runSlotsTrails_11_0
    · exact runSlotsTrails_11_1
    · exact runSlotsTrails_11_2
    · exact runSlotsTrails_11_3
  · rcases (show r1 = 0 ∨ r1 = 1 ∨ r1 = 2 ∨ r1 = 3 by omega) with rfl | rfl | rfl | rfl
    · exact runSlotsTrails_12_0
    · exact runSlotsTrails_12_1
    · exact runSlotsTrails_12_2
    · exact runSlotsTrails_12_3
  · rcases (show r1 = 0 ∨ r1 = 1 ∨ r1 = 2 ∨ r1 = 3 by omega) with rfl | rfl | rfl | rfl
    · exact runSlotsTrails_13_0
    · exact runSlotsTrails_13_1
    · exact runSlotsTrails_13_2
    · exact runSlotsTrails_13_3
end SlotsTrailsW
theorem walkSlotsTrails (a0 : Int) (a1 : Int) (w : World) (hL : laidMetH Tryz.prog Rows.slotsTrailsRow.laid w) : Calls Tryz.prog 5 #[.int .i64 a0, .int .i64 a1] w fun e w' => e = .returned (.bool true) ∧ Keeps w w' := by
  obtain ⟨r0, l0, h0⟩ := symOk_ex 0 14 (by decide) (by decide) a0
  obtain ⟨r1, l1, h1⟩ := symOk_ex 4 4 (by decide) (by decide) a1
  exact SlotsTrailsW.at_ a0 a1 r0 r1 w hL h0 h1 (SlotsTrailsW.hv0 r0 l0) (SlotsTrailsW.hv1 r1 l1) (SlotsTrailsW.all r0 l0 r1 l1)
end Go.Proofs.YtjnfkhhjfjepoaaGreatDoor
