/- The law SlotsCounts returns true whatever the arguments are: by their residues. No condition beyond the listed variables. -/
import Derived.Test.YtjnfkhhjfjepoaaGreatDoorSlotsCountsRun0
import Derived.Test.YtjnfkhhjfjepoaaGreatDoorSlotsCountsRun1
import Derived.Test.YtjnfkhhjfjepoaaGreatDoorSlotsCountsRun2
import Derived.Test.YtjnfkhhjfjepoaaGreatDoorSlotsCountsRun3
import Derived.Test.YtjnfkhhjfjepoaaGreatDoorSlotsCountsRun4
import Derived.Test.YtjnfkhhjfjepoaaGreatDoorSlotsCountsRun5
import Derived.Test.YtjnfkhhjfjepoaaGreatDoorSlotsCountsRun6
import Derived.Test.YtjnfkhhjfjepoaaGreatDoorSlotsCountsRun7
import Derived.Test.YtjnfkhhjfjepoaaGreatDoorSlotsCountsRun8
import Derived.Test.YtjnfkhhjfjepoaaGreatDoorSlotsCountsRun9
import Derived.Test.YtjnfkhhjfjepoaaGreatDoorSlotsCountsRun10
import Derived.Test.YtjnfkhhjfjepoaaGreatDoorSlotsCountsRun11
import Derived.Test.YtjnfkhhjfjepoaaGreatDoorSlotsCountsRun12
import Derived.Test.YtjnfkhhjfjepoaaGreatDoorSlotsCountsRun13
import Derived.Test.YtjnfkhhjfjepoaaGreatDoorSlotsCountsRun14
import Derived.Test.YtjnfkhhjfjepoaaGreatDoorSlotsCountsRun15
import Derived.Test.YtjnfkhhjfjepoaaGreatDoorSlotsCountsRun16
import Derived.Test.YtjnfkhhjfjepoaaGreatDoorSlotsCountsRun17
namespace Go.Proofs.YtjnfkhhjfjepoaaGreatDoor
open Go Go.Ev
theorem tab_okSlotsCounts {W : World} [Sig] (h : laidMetH Tryz.prog Rows.slotsCountsRow.laid W) : TabsOk W tabs := by
  have h' : laidMet Tryz.prog [("unicode/utf8.acceptRanges", Rows.laid_unicode_utf8_acceptRanges), ("unicode.White_Space", Rows.laid_unicode_White_Space), ("strings.asciiSpace", Rows.laid_strings_asciiSpace), ("unicode/utf8.first", Rows.laid_unicode_utf8_first)] W ∧ handlesMet Tryz.prog [("errors.errorType", Rows.laid_errors_errorType)] W := h
  obtain ⟨⟨ps, ⟨_, _, _, _, _, _, _, _, _, _, ⟨_, _, _, _, _, _, _, _, _, _, ⟨g, t, cs, f, p, q, hg, ht, hv, hd, _, _⟩, _⟩, _⟩, _, _⟩, hh⟩ := h'
  obtain rfl := Option.some.inj ((show Tryz.prog.globalNamed "strings.asciiSpace" = some 1 by kernel_rfl).symm.trans hg)
  obtain rfl := Option.some.inj ((show (Tryz.prog.globals[1]?).map (·.type) = some 192 by kernel_rfl).symm.trans ht)
  rw [ks_eq] at hd
  have h1 : TabOk W tab := tab_of_var (by kernel_rfl) hg (by decide) hv Tryz.underlying192 Tryz.underlying5 (by kernel_rfl) hd
  intro x hx
  rcases List.mem_cons.1 hx with rfl | hx
  · exact h1
  · obtain rfl := List.mem_singleton.1 hx
    exact htab_ok hh
namespace SlotsCountsW
theorem at_ (a0 : Int) (a1 : Int) (r0 r1 : Nat) (w : World) (hL : laidMetH Tryz.prog Rows.slotsCountsRow.laid w) (h0 : SymOk 4 16 r0 a0) (h1 : SymOk 0 9 r1 a1)
    (hv0 : ∀ v0 : Nat → Nat → Nat → Nat → Int, decV (Go.Ev.valOf v0) (symC 4 0 16 r0) = v0 4 0 16 r0) (hv1 : ∀ v0 : Nat → Nat → Nat → Nat → Int, decV (Go.Ev.valOf v0) (symC 0 1 9 r1) = v0 0 1 9 r1)
    (hrun : isV (.bool true) ((fnsF Tryz.prog orc2 3000).call 4 [.int .i64 (symC 4 0 16 r0), .int .i64 (symC 0 1 9 r1)] (hInit tabs)) = true) :
    Calls Tryz.prog 4 #[.int .i64 a0, .int .i64 a1] w fun e w' => e = .returned (.bool true) ∧ Keeps w w' := by
  letI : Sig := sigOf (symVal [⟨4, 0, 16, r0, a0⟩, ⟨0, 1, 9, r1, a1⟩]) (symVal_ok (fun s hs => by
    simp only [List.mem_cons, List.not_mem_nil, or_false] at hs
    rcases hs with rfl | rfl
    · exact h0
    · exact h1))
  have ht := tab_okSlotsCounts hL
  refine run_trueF progOk (orc2_ok w ht) ht (us := [.int .i64 a0, .int .i64 a1]) (args := [.int .i64 (symC 4 0 16 r0), .int .i64 (symC 0 1 9 r1)]) (n := 3000) ?_ hrun
  have hd0 : dec (symC 4 0 16 r0) = a0 := (hv0 _).trans (by simp [symVal])
  have hd1 : dec (symC 0 1 9 r1) = a1 := (hv1 _).trans (by simp [symVal])
  simp only [cvL, cv, hd0, hd1]
theorem hv0 (r : Nat) (h : r < 16) : ∀ v0 : Nat → Nat → Nat → Nat → Int, decV (Go.Ev.valOf v0) (symC 4 0 16 r) = v0 4 0 16 r := by
  rcases (show r = 0 ∨ r = 1 ∨ r = 2 ∨ r = 3 ∨ r = 4 ∨ r = 5 ∨ r = 6 ∨ r = 7 ∨ r = 8 ∨ r = 9 ∨ r = 10 ∨ r = 11 ∨ r = 12 ∨ r = 13 ∨ r = 14 ∨ r = 15 by omega) with rfl | rfl | rfl | rfl | rfl | rfl | rfl | rfl | rfl | rfl | rfl | rfl | rfl | rfl | rfl | rfl <;> exact fun _ => rfl
theorem hv1 (r : Nat) (h : r < 9) : ∀ v0 : Nat → Nat → Nat → Nat → Int, decV (Go.Ev.valOf v0) (symC 0 1 9 r) = v0 0 1 9 r := by
  rcases (show r = 0 ∨ r = 1 ∨ r = 2 ∨ r = 3 ∨ r = 4 ∨ r = 5 ∨ r = 6 ∨ r = 7 ∨ r = 8 by omega) with rfl | rfl | rfl | rfl | rfl | rfl | rfl | rfl | rfl <;> exact fun _ => rfl
theorem all (r0 : Nat) (l0 : r0 < 16) (r1 : Nat) (l1 : r1 < 9) : isV (.bool true) ((fnsF Tryz.prog orc2 3000).call 4 [.int .i64 (symC 4 0 16 r0), .int .i64 (symC 0 1 9 r1)] (hInit tabs)) = true := by
  rcases (show r0 = 0 ∨ r0 = 1 ∨ r0 = 2 ∨ r0 = 3 ∨ r0 = 4 ∨ r0 = 5 ∨ r0 = 6 ∨ r0 = 7 ∨ r0 = 8 ∨ r0 = 9 ∨ r0 = 10 ∨ r0 = 11 ∨ r0 = 12 ∨ r0 = 13 ∨ r0 = 14 ∨ r0 = 15 by omega) with rfl | rfl | rfl | rfl | rfl | rfl | rfl | rfl | rfl | rfl | rfl | rfl | rfl | rfl | rfl | rfl
  · rcases (show r1 = 0 ∨ r1 = 1 ∨ r1 = 2 ∨ r1 = 3 ∨ r1 = 4 ∨ r1 = 5 ∨ r1 = 6 ∨ r1 = 7 ∨ r1 = 8 by omega) with rfl | rfl | rfl | rfl | rfl | rfl | rfl | rfl | rfl
    · exact runSlotsCounts_0_0
    · exact runSlotsCounts_0_1
    · exact runSlotsCounts_0_2
    · exact runSlotsCounts_0_3
    · exact runSlotsCounts_0_4
    · exact runSlotsCounts_0_5
    · exact runSlotsCounts_0_6
    · exact runSlotsCounts_0_7
    · exact runSlotsCounts_0_8
  · rcases (show r1 = 0 ∨ r1 = 1 ∨ r1 = 2 ∨ r1 = 3 ∨ r1 = 4 ∨ r1 = 5 ∨ r1 = 6 ∨ r1 = 7 ∨ r1 = 8 by omega) with rfl | rfl | rfl | rfl | rfl | rfl | rfl | rfl | rfl
    · exact runSlotsCounts_1_0
    · exact runSlotsCounts_1_1
    · exact runSlotsCounts_1_2
    · exact runSlotsCounts_1_3
    · exact runSlotsCounts_1_4
    · exact runSlotsCounts_1_5
    · exact runSlotsCounts_1_6
    · exact runSlotsCounts_1_7
    · exact runSlotsCounts_1_8
  · rcases (show r1 = 0 ∨ r1 = 1 ∨ r1 = 2 ∨ r1 = 3 ∨ r1 = 4 ∨ r1 = 5 ∨ r1 = 6 ∨ r1 = 7 ∨ r1 = 8 by omega) with rfl | rfl | rfl | rfl | rfl | rfl | rfl | rfl | rfl
    · exact runSlotsCounts_2_0
    · exact runSlotsCounts_2_1
    · exact runSlotsCounts_2_2
    · exact runSlotsCounts_2_3
    · exact runSlotsCounts_2_4
    · exact runSlotsCounts_2_5
    · exact runSlotsCounts_2_6
    · exact runSlotsCounts_2_7
    · exact runSlotsCounts_2_8
  · rcases (show r1 = 0 ∨ r1 = 1 ∨ r1 = 2 ∨ r1 = 3 ∨ r1 = 4 ∨ r1 = 5 ∨ r1 = 6 ∨ r1 = 7 ∨ r1 = 8 by omega) with rfl | rfl | rfl | rfl | rfl | rfl | rfl | rfl | rfl
    · exact runSlotsCounts_3_0
    · exact runSlotsCounts_3_1
    · exact runSlotsCounts_3_2
    · exact runSlotsCounts_3_3
    · exact runSlotsCounts_3_4
    · exact runSlotsCounts_3_5
    · exact runSlotsCounts_3_6
    · exact runSlotsCounts_3_7
    · exact runSlotsCounts_3_8
  · rcases (show r1 = 0 ∨ r1 = 1 ∨ r1 = 2 ∨ r1 = 3 ∨ r1 = 4 ∨ r1 = 5 ∨ r1 = 6 ∨ r1 = 7 ∨ r1 = 8 by omega) with rfl | rfl | rfl | rfl | rfl | rfl | rfl | rfl | rfl
    · exact runSlotsCounts_4_0
    · exact runSlotsCounts_4_1
    · exact runSlotsCounts_4_2
    · exact runSlotsCounts_4_3
    · exact runSlotsCounts_4_4
    · exact runSlotsCounts_4_5
    · exact runSlotsCounts_4_6
    · exact runSlotsCounts_4_7
    · exact runSlotsCounts_4_8
  · rcases (show r1 = 0 ∨ r1 = 1 ∨ r1 = 2 ∨ r1 = 3 ∨ r1 = 4 ∨ r1 = 5 ∨ r1 = 6 ∨ r1 = 7 ∨ r1 = 8 by omega) with rfl | rfl | rfl | rfl | rfl | rfl | rfl | rfl | rfl
    · exact runSlotsCounts_5_0
    · exact runSlotsCounts_5_1
    · exact runSlotsCounts_5_2
    · exact runSlotsCounts_5_3
    · exact runSlotsCounts_5_4
    · exact runSlotsCounts_5_5
    · exact runSlotsCounts_5_6
    · exact runSlotsCounts_5_7
    · exact runSlotsCounts_5_8
  · rcases (show r1 = 0 ∨ r1 = 1 ∨ r1 = 2 ∨ r1 = 3 ∨ r1 = 4 ∨ r1 = 5 ∨ r1 = 6 ∨ r1 = 7 ∨ r1 = 8 by omega) with rfl | rfl | rfl | rfl | rfl | rfl | rfl | rfl | rfl
    · exact runSlotsCounts_6_0
    · exact runSlotsCounts_6_1
    · exact runSlotsCounts_6_2
    · exact runSlotsCounts_6_3
    · exact runSlotsCounts_6_4
    · exact runSlotsCounts_6_5
    · exact runSlotsCounts_6_6
    · exact runSlotsCounts_6_7
    · exact runSlotsCounts_6_8
  · rcases (show r1 = 0 ∨ r1 = 1 ∨ r1 = 2 ∨ r1 = 3 ∨ r1 = 4 ∨ r1 = 5 ∨ r1 = 6 ∨ r1 = 7 ∨ r1 = 8 by omega) with rfl | rfl | rfl | rfl | rfl | rfl | rfl | rfl | rfl
    · exact runSlotsCounts_7_0
    · exact runSlotsCounts_7_1
    · exact runSlotsCounts_7_2
    · exact runSlotsCounts_7_3
    · exact runSlotsCounts_7_4
    · exact runSlotsCounts_7_5
    · exact runSlotsCounts_7_6
    · exact runSlotsCounts_7_7
    · exact runSlotsCounts_7_8
  · rcases (show r1 = 0 ∨ r1 = 1 ∨ r1 = 2 ∨ r1 = 3 ∨ r1 = 4 ∨ r1 = 5 ∨ r1 = 6 ∨ r1 = 7 ∨ r1 = 8 by omega) with rfl | rfl | rfl | rfl | rfl | rfl | rfl | rfl | rfl
    · exact runSlotsCounts_8_0
    · exact runSlotsCounts_8_1
    · exact runSlotsCounts_8_2
    · exact runSlotsCounts_8_3
    · exact runSlotsCounts_8_4
    · exact runSlotsCounts_8_5
    · exact runSlotsCounts_8_6
    · exact runSlotsCounts_8_7
    · exact runSlotsCounts_8_8
  · rcases (show r1 = 0 ∨ r1 = 1 ∨ r1 = 2 ∨ r1 = 3 ∨ r1 = 4 ∨ r1 = 5 ∨ r1 = 6 ∨ r1 = 7 ∨ r1 = 8 by omega) with rfl | rfl | rfl | rfl | rfl | rfl | rfl | rfl | rfl
    · exact runSlotsCounts_9_0
    · exact runSlotsCounts_9_1
    · exact runSlotsCounts_9_2
    · exact runSlotsCounts_9_3
    · exact runSlotsCounts_9_4
    · exact runSlotsCounts_9_5
    · exact runSlotsCounts_9_6
    · exact runSlotsCounts_9_7
    · exact runSlotsCounts_9_8
  · rcases (show r1 = 0 ∨ r1 = 1 ∨ r1 = 2 ∨ r1 = 3 ∨ r1 = 4 ∨ r1 = 5 ∨ r1 = 6 ∨ r1 = 7 ∨ r1 = 8 by omega) with rfl | rfl | rfl | rfl | rfl | rfl | rfl | rfl | rfl
    · exact runSlotsCounts_10_0
    · exact runSlotsCounts_10_1
    · exact runSlotsCounts_10_2
    · exact runSlotsCounts_10_3
    · exact runSlotsCounts_10_4
    · exact runSlotsCounts_10_5
    · exact runSlotsCounts_10_6
    · exact runSlotsCounts_10_7
    · exact runSlotsCounts_10_8
  · rcases (show r1 = 0 ∨ r1 = 1 ∨ r1 = 2 ∨ r1 = 3 ∨ r1 = 4 ∨ r1 = 5 ∨ r1 = 6 ∨ r1 = 7 ∨ r1 = 8 by omega) with rfl | rfl | rfl | rfl | rfl | rfl | rfl | rfl | rfl
    · exact runSlotsCounts_11_0
    · exact runSlotsCounts_11_1
    · exact runSlotsCounts_11_2
    · exact runSlotsCounts_11_3
    · exact runSlotsCounts_11_4
    · exact runSlotsCounts_11_5
    · exact runSlotsCounts_11_6
    · exact runSlotsCounts_11_7
    · exact runSlotsCounts_11_8
  · rcases (show r1 = 0 ∨ r1 = 1 ∨ r1 = 2 ∨ r1 = 3 ∨ r1 = 4 ∨ r1 = 5 ∨ r1 = 6 ∨ r1 = 7 ∨ r1 = 8 by omega) with rfl | rfl | rfl | rfl | rfl | rfl | rfl | rfl | rfl
    · exact runSlotsCounts_12_0
    · exact runSlotsCounts_12_1
    · exact runSlotsCounts_12_2
    · exact runSlotsCounts_12_3
    · exact runSlotsCounts_12_4
    · exact runSlotsCounts_12_5
    · exact runSlotsCounts_12_6
    · exact runSlotsCounts_12_7
    · exact runSlotsCounts_12_8
  · rcases (show r1 = 0 ∨ r1 = 1 ∨ r1 = 2 ∨ r1 = 3 ∨ r1 = 4 ∨ r1 = 5 ∨ r1 = 6 ∨ r1 = 7 ∨ r1 = 8 by omega) with rfl | rfl | rfl | rfl | rfl | rfl | rfl | rfl | rfl
    · exact runSlotsCounts_13_0
    · exact runSlotsCounts_13_1
    · exact runSlotsCounts_13_2
    · exact runSlotsCounts_13_3
    · exact runSlotsCounts_13_4
    · exact runSlotsCounts_13_5
    · exact runSlotsCounts_13_6
    · exact runSlotsCounts_13_7
    · exact runSlotsCounts_13_8
  · rcases (show r1 = 0 ∨ r1 = 1 ∨ r1 = 2 ∨ r1 = 3 ∨ r1 = 4 ∨ r1 = 5 ∨ r1 = 6 ∨ r1 = 7 ∨ r1 = 8 by omega) with rfl | rfl | rfl | rfl | rfl | rfl | rfl | rfl | rfl
    · exact runSlotsCounts_14_0
    · exact runSlotsCounts_14_1
    · exact runSlotsCounts_14_2
    · exact runSlotsCounts_14_3
    · exact runSlotsCounts_14_4
    · exact runSlotsCounts_14_5
    · exact runSlotsCounts_14_6
    · exact runSlotsCounts_14_7
    · exact runSlotsCounts_14_8
  · rcases (show r1 = 0 ∨ r1 = 1 ∨ r1 = 2 ∨ r1 = 3 ∨ r1 = 4 ∨ r1 = 5 ∨ r1 = 6 ∨ r1 = 7 ∨ r1 = 8 by omega) with rfl | rfl | rfl | rfl | rfl | rfl | rfl | rfl | rfl
    · exact runSlotsCounts_15_0
    · exact runSlotsCounts_15_1
    · exact runSlotsCounts_15_2
    · exact runSlotsCounts_15_3
    · exact runSlotsCounts_15_4
    · exact runSlotsCounts_15_5
    · exact runSlotsCounts_15_6
    · exact runSlotsCounts_15_7
    · exact runSlotsCounts_15_8
end SlotsCountsW
theorem walkSlotsCounts (a0 : Int) (a1 : Int) (w : World) (hL : laidMetH Tryz.prog Rows.slotsCountsRow.laid w) : Calls Tryz.prog 4 #[.int .i64 a0, .int .i64 a1] w fun e w' => e = .returned (.bool true) ∧ Keeps w w' := by
  obtain ⟨r0, l0, h0⟩ := symOk_ex 4 16 (by decide) (by decide) a0
  obtain ⟨r1, l1, h1⟩ := symOk_ex 0 9 (by decide) (by decide) a1
  exact SlotsCountsW.at_ a0 a1 r0 r1 w hL h0 h1 (SlotsCountsW.hv0 r0 l0) (SlotsCountsW.hv1 r1 l1) (SlotsCountsW.all r0 l0 r1 l1)
end Go.Proofs.YtjnfkhhjfjepoaaGreatDoor
