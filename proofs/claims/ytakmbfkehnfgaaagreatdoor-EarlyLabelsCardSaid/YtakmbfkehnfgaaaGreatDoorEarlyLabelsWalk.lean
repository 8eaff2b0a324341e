/- The law EarlyLabels returns true whatever the arguments are: by their residues. No condition beyond the listed variables. -/
import Derived.Test.YtakmbfkehnfgaaaGreatDoorEarlyLabelsRun0
import Derived.Test.YtakmbfkehnfgaaaGreatDoorEarlyLabelsRun1
import Derived.Test.YtakmbfkehnfgaaaGreatDoorEarlyLabelsRun2
import Derived.Test.YtakmbfkehnfgaaaGreatDoorEarlyLabelsRun3
namespace Go.Proofs.YtakmbfkehnfgaaaGreatDoor
open Go Go.Ev
theorem tab_okEarlyLabels {W : World} [Sig] (h : laidMetH Tryz.prog Rows.earlyLabelsRow.laid W) : TabsOk W [tab] := by
  have h' : laidMet Tryz.prog [("unicode/utf8.first", Rows.laid_unicode_utf8_first), ("unicode/utf8.acceptRanges", Rows.laid_unicode_utf8_acceptRanges), ("strings.asciiSpace", Rows.laid_strings_asciiSpace), ("unicode.White_Space", Rows.laid_unicode_White_Space)] W ∧ handlesMet Tryz.prog [("errors.errorType", Rows.laid_errors_errorType)] W := h
  obtain ⟨⟨ps, ⟨_, _, _, _, _, _, _, _, _, _, ⟨_, _, _, _, _, _, _, _, _, _, ⟨g, t, cs, f, p, q, hg, ht, hv, hd, _, _⟩, _⟩, _⟩, _, _⟩, _⟩ := h'
  obtain rfl := Option.some.inj ((show Tryz.prog.globalNamed "strings.asciiSpace" = some 3 by kernel_rfl).symm.trans hg)
  obtain rfl := Option.some.inj ((show (Tryz.prog.globals[3]?).map (·.type) = some 250 by kernel_rfl).symm.trans ht)
  intro x hx
  obtain rfl := List.mem_singleton.1 hx
  rw [ks_eq] at hd
  exact tab_of_var (by kernel_rfl) hg (by decide) hv Tryz.underlying250 Tryz.underlying5 (by kernel_rfl) hd
namespace EarlyLabelsW
theorem at_ (a0 : Int) (a1 : Int) (a2 : Int) (r0 r1 r2 : Nat) (w : World) (hL : laidMetH Tryz.prog Rows.earlyLabelsRow.laid w) (h0 : SymOk 2 3 r0 a0) (h1 : SymOk 2 3 r1 a1) (h2 : SymOk 4 4 r2 a2)
    (hv0 : ∀ v0 : Nat → Nat → Nat → Nat → Int, decV (Go.Ev.valOf v0) (symC 2 0 3 r0) = v0 2 0 3 r0) (hv1 : ∀ v0 : Nat → Nat → Nat → Nat → Int, decV (Go.Ev.valOf v0) (symC 2 1 3 r1) = v0 2 1 3 r1) (hv2 : ∀ v0 : Nat → Nat → Nat → Nat → Int, decV (Go.Ev.valOf v0) (symC 4 2 4 r2) = v0 4 2 4 r2)
    (hrun : isV (.bool true) ((fnsF Tryz.prog orc2 3000).call 4 [.int .i64 (symC 2 0 3 r0), .int .i64 (symC 2 1 3 r1), .int .i64 (symC 4 2 4 r2)] (hInit [tab])) = true) :
    Calls Tryz.prog 4 #[.int .i64 a0, .int .i64 a1, .int .i64 a2] w fun e w' => e = .returned (.bool true) ∧ Keeps w w' := by
  letI : Sig := sigOf (symVal [⟨2, 0, 3, r0, a0⟩, ⟨2, 1, 3, r1, a1⟩, ⟨4, 2, 4, r2, a2⟩]) (symVal_ok (fun s hs => by
    simp only [List.mem_cons, List.not_mem_nil, or_false] at hs
    rcases hs with rfl | rfl | rfl
    · exact h0
    · exact h1
    · exact h2))
  have ht := tab_okEarlyLabels hL
  refine run_trueF progOk (orc2_ok w ht) ht (us := [.int .i64 a0, .int .i64 a1, .int .i64 a2]) (args := [.int .i64 (symC 2 0 3 r0), .int .i64 (symC 2 1 3 r1), .int .i64 (symC 4 2 4 r2)]) (n := 3000) ?_ hrun
  have hd0 : dec (symC 2 0 3 r0) = a0 := (hv0 _).trans (by simp [symVal])
  have hd1 : dec (symC 2 1 3 r1) = a1 := (hv1 _).trans (by simp [symVal])
  have hd2 : dec (symC 4 2 4 r2) = a2 := (hv2 _).trans (by simp [symVal])
  simp only [cvL, cv, hd0, hd1, hd2]
theorem hv0 (r : Nat) (h : r < 3) : ∀ v0 : Nat → Nat → Nat → Nat → Int, decV (Go.Ev.valOf v0) (symC 2 0 3 r) = v0 2 0 3 r := by
  rcases (show r = 0 ∨ r = 1 ∨ r = 2 by omega) with rfl | rfl | rfl <;> exact fun _ => rfl
theorem hv1 (r : Nat) (h : r < 3) : ∀ v0 : Nat → Nat → Nat → Nat → Int, decV (Go.Ev.valOf v0) (symC 2 1 3 r) = v0 2 1 3 r := by
  rcases (show r = 0 ∨ r = 1 ∨ r = 2 by omega) with rfl | rfl | rfl <;> exact fun _ => rfl
theorem hv2 (r : Nat) (h : r < 4) : ∀ v0 : Nat → Nat → Nat → Nat → Int, decV (Go.Ev.valOf v0) (symC 4 2 4 r) = v0 4 2 4 r := by
  rcases (show r = 0 ∨ r = 1 ∨ r = 2 ∨ r = 3 by omega) with rfl | rfl | rfl | rfl <;> exact fun _ => rfl
theorem all (r0 : Nat) (l0 : r0 < 3) (r1 : Nat) (l1 : r1 < 3) (r2 : Nat) (l2 : r2 < 4) : isV (.bool true) ((fnsF Tryz.prog orc2 3000).call 4 [.int .i64 (symC 2 0 3 r0), .int .i64 (symC 2 1 3 r1), .int .i64 (symC 4 2 4 r2)] (hInit [tab])) = true := by
  rcases (show r0 = 0 ∨ r0 = 1 ∨ r0 = 2 by omega) with rfl | rfl | rfl
  · rcases (show r1 = 0 ∨ r1 = 1 ∨ r1 = 2 by omega) with rfl | rfl | rfl
    · rcases (show r2 = 0 ∨ r2 = 1 ∨ r2 = 2 ∨ r2 = 3 by omega) with rfl | rfl | rfl | rfl
      · exact runEarlyLabels_0_0_0
      · exact runEarlyLabels_0_0_1
      · exact runEarlyLabels_0_0_2
      · exact runEarlyLabels_0_0_3
    · rcases (show r2 = 0 ∨ r2 = 1 ∨ r2 = 2 ∨ r2 = 3 by omega) with rfl | rfl | rfl | rfl
      · exact runEarlyLabels_0_1_0
      · exact runEarlyLabels_0_1_1
      · exact runEarlyLabels_0_1_2
      · exact runEarlyLabels_0_1_3
    · rcases (show r2 = 0 ∨ r2 = 1 ∨ r2 = 2 ∨ r2 = 3 by omega) with rfl | rfl | rfl | rfl
      · exact runEarlyLabels_0_2_0
      · exact runEarlyLabels_0_2_1
      · exact runEarlyLabels_0_2_2
      · exact runEarlyLabels_0_2_3
  · rcases (show r1 = 0 ∨ r1 = 1 ∨ r1 = 2 by omega) with rfl | rfl | rfl
    · rcases (show r2 = 0 ∨ r2 = 1 ∨ r2 = 2 ∨ r2 = 3 by omega) with rfl | rfl | rfl | rfl
      · exact runEarlyLabels_1_0_0
      · exact runEarlyLabels_1_0_1
      · exact runEarlyLabels_1_0_2
      · exact runEarlyLabels_1_0_3
    · rcases (show r2 = 0 ∨ r2 = 1 ∨ r2 = 2 ∨ r2 = 3 by omega) with rfl | rfl | rfl | rfl
      · exact runEarlyLabels_1_1_0
      · exact runEarlyLabels_1_1_1
      · exact runEarlyLabels_1_1_2
      · exact runEarlyLabels_1_1_3
    · rcases (show r2 = 0 ∨ r2 = 1 ∨ r2 = 2 ∨ r2 = 3 by omega) with rfl | rfl | rfl | rfl
      · exact runEarlyLabels_1_2_0
      · exact runEarlyLabels_1_2_1
      · exact runEarlyLabels_1_2_2
      · exact runEarlyLabels_1_2_3
  · rcases (show r1 = 0 ∨ r1 = 1 ∨ r1 = 2 by omega) with rfl | rfl | rfl
    · rcases (show r2 = 0 ∨ r2 = 1 ∨ r2 = 2 ∨ r2 = 3 by omega) with rfl | rfl | rfl | rfl
      · exact runEarlyLabels_2_0_0
      · exact runEarlyLabels_2_0_1
      · exact runEarlyLabels_2_0_2
      · exact runEarlyLabels_2_0_3
    · rcases (show r2 = 0 ∨ r2 = 1 ∨ r2 = 2 ∨ r2 = 3 by omega) with rfl | rfl | rfl | rfl
      · exact runEarlyLabels_2_1_0
      · exact runEarlyLabels_2_1_1
      · exact runEarlyLabels_2_1_2
      · exact runEarlyLabels_2_1_3
    · rcases (show r2 = 0 ∨ r2 = 1 ∨ r2 = 2 ∨ r2 = 3 by omega) with rfl | rfl | rfl | rfl
      · exact runEarlyLabels_2_2_0
      · exact runEarlyLabels_2_2_1
      · exact runEarlyLabels_2_2_2
      · exact runEarlyLabels_2_2_3
end EarlyLabelsW
theorem walkEarlyLabels (a0 : Int) (a1 : Int) (a2 : Int) (w : World) (hL : laidMetH Tryz.prog Rows.earlyLabelsRow.laid w) : Calls Tryz.prog 4 #[.int .i64 a0, .int .i64 a1, .int .i64 a2] w fun e w' => e = .returned (.bool true) ∧ Keeps w w' := by
  obtain ⟨r0, l0, h0⟩ := symOk_ex 2 3 (by decide) (by decide) a0
  obtain ⟨r1, l1, h1⟩ := symOk_ex 2 3 (by decide) (by decide) a1
  obtain ⟨r2, l2, h2⟩ := symOk_ex 4 4 (by decide) (by decide) a2
  exact EarlyLabelsW.at_ a0 a1 a2 r0 r1 r2 w hL h0 h1 h2 (EarlyLabelsW.hv0 r0 l0) (EarlyLabelsW.hv1 r1 l1) (EarlyLabelsW.hv2 r2 l2) (EarlyLabelsW.all r0 l0 r1 l1 r2 l2)
end Go.Proofs.YtakmbfkehnfgaaaGreatDoor
