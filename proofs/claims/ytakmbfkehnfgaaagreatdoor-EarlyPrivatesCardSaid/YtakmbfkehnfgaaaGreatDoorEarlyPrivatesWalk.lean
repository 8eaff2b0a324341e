/- The law EarlyPrivates returns true whatever the arguments are: by their residues. No condition beyond the listed variables. -/
import Derived.Test.YtakmbfkehnfgaaaGreatDoorEarlyPrivatesRun0
import Derived.Test.YtakmbfkehnfgaaaGreatDoorEarlyPrivatesRun1
import Derived.Test.YtakmbfkehnfgaaaGreatDoorEarlyPrivatesRun2
import Derived.Test.YtakmbfkehnfgaaaGreatDoorEarlyPrivatesRun3
import Derived.Test.YtakmbfkehnfgaaaGreatDoorEarlyPrivatesRun4
import Derived.Test.YtakmbfkehnfgaaaGreatDoorEarlyPrivatesRun5
import Derived.Test.YtakmbfkehnfgaaaGreatDoorEarlyPrivatesRun6
import Derived.Test.YtakmbfkehnfgaaaGreatDoorEarlyPrivatesRun7
import Derived.Test.YtakmbfkehnfgaaaGreatDoorEarlyPrivatesRun8
import Derived.Test.YtakmbfkehnfgaaaGreatDoorEarlyPrivatesRun9
import Derived.Test.YtakmbfkehnfgaaaGreatDoorEarlyPrivatesRun10
import Derived.Test.YtakmbfkehnfgaaaGreatDoorEarlyPrivatesRun11
import Derived.Test.YtakmbfkehnfgaaaGreatDoorEarlyPrivatesRun12
import Derived.Test.YtakmbfkehnfgaaaGreatDoorEarlyPrivatesRun13
import Derived.Test.YtakmbfkehnfgaaaGreatDoorEarlyPrivatesRun14
import Derived.Test.YtakmbfkehnfgaaaGreatDoorEarlyPrivatesRun15
import Derived.Test.YtakmbfkehnfgaaaGreatDoorEarlyPrivatesRun16
import Derived.Test.YtakmbfkehnfgaaaGreatDoorEarlyPrivatesRun17
import Derived.Test.YtakmbfkehnfgaaaGreatDoorEarlyPrivatesRun18
import Derived.Test.YtakmbfkehnfgaaaGreatDoorEarlyPrivatesRun19
namespace Go.Proofs.YtakmbfkehnfgaaaGreatDoor
open Go Go.Ev
theorem tab_okEarlyPrivates {W : World} [Sig] (h : laidMetH Tryz.prog Rows.earlyPrivatesRow.laid W) : TabsOk W tabs := by
  have h' : laidMet Tryz.prog [("unicode/utf8.first", Rows.laid_unicode_utf8_first), ("unicode/utf8.acceptRanges", Rows.laid_unicode_utf8_acceptRanges), ("strings.asciiSpace", Rows.laid_strings_asciiSpace), ("unicode.White_Space", Rows.laid_unicode_White_Space)] W ∧ handlesMet Tryz.prog [("errors.errorType", Rows.laid_errors_errorType)] W := h
  obtain ⟨⟨ps, ⟨_, _, _, _, _, _, _, _, _, _, ⟨_, _, _, _, _, _, _, _, _, _, ⟨g, t, cs, f, p, q, hg, ht, hv, hd, _, _⟩, _⟩, _⟩, _, _⟩, hh⟩ := h'
  obtain rfl := Option.some.inj ((show Tryz.prog.globalNamed "strings.asciiSpace" = some 3 by kernel_rfl).symm.trans hg)
  obtain rfl := Option.some.inj ((show (Tryz.prog.globals[3]?).map (·.type) = some 250 by kernel_rfl).symm.trans ht)
  rw [ks_eq] at hd
  have h1 : TabOk W tab := tab_of_var (by kernel_rfl) hg (by decide) hv Tryz.underlying250 Tryz.underlying5 (by kernel_rfl) hd
  intro x hx
  obtain rfl := List.mem_singleton.1 hx
  exact h1
namespace EarlyPrivatesW
theorem at_ (a0 : Int) (a1 : Int) (a2 : Int) (r0 r1 r2 : Nat) (w : World) (hL : laidMetH Tryz.prog Rows.earlyPrivatesRow.laid w) (h0 : SymOk 4 4 r0 a0) (h1 : SymOk 4 4 r1 a1) (h2 : SymOk 0 6 r2 a2)
    (hv0 : ∀ v0 : Nat → Nat → Nat → Nat → Int, decV (Go.Ev.valOf v0) (symC 4 0 4 r0) = v0 4 0 4 r0) (hv1 : ∀ v0 : Nat → Nat → Nat → Nat → Int, decV (Go.Ev.valOf v0) (symC 4 1 4 r1) = v0 4 1 4 r1) (hv2 : ∀ v0 : Nat → Nat → Nat → Nat → Int, decV (Go.Ev.valOf v0) (symC 0 2 6 r2) = v0 0 2 6 r2)
    (hrun : isV (.bool true) ((fnsF Tryz.prog orc2 3000).call 5 [.int .i64 (symC 4 0 4 r0), .int .i64 (symC 4 1 4 r1), .int .i64 (symC 0 2 6 r2)] (hInit tabs)) = true) :
    Calls Tryz.prog 5 #[.int .i64 a0, .int .i64 a1, .int .i64 a2] w fun e w' => e = .returned (.bool true) ∧ Keeps w w' := by
  letI : Sig := sigOf (symVal [⟨4, 0, 4, r0, a0⟩, ⟨4, 1, 4, r1, a1⟩, ⟨0, 2, 6, r2, a2⟩]) (symVal_ok (fun s hs => by
    simp only [List.mem_cons, List.not_mem_nil, or_false] at hs
    rcases hs with rfl | rfl | rfl
    · exact h0
    · exact h1
    · exact h2))
  have ht := tab_okEarlyPrivates hL
  refine run_trueF progOk (orc2_ok w ht) ht (us := [.int .i64 a0, .int .i64 a1, .int .i64 a2]) (args := [.int .i64 (symC 4 0 4 r0), .int .i64 (symC 4 1 4 r1), .int .i64 (symC 0 2 6 r2)]) (n := 3000) ?_ hrun
  have hd0 : dec (symC 4 0 4 r0) = a0 := (hv0 _).trans (by simp [symVal])
  have hd1 : dec (symC 4 1 4 r1) = a1 := (hv1 _).trans (by simp [symVal])
  have hd2 : dec (symC 0 2 6 r2) = a2 := (hv2 _).trans (by simp [symVal])
  simp only [cvL, cv, hd0, hd1, hd2]
theorem hv0 (r : Nat) (h : r < 4) : ∀ v0 : Nat → Nat → Nat → Nat → Int, decV (Go.Ev.valOf v0) (symC 4 0 4 r) = v0 4 0 4 r := by
  rcases (show r = 0 ∨ r = 1 ∨ r = 2 ∨ r = 3 by omega) with rfl | rfl | rfl | rfl <;> exact fun _ => rfl
theorem hv1 (r : Nat) (h : r < 4) : ∀ v0 : Nat → Nat → Nat → Nat → Int, decV (Go.Ev.valOf v0) (symC 4 1 4 r) = v0 4 1 4 r := by
  rcases (show r = 0 ∨ r = 1 ∨ r = 2 ∨ r = 3 by omega) with rfl | rfl | rfl | rfl <;> exact fun _ => rfl
theorem hv2 (r : Nat) (h : r < 6) : ∀ v0 : Nat → Nat → Nat → Nat → Int, decV (Go.Ev.valOf v0) (symC 0 2 6 r) = v0 0 2 6 r := by
  rcases (show r = 0 ∨ r = 1 ∨ r = 2 ∨ r = 3 ∨ r = 4 ∨ r = 5 by omega) with rfl | rfl | rfl | rfl | rfl | rfl <;> exact fun _ => rfl
theorem all (r0 : Nat) (l0 : r0 < 4) (r1 : Nat) (l1 : r1 < 4) (r2 : Nat) (l2 : r2 < 6) : isV (.bool true) ((fnsF Tryz.prog orc2 3000).call 5 [.int .i64 (symC 4 0 4 r0), .int .i64 (symC 4 1 4 r1), .int .i64 (symC 0 2 6 r2)] (hInit tabs)) = true := by
  rcases (show r0 = 0 ∨ r0 = 1 ∨ r0 = 2 ∨ r0 = 3 by omega) with rfl | rfl | rfl | rfl
  · rcases (show r1 = 0 ∨ r1 = 1 ∨ r1 = 2 ∨ r1 = 3 by omega) with rfl | rfl | rfl | rfl
    · rcases (show r2 = 0 ∨ r2 = 1 ∨ r2 = 2 ∨ r2 = 3 ∨ r2 = 4 ∨ r2 = 5 by omega) with rfl | rfl | rfl | rfl | rfl | rfl
      · exact runEarlyPrivates_0_0_0
      · exact runEarlyPrivates_0_0_1
      · exact runEarlyPrivates_0_0_2
      · exact runEarlyPrivates_0_0_3
      · exact runEarlyPrivates_0_0_4
      · exact runEarlyPrivates_0_0_5
    · rcases (show r2 = 0 ∨ r2 = 1 ∨ r2 = 2 ∨ r2 = 3 ∨ r2 = 4 ∨ r2 = 5 by omega) with rfl | rfl | rfl | rfl | rfl | rfl
      · exact runEarlyPrivates_0_1_0
      · exact runEarlyPrivates_0_1_1
      · exact runEarlyPrivates_0_1_2
      · exact runEarlyPrivates_0_1_3
      · exact runEarlyPrivates_0_1_4
      · exact runEarlyPrivates_0_1_5
    · rcases (show r2 = 0 ∨ r2 = 1 ∨ r2 = 2 ∨ r2 = 3 ∨ r2 = 4 ∨ r2 = 5 by omega) with rfl | rfl | rfl | rfl | rfl | rfl
      · exact runEarlyPrivates_0_2_0
      · exact runEarlyPrivates_0_2_1
      · exact runEarlyPrivates_0_2_2
      · exact runEarlyPrivates_0_2_3
      · exact runEarlyPrivates_0_2_4
      · exact runEarlyPrivates_0_2_5
    · rcases (show r2 = 0 ∨ r2 = 1 ∨ r2 = 2 ∨ r2 = 3 ∨ r2 = 4 ∨ r2 = 5 by omega) with rfl | rfl | rfl | rfl | rfl | rfl
      · exact runEarlyPrivates_0_3_0
      · exact runEarlyPrivates_0_3_1
      · exact runEarlyPrivates_0_3_2
      · exact runEarlyPrivates_0_3_3
      · exact runEarlyPrivates_0_3_4
      · exact runEarlyPrivates_0_3_5
  · rcases (show r1 = 0 ∨ r1 = 1 ∨ r1 = 2 ∨ r1 = 3 by omega) with rfl | rfl | rfl | rfl
    · rcases (show r2 = 0 ∨ r2 = 1 ∨ r2 = 2 ∨ r2 = 3 ∨ r2 = 4 ∨ r2 = 5 by omega) with rfl | rfl | rfl | rfl | rfl | rfl
      · exact runEarlyPrivates_1_0_0
      · exact runEarlyPrivates_1_0_1
      · exact runEarlyPrivates_1_0_2
      · exact runEarlyPrivates_1_0_3
      · exact runEarlyPrivates_1_0_4
      · exact runEarlyPrivates_1_0_5
    · rcases (show r2 = 0 ∨ r2 = 1 ∨ r2 = 2 ∨ r2 = 3 ∨ r2 = 4 ∨ r2 = 5 by omega) with rfl | rfl | rfl | rfl | rfl | rfl
      · exact runEarlyPrivates_1_1_0
      · exact runEarlyPrivates_1_1_1
      · exact runEarlyPrivates_1_1_2
      · exact runEarlyPrivates_1_1_3
      · exact runEarlyPrivates_1_1_4
      · exact runEarlyPrivates_1_1_5
    · rcases (show r2 = 0 ∨ r2 = 1 ∨ r2 = 2 ∨ r2 = 3 ∨ r2 = 4 ∨ r2 = 5 by omega) with rfl | rfl | rfl | rfl | rfl | rfl
      · exact runEarlyPrivates_1_2_0
      · exact runEarlyPrivates_1_2_1
      · exact runEarlyPrivates_1_2_2
      · exact runEarlyPrivates_1_2_3
      · exact runEarlyPrivates_1_2_4
      · exact runEarlyPrivates_1_2_5
    · rcases (show r2 = 0 ∨ r2 = 1 ∨ r2 = 2 ∨ r2 = 3 ∨ r2 = 4 ∨ r2 = 5 by omega) with rfl | rfl | rfl | rfl | rfl | rfl
      · exact runEarlyPrivates_1_3_0
      · exact runEarlyPrivates_1_3_1
      · exact runEarlyPrivates_1_3_2
      · exact runEarlyPrivates_1_3_3
      · exact runEarlyPrivates_1_3_4
      · exact runEarlyPrivates_1_3_5
  · rcases (show r1 = 0 ∨ r1 = 1 ∨ r1 = 2 ∨ r1 = 3 by omega) with rfl | rfl | rfl | rfl
    · rcases (show r2 = 0 ∨ r2 = 1 ∨ r2 = 2 ∨ r2 = 3 ∨ r2 = 4 ∨ r2 = 5 by omega) with rfl | rfl | rfl | rfl | rfl | rfl
      · exact runEarlyPrivates_2_0_0
      · exact runEarlyPrivates_2_0_1
      · exact runEarlyPrivates_2_0_2
      · exact runEarlyPrivates_2_0_3
      · exact runEarlyPrivates_2_0_4
      · exact runEarlyPrivates_2_0_5
    · rcases (show r2 = 0 ∨ r2 = 1 ∨ r2 = 2 ∨ r2 = 3 ∨ r2 = 4 ∨ r2 = 5 by omega) with rfl | rfl | rfl | rfl | rfl | rfl
      · exact runEarlyPrivates_2_1_0
      · exact runEarlyPrivates_2_1_1
      · exact runEarlyPrivates_2_1_2
      · exact runEarlyPrivates_2_1_3
      · exact runEarlyPrivates_2_1_4
      · exact runEarlyPrivates_2_1_5
    · rcases (show r2 = 0 ∨ r2 = 1 ∨ r2 = 2 ∨ r2 = 3 ∨ r2 = 4 ∨ r2 = 5 by omega) with rfl | rfl | rfl | rfl | rfl | rfl
      · exact runEarlyPrivates_2_2_0
      · exact runEarlyPrivates_2_2_1
      · exact runEarlyPrivates_2_2_2
      · exact runEarlyPrivates_2_2_3
      · exact runEarlyPrivates_2_2_4
      · exact runEarlyPrivates_2_2_5
    · rcases (show r2 = 0 ∨ r2 = 1 ∨ r2 = 2 ∨ r2 = 3 ∨ r2 = 4 ∨ r2 = 5 by omega) with rfl | rfl | rfl | rfl | rfl | rfl
      · exact runEarlyPrivates_2_3_0
      · exact runEarlyPrivates_2_3_1
      · exact runEarlyPrivates_2_3_2
      · exact runEarlyPrivates_2_3_3
      · exact runEarlyPrivates_2_3_4
      · exact runEarlyPrivates_2_3_5
  · rcases (show r1 = 0 ∨ r1 = 1 ∨ r1 = 2 ∨ r1 = 3 by omega) with rfl | rfl | rfl | rfl
    · rcases (show r2 = 0 ∨ r2 = 1 ∨ r2 = 2 ∨ r2 = 3 ∨ r2 = 4 ∨ r2 = 5 by omega) with rfl | rfl | rfl | rfl | rfl | rfl
      · exact runEarlyPrivates_3_0_0
      · exact runEarlyPrivates_3_0_1
      · exact runEarlyPrivates_3_0_2
      · exact runEarlyPrivates_3_0_3
      · exact runEarlyPrivates_3_0_4
      · exact runEarlyPrivates_3_0_5
    · rcases (show r2 = 0 ∨ r2 = 1 ∨ r2 = 2 ∨ r2 = 3 ∨ r2 = 4 ∨ r2 = 5 by omega) with rfl | rfl | rfl | rfl | rfl | rfl
      · exact runEarlyPrivates_3_1_0
      · exact runEarlyPrivates_3_1_1
      · exact runEarlyPrivates_3_1_2
      · exact runEarlyPrivates_3_1_3
      · exact runEarlyPrivates_3_1_4
      · exact runEarlyPrivates_3_1_5
    · rcases (show r2 = 0 ∨ r2 = 1 ∨ r2 = 2 ∨ r2 = 3 ∨ r2 = 4 ∨ r2 = 5 by omega) with rfl | rfl | rfl | rfl | rfl | rfl
      · exact runEarlyPrivates_3_2_0
      · exact runEarlyPrivates_3_2_1
      · exact runEarlyPrivates_3_2_2
      · exact runEarlyPrivates_3_2_3
      · exact runEarlyPrivates_3_2_4
      · exact runEarlyPrivates_3_2_5
    · rcases (show r2 = 0 ∨ r2 = 1 ∨ r2 = 2 ∨ r2 = 3 ∨ r2 = 4 ∨ r2 = 5 by omega) with rfl | rfl | rfl | rfl | rfl | rfl
      · exact runEarlyPrivates_3_3_0
      · exact runEarlyPrivates_3_3_1
      · exact runEarlyPrivates_3_3_2
      · exact runEarlyPrivates_3_3_3
      · exact runEarlyPrivates_3_3_4
      · exact runEarlyPrivates_3_3_5
end EarlyPrivatesW
theorem walkEarlyPrivates (a0 : Int) (a1 : Int) (a2 : Int) (w : World) (hL : laidMetH Tryz.prog Rows.earlyPrivatesRow.laid w) : Calls Tryz.prog 5 #[.int .i64 a0, .int .i64 a1, .int .i64 a2] w fun e w' => e = .returned (.bool true) ∧ Keeps w w' := by
  obtain ⟨r0, l0, h0⟩ := symOk_ex 4 4 (by decide) (by decide) a0
  obtain ⟨r1, l1, h1⟩ := symOk_ex 4 4 (by decide) (by decide) a1
  obtain ⟨r2, l2, h2⟩ := symOk_ex 0 6 (by decide) (by decide) a2
  exact EarlyPrivatesW.at_ a0 a1 a2 r0 r1 r2 w hL h0 h1 h2 (EarlyPrivatesW.hv0 r0 l0) (EarlyPrivatesW.hv1 r1 l1) (EarlyPrivatesW.hv2 r2 l2) (EarlyPrivatesW.all r0 l0 r1 l1 r2 l2)
end Go.Proofs.YtakmbfkehnfgaaaGreatDoor
