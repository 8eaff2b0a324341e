/- The law EarlyReturns returns true whatever the arguments are: by their residues. No condition beyond the listed variables. -/
import Derived.Test.YtakmbfkehnfgaaaGreatDoorEarlyReturnsRun0
import Derived.Test.YtakmbfkehnfgaaaGreatDoorEarlyReturnsRun1
namespace Go.Proofs.YtakmbfkehnfgaaaGreatDoor
open Go Go.Ev
theorem tab_okEarlyReturns {W : World} [Sig] (h : laidMetH Tryz.prog Rows.earlyReturnsRow.laid W) : TabsOk W [tab] := by
  have h' : laidMet Tryz.prog [("unicode/utf8.first", Rows.laid_unicode_utf8_first), ("unicode/utf8.acceptRanges", Rows.laid_unicode_utf8_acceptRanges), ("strings.asciiSpace", Rows.laid_strings_asciiSpace), ("unicode.White_Space", Rows.laid_unicode_White_Space)] W ∧ handlesMet Tryz.prog [("errors.errorType", Rows.laid_errors_errorType)] W := h
  obtain ⟨⟨ps, ⟨_, _, _, _, _, _, _, _, _, _, ⟨_, _, _, _, _, _, _, _, _, _, ⟨g, t, cs, f, p, q, hg, ht, hv, hd, _, _⟩, _⟩, _⟩, _, _⟩, _⟩ := h'
  obtain rfl := Option.some.inj ((show Tryz.prog.globalNamed "strings.asciiSpace" = some 3 by kernel_rfl).symm.trans hg)
  obtain rfl := Option.some.inj ((show (Tryz.prog.globals[3]?).map (·.type) = some 250 by kernel_rfl).symm.trans ht)
  intro x hx
  obtain rfl := List.mem_singleton.1 hx
  rw [ks_eq] at hd
  exact tab_of_var (by kernel_rfl) hg (by decide) hv Tryz.underlying250 Tryz.underlying5 (by kernel_rfl) hd
namespace EarlyReturnsW
theorem at_ (a0 : Int) (b1 : Bool) (r0 : Nat) (w : World) (hL : laidMetH Tryz.prog Rows.earlyReturnsRow.laid w) (h0 : SymOk 0 7 r0 a0)
    (hv0 : ∀ v0 : Nat → Nat → Nat → Nat → Int, decV (Go.Ev.valOf v0) (symC 0 0 7 r0) = v0 0 0 7 r0)
    (hrun : isV (.bool true) ((fnsF Tryz.prog orc2 3000).call 9 [.int .i64 (symC 0 0 7 r0), .bool b1] (hInit [tab])) = true) :
    Calls Tryz.prog 9 #[.int .i64 a0, .bool b1] w fun e w' => e = .returned (.bool true) ∧ Keeps w w' := by
  letI : Sig := sigOf (symVal [⟨0, 0, 7, r0, a0⟩]) (symVal_ok (fun s hs => by rw [List.mem_singleton.1 hs]; exact h0))
  have ht := tab_okEarlyReturns hL
  refine run_trueF progOk (orc2_ok w ht) ht (us := [.int .i64 a0, .bool b1]) (args := [.int .i64 (symC 0 0 7 r0), .bool b1]) (n := 3000) ?_ hrun
  have hd0 : dec (symC 0 0 7 r0) = a0 := (hv0 _).trans (by simp [symVal])
  simp only [cvL, cv, hd0]
theorem hv0 (r : Nat) (h : r < 7) : ∀ v0 : Nat → Nat → Nat → Nat → Int, decV (Go.Ev.valOf v0) (symC 0 0 7 r) = v0 0 0 7 r := by
  rcases (show r = 0 ∨ r = 1 ∨ r = 2 ∨ r = 3 ∨ r = 4 ∨ r = 5 ∨ r = 6 by omega) with rfl | rfl | rfl | rfl | rfl | rfl | rfl <;> exact fun _ => rfl
theorem all (r0 : Nat) (l0 : r0 < 7) (b1 : Bool) : isV (.bool true) ((fnsF Tryz.prog orc2 3000).call 9 [.int .i64 (symC 0 0 7 r0), .bool b1] (hInit [tab])) = true := by
  rcases (show r0 = 0 ∨ r0 = 1 ∨ r0 = 2 ∨ r0 = 3 ∨ r0 = 4 ∨ r0 = 5 ∨ r0 = 6 by omega) with rfl | rfl | rfl | rfl | rfl | rfl | rfl
  · cases b1 with
    | true =>
      exact runEarlyReturns_0_t
    | false =>
      exact runEarlyReturns_0_f
  · cases b1 with
    | true =>
      exact runEarlyReturns_1_t
    | false =>
      exact runEarlyReturns_1_f
  · cases b1 with
    | true =>
      exact runEarlyReturns_2_t
    | false =>
      exact runEarlyReturns_2_f
  · cases b1 with
    | true =>
      exact runEarlyReturns_3_t
    | false =>
      exact runEarlyReturns_3_f
  · cases b1 with
    | true =>
      exact runEarlyReturns_4_t
    | false =>
      exact runEarlyReturns_4_f
  · cases b1 with
    | true =>
      exact runEarlyReturns_5_t
    | false =>
      exact runEarlyReturns_5_f
  · cases b1 with
    | true =>
      exact runEarlyReturns_6_t
    | false =>
      exact runEarlyReturns_6_f
end EarlyReturnsW
theorem walkEarlyReturns (a0 : Int) (b1 : Bool) (w : World) (hL : laidMetH Tryz.prog Rows.earlyReturnsRow.laid w) : Calls Tryz.prog 9 #[.int .i64 a0, .bool b1] w fun e w' => e = .returned (.bool true) ∧ Keeps w w' := by
  obtain ⟨r0, l0, h0⟩ := symOk_ex 0 7 (by decide) (by decide) a0
  exact EarlyReturnsW.at_ a0 b1 r0 w hL h0 (EarlyReturnsW.hv0 r0 l0) (EarlyReturnsW.all r0 l0 b1)
end Go.Proofs.YtakmbfkehnfgaaaGreatDoor
