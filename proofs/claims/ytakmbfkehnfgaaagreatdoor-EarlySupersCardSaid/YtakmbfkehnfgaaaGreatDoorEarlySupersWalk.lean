/- The law EarlySupers returns true whatever the arguments are: by their residues. No condition beyond the listed variables. -/
import Derived.Test.YtakmbfkehnfgaaaGreatDoorEarlySupersRun0
import Derived.Test.YtakmbfkehnfgaaaGreatDoorEarlySupersRun1
import Derived.Test.YtakmbfkehnfgaaaGreatDoorEarlySupersRun2
import Derived.Test.YtakmbfkehnfgaaaGreatDoorEarlySupersRun3
import Derived.Test.YtakmbfkehnfgaaaGreatDoorEarlySupersRun4
import Derived.Test.YtakmbfkehnfgaaaGreatDoorEarlySupersRun5
namespace Go.Proofs.YtakmbfkehnfgaaaGreatDoor
open Go Go.Ev
theorem tab_okEarlySupers {W : World} [Sig] (h : laidMetH Tryz.prog Rows.earlySupersRow.laid W) : TabsOk W tabs := by
  have h' : laidMet Tryz.prog [("unicode/utf8.first", Rows.laid_unicode_utf8_first), ("unicode/utf8.acceptRanges", Rows.laid_unicode_utf8_acceptRanges), ("strings.asciiSpace", Rows.laid_strings_asciiSpace), ("unicode.White_Space", Rows.laid_unicode_White_Space)] W ∧ handlesMet Tryz.prog [("errors.errorType", Rows.laid_errors_errorType)] W := h
  obtain ⟨⟨ps, ⟨_, _, _, _, _, _, _, _, _, _, ⟨_, _, _, _, _, _, _, _, _, _, ⟨g, t, cs, f, p, q, hg, ht, hv, hd, _, _⟩, _⟩, _⟩, _, _⟩, hh⟩ := h'
  obtain rfl := Option.some.inj ((show Tryz.prog.globalNamed "strings.asciiSpace" = some 3 by kernel_rfl).symm.trans hg)
  obtain rfl := Option.some.inj ((show (Tryz.prog.globals[3]?).map (·.type) = some 250 by kernel_rfl).symm.trans ht)
  rw [ks_eq] at hd
  have h1 : TabOk W tab := tab_of_var (by kernel_rfl) hg (by decide) hv Tryz.underlying250 Tryz.underlying5 (by kernel_rfl) hd
  intro x hx
  obtain rfl := List.mem_singleton.1 hx
  exact h1
namespace EarlySupersW
theorem at_ (a0 : Int) (b1 : Bool) (b2 : Bool) (r0 : Nat) (w : World) (hL : laidMetH Tryz.prog Rows.earlySupersRow.laid w) (h0 : SymOk 0 9 r0 a0)
    (hv0 : ∀ v0 : Nat → Nat → Nat → Nat → Int, decV (Go.Ev.valOf v0) (symC 0 0 9 r0) = v0 0 0 9 r0)
    (hrun : isV (.bool true) ((fnsF Tryz.prog orc2 3000).call 6 [.int .i64 (symC 0 0 9 r0), .bool b1, .bool b2] (hInit tabs)) = true) :
    Calls Tryz.prog 6 #[.int .i64 a0, .bool b1, .bool b2] w fun e w' => e = .returned (.bool true) ∧ Keeps w w' := by
  letI : Sig := sigOf (symVal [⟨0, 0, 9, r0, a0⟩]) (symVal_ok (fun s hs => by rw [List.mem_singleton.1 hs]; exact h0))
  have ht := tab_okEarlySupers hL
  refine run_trueF progOk (orc2_ok w ht) ht (us := [.int .i64 a0, .bool b1, .bool b2]) (args := [.int .i64 (symC 0 0 9 r0), .bool b1, .bool b2]) (n := 3000) ?_ hrun
  have hd0 : dec (symC 0 0 9 r0) = a0 := (hv0 _).trans (by simp [symVal])
  simp only [cvL, cv, hd0]
theorem hv0 (r : Nat) (h : r < 9) : ∀ v0 : Nat → Nat → Nat → Nat → Int, decV (Go.Ev.valOf v0) (symC 0 0 9 r) = v0 0 0 9 r := by
  rcases (show r = 0 ∨ r = 1 ∨ r = 2 ∨ r = 3 ∨ r = 4 ∨ r = 5 ∨ r = 6 ∨ r = 7 ∨ r = 8 by omega) with rfl | rfl | rfl | rfl | rfl | rfl | rfl | rfl | rfl <;> exact fun _ => rfl
theorem all (r0 : Nat) (l0 : r0 < 9) (b1 : Bool) (b2 : Bool) : isV (.bool true) ((fnsF Tryz.prog orc2 3000).call 6 [.int .i64 (symC 0 0 9 r0), .bool b1, .bool b2] (hInit tabs)) = true := by
  rcases (show r0 = 0 ∨ r0 = 1 ∨ r0 = 2 ∨ r0 = 3 ∨ r0 = 4 ∨ r0 = 5 ∨ r0 = 6 ∨ r0 = 7 ∨ r0 = 8 by omega) with rfl | rfl | rfl | rfl | rfl | rfl | rfl | rfl | rfl
  · cases b1 with
    | true =>
      cases b2 with
      | true =>
        exact runEarlySupers_0_t_t
      | false =>
        exact runEarlySupers_0_t_f
    | false =>
      cases b2 with
      | true =>
        exact runEarlySupers_0_f_t
      | false =>
        exact runEarlySupers_0_f_f
  · cases b1 with
    | true =>
      cases b2 with
      | true =>
        exact runEarlySupers_1_t_t
      | false =>
        exact runEarlySupers_1_t_f
    | false =>
      cases b2 with
      | true =>
        exact runEarlySupers_1_f_t
      | false =>
        exact runEarlySupers_1_f_f
  · cases b1 with
    | true =>
      cases b2 with
      | true =>
        exact runEarlySupers_2_t_t
      | false =>
        exact runEarlySupers_2_t_f
    | false =>
      cases b2 with
      | true =>
        exact runEarlySupers_2_f_t
      | false =>
        exact runEarlySupers_2_f_f
  · cases b1 with
    | true =>
      cases b2 with
      | true =>
        exact runEarlySupers_3_t_t
      | false =>
        exact runEarlySupers_3_t_f
    | false =>
      cases b2 with
      | true =>
        exact runEarlySupers_3_f_t
      | false =>
        exact runEarlySupers_3_f_f
  · cases b1 with
    | true =>
      cases b2 with
      | true =>
        exact runEarlySupers_4_t_t
      | false =>
        exact runEarlySupers_4_t_f
    | false =>
      cases b2 with
      | true =>
        exact runEarlySupers_4_f_t
      | false =>
        exact runEarlySupers_4_f_f
  · cases b1 with
    | true =>
      cases b2 with
      | true =>
        exact runEarlySupers_5_t_t
      | false =>
        exact runEarlySupers_5_t_f
    | false =>
      cases b2 with
      | true =>
        exact runEarlySupers_5_f_t
      | false =>
        exact runEarlySupers_5_f_f
  · cases b1 with
    | true =>
      cases b2 with
      | true =>
        exact runEarlySupers_6_t_t
      | false =>
        exact runEarlySupers_6_t_f
    | false =>
      cases b2 with
      | true =>
        exact runEarlySupers_6_f_t
      | false =>
        exact runEarlySupers_6_f_f
  · cases b1 with
    | true =>
      cases b2 with
      | true =>
        exact runEarlySupers_7_t_t
      | false =>
        exact runEarlySupers_7_t_f
    | false =>
      cases b2 with
      | true =>
        exact runEarlySupers_7_f_t
      | false =>
        exact runEarlySupers_7_f_f
  · cases b1 with
    | true =>
      cases b2 with
      | true =>
        exact runEarlySupers_8_t_t
      | false =>
        exact runEarlySupers_8_t_f
    | false =>
      cases b2 with
      | true =>
        exact runEarlySupers_8_f_t
      | false =>
        exact runEarlySupers_8_f_f
end EarlySupersW
theorem walkEarlySupers (a0 : Int) (b1 : Bool) (b2 : Bool) (w : World) (hL : laidMetH Tryz.prog Rows.earlySupersRow.laid w) : Calls Tryz.prog 6 #[.int .i64 a0, .bool b1, .bool b2] w fun e w' => e = .returned (.bool true) ∧ Keeps w w' := by
  obtain ⟨r0, l0, h0⟩ := symOk_ex 0 9 (by decide) (by decide) a0
  exact EarlySupersW.at_ a0 b1 b2 r0 w hL h0 (EarlySupersW.hv0 r0 l0) (EarlySupersW.all r0 l0 b1 b2)
end Go.Proofs.YtakmbfkehnfgaaaGreatDoor
