/- Closed calls: awake() returns true; Decimal tells the digits. No condition. · The law ScopePatterns returns true, whatever the picks are. No condition beyond the listed variables. -/
import Derived.Test.YtgpibpkplhlihaaGreatDoorVpT
import Derived.Test.YtgpibpkplhlihaaGreatDoorJustPt
import Derived.Test.YtgpibpkplhlihaaGreatDoorRunPt0
import Derived.Test.YtgpibpkplhlihaaGreatDoorRunPt4
import Derived.Test.YtgpibpkplhlihaaGreatDoorRunPt6
import Derived.Test.YtgpibpkplhlihaaGreatDoorRunPt8
import Derived.Test.YtgpibpkplhlihaaGreatDoorRunPt10
import Derived.Test.YtgpibpkplhlihaaGreatDoorRunPt12
import Derived.Test.YtgpibpkplhlihaaGreatDoorRunPt13
import Derived.Test.YtgpibpkplhlihaaGreatDoorRunPt14
import Derived.Test.YtgpibpkplhlihaaGreatDoorRunPt15
import Derived.Test.YtgpibpkplhlihaaGreatDoorRunPt16
import Derived.Test.YtgpibpkplhlihaaGreatDoorRunPt17
import Derived.Test.YtgpibpkplhlihaaGreatDoorRunPt18
import Derived.Test.YtgpibpkplhlihaaGreatDoorRunPt19
import Derived.Test.YtgpibpkplhlihaaGreatDoorRunPt20
namespace Go.Proofs.YtgpibpkplhlihaaGreatDoor
open Go Go.Ev
set_option linter.unusedSectionVars false
variable [Sig]
theorem aw0 : Go.Ev.isV (.bool true) ((fnsF Tryz.prog orc 3000).call 10 [] (hInit tabs)) = true := by kernel_rfl
theorem decRuns : (List.range 20).all (fun j => Go.Ev.isV (.str (Nat.sub (nmV j).1 1) (Nat.div (nmV j).2 256)) ((fnsF Tryz.prog orc 3000).call 11 [.int .i64 (.ofNat j)] (hInit tabs))) = true := by kernel_rfl
end Go.Proofs.YtgpibpkplhlihaaGreatDoor
namespace Go.Proofs.YtgpibpkplhlihaaGreatDoor
open Go Go.Ev
theorem tab_okScopePatterns {W : World} [Sig] (h : laidMetH Tryz.prog Rows.scopePatternsRow.laid W) : TabsOk W tabs := by
  have h' : laidMet Tryz.prog [("unicode/utf8.acceptRanges", Rows.laid_unicode_utf8_acceptRanges), ("unicode.White_Space", Rows.laid_unicode_White_Space), ("strings.asciiSpace", Rows.laid_strings_asciiSpace), ("unicode/utf8.first", Rows.laid_unicode_utf8_first)] W ∧ handlesMet Tryz.prog [("errors.errorType", Rows.laid_errors_errorType)] W := h
  obtain ⟨⟨ps, ⟨_, _, _, _, _, _, _, _, _, _, ⟨_, _, _, _, _, _, _, _, _, _, ⟨g, t, cs, f, p, q, hg, ht, hv, hd, _, _⟩, _⟩, _⟩, _, _⟩, hh⟩ := h'
  obtain rfl := Option.some.inj ((show Tryz.prog.globalNamed "strings.asciiSpace" = some 1 by kernel_rfl).symm.trans hg)
  obtain rfl := Option.some.inj ((show (Tryz.prog.globals[1]?).map (·.type) = some 171 by kernel_rfl).symm.trans ht)
  rw [ks_eq] at hd
  have h1 : TabOk W tab := tab_of_var (by kernel_rfl) hg (by decide) hv Tryz.underlying171 Tryz.underlying5 (by kernel_rfl) hd
  intro x hx
  rcases List.mem_cons.1 hx with rfl | hx
  · exact h1
  · obtain rfl := List.mem_singleton.1 hx
    exact htab_ok hh
theorem runsP : ∀ (m : Nat), m ≤ 20 → runP m = true
  | 0, _ => runP0
  | 1, _ => runP1
  | 2, _ => runP2
  | 3, _ => runP3
  | 4, _ => runP4
  | 5, _ => runP5
  | 6, _ => runP6
  | 7, _ => runP7
  | 8, _ => runP8
  | 9, _ => runP9
  | 10, _ => runP10
  | 11, _ => runP11
  | 12, _ => runP12
  | 13, _ => runP13
  | 14, _ => runP14
  | 15, _ => runP15
  | 16, _ => runP16
  | 17, _ => runP17
  | 18, _ => runP18
  | 19, _ => runP19
  | 20, _ => runP20
  | m + 21, h => by omega
theorem picks_mem (z : Nat → Int) : ∀ (n : Nat), ∀ k ∈ picksP z n, k < 7
  | 0, k, h => by cases h
  | n + 1, k, h => by
    rw [picksP] at h
    rcases List.mem_append.1 h with h | h
    · exact picks_mem z n k h
    · rw [List.mem_singleton.1 h]; exact kindP_lt _
theorem dig_is : ∀ j, j < 20 → strB (Nat.sub (nmV j).1 1) (Nat.div (nmV j).2 256) = dB j := by decide +kernel
theorem walkScopePatterns (a : Option Addr) (len cap : Nat) (z : Nat → Int) (W : World) (hlen : len ≤ maxLen) (hz : ∀ i, i < len → ∃ b off, a = some ⟨b, off, none⟩ ∧ W.cell? ⟨b, off + i, none⟩ = some (.int .i64 (z i)))
    (hL : laidMetH Tryz.prog Rows.scopePatternsRow.laid W) : Calls Tryz.prog 4 #[.slice a len cap] W fun e w' => e = .returned (.bool true) ∧ Keeps W w' := by
  have ht : ∀ S : Sig, @TabsOk S W tabs := fun S => tab_okScopePatterns hL
  have h7 := picks_mem z (min len 20)
  have hm : (picksP z (min len 20)).length ≤ 20 := by rw [picksP_len]; omega
  refine pats_walk a len cap z W hlen hz (fun w hk => ?_) (fun j hj w hk => ?_) (fun w hk => ?_)
  · letI : Sig := sigOf (symVal []) (symVal_ok (fun s hs => by cases hs))
    have htw := (ht _).keeps hk
    exact run_trueF progOk (orc_ok _ htw.b) htw (us := []) (args := []) (n := 3000) (by simp only [cvL]) aw0
  · letI : Sig := sigOf (symVal []) (symVal_ok (fun s hs => by cases hs))
    have htw := (ht _).keeps hk
    have hr := List.all_eq_true.1 decRuns j (List.mem_range.2 hj)
    rw [fnsF_eq] at hr
    have := run_val progOk (orc_ok _ htw.b) htw (us := [.int .i64 (j : Int)]) hr (by simp only [cvL, cv]; rfl) (u := .string (strB (Nat.sub (nmV j).1 1) (Nat.div (nmV j).2 256))) (by simp only [cv])
    rw [dig_is j hj] at this
    exact this
  · exact progP_ok h7 hm (runsP _ hm) fun S => (ht S).keeps hk
end Go.Proofs.YtgpibpkplhlihaaGreatDoor
