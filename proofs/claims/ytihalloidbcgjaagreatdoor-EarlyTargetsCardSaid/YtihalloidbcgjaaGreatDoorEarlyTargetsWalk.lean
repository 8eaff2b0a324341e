/- The law EarlyTargets returns true whatever the arguments are: by their residues. No condition beyond the listed variables. -/
import Derived.Test.YtihalloidbcgjaaGreatDoorEarlyTargetsRun0
import Derived.Test.YtihalloidbcgjaaGreatDoorEarlyTargetsRun1
namespace Go.Proofs.YtihalloidbcgjaaGreatDoor
open Go Go.Ev
namespace EarlyTargetsW
theorem at_ (a0 : Int) (r0 : Nat) (w : World) (hL : laidMetH Tryz.prog Rows.earlyTargetsRow.laid w) (h0 : SymOk 0 6 r0 a0)
    (hv0 : ∀ v0 : Nat → Nat → Nat → Nat → Int, decV (valOf v0) (symC 0 0 6 r0) = v0 0 0 6 r0)
    (hrun : isV (.bool true) ((fns Tryz.prog orc2 3000).call 3 [.int .i64 (symC 0 0 6 r0)] (hInit [tab])) = true) :
    Calls Tryz.prog 3 #[.int .i64 a0] w fun e w' => e = .returned (.bool true) ∧ Keeps w w' := by
  letI : Sig := sigOf (symVal [⟨0, 0, 6, r0, a0⟩]) (symVal_ok (fun s hs => by rw [List.mem_singleton.1 hs]; exact h0))
  have ht := tab_ok hL
  refine run_true progOk (orc2_ok w ht) ht (us := [.int .i64 a0]) (args := [.int .i64 (symC 0 0 6 r0)]) (n := 3000) ?_ hrun
  have hd0 : dec (symC 0 0 6 r0) = a0 := (hv0 _).trans (by simp [symVal])
  simp only [cvL, cv, hd0]
theorem hv0 (r : Nat) (h : r < 6) : ∀ v0 : Nat → Nat → Nat → Nat → Int, decV (valOf v0) (symC 0 0 6 r) = v0 0 0 6 r := by
  rcases (show r = 0 ∨ r = 1 ∨ r = 2 ∨ r = 3 ∨ r = 4 ∨ r = 5 by omega) with rfl | rfl | rfl | rfl | rfl | rfl <;> exact fun _ => rfl
theorem all (r0 : Nat) (l0 : r0 < 6) : isV (.bool true) ((fns Tryz.prog orc2 3000).call 3 [.int .i64 (symC 0 0 6 r0)] (hInit [tab])) = true := by
  rcases (show r0 = 0 ∨ r0 = 1 ∨ r0 = 2 ∨ r0 = 3 ∨ r0 = 4 ∨ r0 = 5 by omega) with rfl | rfl | rfl | rfl | rfl | rfl
  · exact runEarlyTargets_0
  · exact runEarlyTargets_1
  · exact runEarlyTargets_2
  · exact runEarlyTargets_3
  · exact runEarlyTargets_4
  · exact runEarlyTargets_5
end EarlyTargetsW
theorem walkEarlyTargets (a0 : Int) (w : World) (hL : laidMetH Tryz.prog Rows.earlyTargetsRow.laid w) : Calls Tryz.prog 3 #[.int .i64 a0] w fun e w' => e = .returned (.bool true) ∧ Keeps w w' := by
  obtain ⟨r0, l0, h0⟩ := symOk_ex 0 6 (by decide) (by decide) a0
  exact EarlyTargetsW.at_ a0 r0 w hL h0 (EarlyTargetsW.hv0 r0 l0) (EarlyTargetsW.all r0 l0)
end Go.Proofs.YtihalloidbcgjaaGreatDoor
