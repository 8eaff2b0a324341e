/- All answers of the law EarlyMembers are sound. No condition. -/
import Derived.Test.YtmlhldohlfghaaaGreatDoorRpM
import Derived.Test.YtmlhldohlfghaaaGreatDoorTqML
import Derived.Test.YtmlhldohlfghaaaGreatDoorTqMI
import Derived.Test.YtmlhldohlfghaaaGreatDoorTqMV
import Derived.Test.YtmlhldohlfghaaaGreatDoorLeft
import Derived.Test.YtmlhldohlfghaaaGreatDoorDepthD
namespace Go.Proofs.YtmlhldohlfghaaaGreatDoor
open Go Go.Ev
set_option linter.unusedSectionVars false
theorem orcB_ok (S : Sig) (W : Wb) : @TabsB S W tabs → @OrcOk S Tryz.prog W orcB := by
  refine @orcOf3_ok S Tryz.prog tabs anss [(68, hpT)] [(87, tmG jPlace lexTq)] anss_ok ?_ ?_ W
  · intro p hp
    rw [List.mem_singleton] at hp
    subst hp
    exact hp_ok
  · intro p hp
    rw [List.mem_singleton] at hp
    subst hp
    exact tmG_ok progOk tabs_closed orcA_ok (by kernel_rfl) lexAll
theorem orcC_ok (S : Sig) {KS : List Nat} {m : Nat} {v : Bool} (hm : KS.length = m) (hm2 : m ≤ 1000) (hK : ∀ j k, KS[j]? = some k → S.kap j = k) (h12 : ∀ k ∈ KS, k < 12) (hv : okM false KS = v) (W : Wb) : @TabsB S W tabs → @OrcOk S Tryz.prog W (orcC v m) := by
  refine @orcOf3_ok S Tryz.prog tabs anss [(68, hpT)] [(87, tmG jPlace lexTq), (213, tmG jLast itemTq), (15, tmG jLast visitTq), (17, leftM), (18, depthM), (66, membersM v m)] anss_ok ?_ ?_ W
  · intro p hp
    rw [List.mem_singleton] at hp
    subst hp
    exact hp_ok
  · intro p hp
    simp only [List.mem_cons, List.mem_nil_iff, or_false] at hp
    rcases hp with rfl | rfl | rfl | rfl | rfl | rfl
    · exact tmG_ok progOk tabs_closed orcA_ok (by kernel_rfl) lexAll
    · exact tmG_ok progOk tabs_closed orcB_ok (by kernel_rfl) itemAll
    · exact tmG_ok progOk tabs_closed orcA_ok (by kernel_rfl) visitAll
    · exact leftM_ok (by kernel_rfl) left_any
    · exact depthM_ok (by kernel_rfl) depth_any
    · exact membersM_ok hm hm2 hK h12 hv
end Go.Proofs.YtmlhldohlfghaaaGreatDoor
