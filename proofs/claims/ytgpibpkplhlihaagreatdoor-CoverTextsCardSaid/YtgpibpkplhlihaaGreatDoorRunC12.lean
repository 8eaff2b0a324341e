/- Closed runs of the law CoverTexts: twelve items, joined. No condition. -/
import Derived.Test.YtgpibpkplhlihaaGreatDoorRunC12a
import Derived.Test.YtgpibpkplhlihaaGreatDoorRunC12b
import Derived.Test.YtgpibpkplhlihaaGreatDoorRunC12c
namespace Go.Proofs.YtgpibpkplhlihaaGreatDoor
open Go Go.Ev
theorem allOk_app {f : List (List Nat) → Bool} : ∀ (l m : List (List (List Nat))), allOk f l = true → allOk f m = true → allOk f (l ++ m) = true
  | [], m, _, h => h
  | q :: l, m, h, h2 => by
    simp only [List.cons_append, allOk] at h ⊢
    split at h
    · rename_i hq
      first | exact allOk_app l m h h2 | (rw [hq]; exact allOk_app l m h h2)
    · cases h
theorem runC12 : runC 12 = true := by
  have h1 := runC12a
  have h2 := runC12b
  have h3 := runC12c
  unfold runC
  generalize (fnsF Tryz.prog orcCC 3000).call 7 [.pre (endI (txC (repP cA 12))), .bool false] (hInitT tabs (txC (repP cA 12)) []) = o at h1 h2 h3 ⊢
  unfold chkC
  split at h1
  · rename_i x h
    simp only at h2 h3 ⊢
    rw [Bool.and_eq_true] at h1
    have h4 := allOk_app _ _ h2 h3
    rw [List.take_append_drop] at h4
    rw [h1.1, h1.2, h4]
    rfl
  · cases h1
end Go.Proofs.YtgpibpkplhlihaaGreatDoor
