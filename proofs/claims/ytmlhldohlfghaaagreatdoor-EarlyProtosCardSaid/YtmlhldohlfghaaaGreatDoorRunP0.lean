/- Closed runs of the law EarlyProtos: for each number of items and each verdict. No condition. -/
import Derived.Test.YtmlhldohlfghaaaGreatDoorCutP
namespace Go.Proofs.YtmlhldohlfghaaaGreatDoor
open Go Go.Ev
theorem runT0 : runJ true (repP [0, 1, 2, 3, 4, 5, 6] 0) (upTo1 [0, 1, 2] [3, 4, 5, 6] 0) = true := by kernel_rfl
theorem runT1 : runJ true (repP [0, 1, 2, 3, 4, 5, 6] 1) (upTo1 [0, 1, 2] [3, 4, 5, 6] 1) = true := by kernel_rfl
theorem runT2 : runJ true (repP [0, 1, 2, 3, 4, 5, 6] 2) (upTo1 [0, 1, 2] [3, 4, 5, 6] 2) = true := by kernel_rfl
theorem runF2 : runJ false (repP [0, 1, 2, 3, 4, 5, 6] 2) (from2 [0, 1, 2] [3, 4, 5, 6] [0, 1, 2, 3, 4, 5, 6] 2) = true := by kernel_rfl
theorem runT3 : runJ true (repP [0, 1, 2, 3, 4, 5, 6] 3) (upTo1 [0, 1, 2] [3, 4, 5, 6] 3) = true := by kernel_rfl
theorem runF3 : runJ false (repP [0, 1, 2, 3, 4, 5, 6] 3) (from2 [0, 1, 2] [3, 4, 5, 6] [0, 1, 2, 3, 4, 5, 6] 3) = true := by kernel_rfl
theorem runT4 : runJ true (repP [0, 1, 2, 3, 4, 5, 6] 4) (upTo1 [0, 1, 2] [3, 4, 5, 6] 4) = true := by kernel_rfl
theorem runF4 : runJ false (repP [0, 1, 2, 3, 4, 5, 6] 4) (from2 [0, 1, 2] [3, 4, 5, 6] [0, 1, 2, 3, 4, 5, 6] 4) = true := by kernel_rfl
end Go.Proofs.YtmlhldohlfghaaaGreatDoor
