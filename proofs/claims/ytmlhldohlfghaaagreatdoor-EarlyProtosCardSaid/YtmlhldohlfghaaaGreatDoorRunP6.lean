/- Closed runs of the law EarlyProtos: for each number of items and each verdict. No condition. -/
import Derived.Test.YtmlhldohlfghaaaGreatDoorCutP
namespace Go.Proofs.YtmlhldohlfghaaaGreatDoor
open Go Go.Ev
theorem runT6 : runJ true (repP [0, 1, 2, 3, 4, 5, 6] 6) (upTo1 [0, 1, 2] [3, 4, 5, 6] 6) = true := by kernel_rfl
theorem runF6 : runJ false (repP [0, 1, 2, 3, 4, 5, 6] 6) (from2 [0, 1, 2] [3, 4, 5, 6] [0, 1, 2, 3, 4, 5, 6] 6) = true := by kernel_rfl
end Go.Proofs.YtmlhldohlfghaaaGreatDoor
