/- Closed runs of the law EarlyProtos: for each number of items and each verdict. No condition. -/
import Derived.Test.YtmlhldohlfghaaaGreatDoorCutP
namespace Go.Proofs.YtmlhldohlfghaaaGreatDoor
open Go Go.Ev
theorem runF11_0 : runJ false (repP [0, 1, 2, 3, 4, 5, 6] 11) (cutP 0 10 (from2 [0, 1, 2] [3, 4, 5, 6] [0, 1, 2, 3, 4, 5, 6] 11)) = true := by kernel_rfl
end Go.Proofs.YtmlhldohlfghaaaGreatDoor
