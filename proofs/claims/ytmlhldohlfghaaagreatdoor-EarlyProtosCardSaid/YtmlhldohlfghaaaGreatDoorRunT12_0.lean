/- Closed runs of the law EarlyProtos: for each number of items and each verdict. No condition. -/
import Derived.Test.YtmlhldohlfghaaaGreatDoorCutP
namespace Go.Proofs.YtmlhldohlfghaaaGreatDoor
open Go Go.Ev
theorem runT12_0 : runJ true (repP [0, 1, 2, 3, 4, 5, 6] 12) (cutP 0 13 (upTo1 [0, 1, 2] [3, 4, 5, 6] 12)) = true := by kernel_rfl
end Go.Proofs.YtmlhldohlfghaaaGreatDoor
