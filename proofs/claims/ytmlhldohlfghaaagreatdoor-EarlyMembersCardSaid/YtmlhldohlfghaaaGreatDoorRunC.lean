/- Closed runs of the law EarlyMembers: for each number of items and each verdict. No condition. -/
import Derived.Test.YtmlhldohlfghaaaGreatDoorRpM
namespace Go.Proofs.YtmlhldohlfghaaaGreatDoor
open Go Go.Ev
theorem runT7 : runJ true 7 = true := by kernel_rfl
theorem runT8 : runJ true 8 = true := by kernel_rfl
end Go.Proofs.YtmlhldohlfghaaaGreatDoor
