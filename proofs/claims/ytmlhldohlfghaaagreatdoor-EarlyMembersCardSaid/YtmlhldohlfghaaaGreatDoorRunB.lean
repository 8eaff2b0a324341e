/- Closed runs of the law EarlyMembers: for each number of items and each verdict. No condition. -/
import Derived.Test.YtmlhldohlfghaaaGreatDoorRpM
namespace Go.Proofs.YtmlhldohlfghaaaGreatDoor
open Go Go.Ev
theorem runT5 : runJ true 5 = true := by kernel_rfl
theorem runT6 : runJ true 6 = true := by kernel_rfl
end Go.Proofs.YtmlhldohlfghaaaGreatDoor
