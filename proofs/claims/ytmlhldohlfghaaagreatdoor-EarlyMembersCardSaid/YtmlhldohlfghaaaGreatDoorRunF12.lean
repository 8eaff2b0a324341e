/- Closed runs of the law EarlyMembers: for each number of items and each verdict. No condition. -/
import Derived.Test.YtmlhldohlfghaaaGreatDoorRpM
namespace Go.Proofs.YtmlhldohlfghaaaGreatDoor
open Go Go.Ev
theorem runF12 : runJ false 12 = true := by kernel_rfl
end Go.Proofs.YtmlhldohlfghaaaGreatDoor
