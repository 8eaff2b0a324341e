/- Closed runs of the law EarlyMembers: for each number of items and each verdict. No condition. -/
import Derived.Test.YtmlhldohlfghaaaGreatDoorRpM
namespace Go.Proofs.YtmlhldohlfghaaaGreatDoor
open Go Go.Ev
theorem runF5 : runJ false 5 = true := by kernel_rfl
theorem runF6 : runJ false 6 = true := by kernel_rfl
end Go.Proofs.YtmlhldohlfghaaaGreatDoor
