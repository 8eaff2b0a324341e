/- Closed runs of the law EarlyMembers: for each number of items and each verdict. No condition. -/
import Derived.Test.YtmlhldohlfghaaaGreatDoorRpM
namespace Go.Proofs.YtmlhldohlfghaaaGreatDoor
open Go Go.Ev
theorem runF7 : runJ false 7 = true := by kernel_rfl
theorem runF8 : runJ false 8 = true := by kernel_rfl
end Go.Proofs.YtmlhldohlfghaaaGreatDoor
