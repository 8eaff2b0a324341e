/- Closed runs of the law EarlyMembers: for each number of items and each verdict. No condition. -/
import Derived.Test.YtmlhldohlfghaaaGreatDoorRpM
namespace Go.Proofs.YtmlhldohlfghaaaGreatDoor
open Go Go.Ev
theorem runF1 : runJ false 1 = true := by kernel_rfl
theorem runF2 : runJ false 2 = true := by kernel_rfl
theorem runF3 : runJ false 3 = true := by kernel_rfl
theorem runF4 : runJ false 4 = true := by kernel_rfl
end Go.Proofs.YtmlhldohlfghaaaGreatDoor
