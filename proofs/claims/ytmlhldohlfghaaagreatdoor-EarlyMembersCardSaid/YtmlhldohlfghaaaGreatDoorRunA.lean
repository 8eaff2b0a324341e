/- Closed runs of the law EarlyMembers: for each number of items and each verdict. No condition. -/
import Derived.Test.YtmlhldohlfghaaaGreatDoorRpM
namespace Go.Proofs.YtmlhldohlfghaaaGreatDoor
open Go Go.Ev
theorem runT0 : runJ true 0 = true := by kernel_rfl
theorem runT1 : runJ true 1 = true := by kernel_rfl
theorem runT2 : runJ true 2 = true := by kernel_rfl
theorem runT3 : runJ true 3 = true := by kernel_rfl
theorem runT4 : runJ true 4 = true := by kernel_rfl
end Go.Proofs.YtmlhldohlfghaaaGreatDoor
