/- Closed runs of the law CoverTexts: for each number of items. No condition. -/
import Derived.Test.YtgpibpkplhlihaaGreatDoorRpC
namespace Go.Proofs.YtgpibpkplhlihaaGreatDoor
open Go Go.Ev
theorem runC0 : runC 0 = true := by kernel_rfl
theorem runC1 : runC 1 = true := by kernel_rfl
theorem runC2 : runC 2 = true := by kernel_rfl
theorem runC3 : runC 3 = true := by kernel_rfl
end Go.Proofs.YtgpibpkplhlihaaGreatDoor
