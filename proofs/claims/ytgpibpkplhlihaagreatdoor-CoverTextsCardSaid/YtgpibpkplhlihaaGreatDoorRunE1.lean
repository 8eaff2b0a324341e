/- Closed runs of the law CoverTexts: for each number of items. No condition. -/
import Derived.Test.YtgpibpkplhlihaaGreatDoorRpC
namespace Go.Proofs.YtgpibpkplhlihaaGreatDoor
open Go Go.Ev
theorem runE1 : runE 1 = true := by kernel_rfl
theorem runE2 : runE 2 = true := by kernel_rfl
theorem runE3 : runE 3 = true := by kernel_rfl
end Go.Proofs.YtgpibpkplhlihaaGreatDoor
