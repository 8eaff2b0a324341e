/- Closed runs of the law CoverTexts: for each number of items. No condition. -/
import Derived.Test.YtgpibpkplhlihaaGreatDoorRpC
namespace Go.Proofs.YtgpibpkplhlihaaGreatDoor
open Go Go.Ev
theorem runD0 : runD 0 = true := by kernel_rfl
theorem runD1 : runD 1 = true := by kernel_rfl
theorem runD2 : runD 2 = true := by kernel_rfl
theorem runD3 : runD 3 = true := by kernel_rfl
end Go.Proofs.YtgpibpkplhlihaaGreatDoor
