/- Closed runs of the law CoverTexts: for each number of items. No condition. -/
import Derived.Test.YtgpibpkplhlihaaGreatDoorRpC
namespace Go.Proofs.YtgpibpkplhlihaaGreatDoor
open Go Go.Ev
theorem runD4 : runD 4 = true := by kernel_rfl
theorem runD5 : runD 5 = true := by kernel_rfl
end Go.Proofs.YtgpibpkplhlihaaGreatDoor
