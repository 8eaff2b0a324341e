/- Closed runs of the law CoverTexts: for each number of items. No condition. -/
import Derived.Test.YtgpibpkplhlihaaGreatDoorRpC
namespace Go.Proofs.YtgpibpkplhlihaaGreatDoor
open Go Go.Ev
theorem runD6 : runD 6 = true := by kernel_rfl
end Go.Proofs.YtgpibpkplhlihaaGreatDoor
