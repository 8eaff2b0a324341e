/- Closed runs of the law CoverTexts: for each number of items. No condition. -/
import Derived.Test.YtgpibpkplhlihaaGreatDoorRpC
namespace Go.Proofs.YtgpibpkplhlihaaGreatDoor
open Go Go.Ev
theorem runE12 : runE 12 = true := by kernel_rfl
end Go.Proofs.YtgpibpkplhlihaaGreatDoor
