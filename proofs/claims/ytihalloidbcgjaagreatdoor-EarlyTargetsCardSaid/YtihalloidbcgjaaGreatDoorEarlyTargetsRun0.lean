/- Closed runs of the law EarlyTargets: one for each residue of the arguments. No condition. -/
import Derived.Test.YtihalloidbcgjaaGreatDoorAw
namespace Go.Proofs.YtihalloidbcgjaaGreatDoor
open Go Go.Ev
theorem runEarlyTargets_0 : isV (.bool true) ((fns Tryz.prog orc2 3000).call 3 [.int .i64 (symC 0 0 6 0)] (hInit [tab])) = true := by kernel_rfl
theorem runEarlyTargets_2 : isV (.bool true) ((fns Tryz.prog orc2 3000).call 3 [.int .i64 (symC 0 0 6 2)] (hInit [tab])) = true := by kernel_rfl
theorem runEarlyTargets_4 : isV (.bool true) ((fns Tryz.prog orc2 3000).call 3 [.int .i64 (symC 0 0 6 4)] (hInit [tab])) = true := by kernel_rfl
end Go.Proofs.YtihalloidbcgjaaGreatDoor
