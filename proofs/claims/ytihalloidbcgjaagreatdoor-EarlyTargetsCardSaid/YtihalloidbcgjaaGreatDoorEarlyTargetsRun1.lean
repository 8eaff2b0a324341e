/- Closed runs of the law EarlyTargets: one for each residue of the arguments. No condition. -/
import Derived.Test.YtihalloidbcgjaaGreatDoorAw
namespace Go.Proofs.YtihalloidbcgjaaGreatDoor
open Go Go.Ev
theorem runEarlyTargets_1 : isV (.bool true) ((fns Tryz.prog orc2 3000).call 3 [.int .i64 (symC 0 0 6 1)] (hInit [tab])) = true := by kernel_rfl
theorem runEarlyTargets_3 : isV (.bool true) ((fns Tryz.prog orc2 3000).call 3 [.int .i64 (symC 0 0 6 3)] (hInit [tab])) = true := by kernel_rfl
theorem runEarlyTargets_5 : isV (.bool true) ((fns Tryz.prog orc2 3000).call 3 [.int .i64 (symC 0 0 6 5)] (hInit [tab])) = true := by kernel_rfl
end Go.Proofs.YtihalloidbcgjaaGreatDoor
