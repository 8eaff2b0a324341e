/- Closed runs of the law EarlyWaits: one for each residue of the arguments. No condition. -/
import Derived.Test.YtakmbfkehnfgaaaGreatDoorAw
namespace Go.Proofs.YtakmbfkehnfgaaaGreatDoor
open Go Go.Ev
theorem runsEarlyWaits_0_0 : ([[.int .i64 (symC 0 0 7 0)], [.int .i64 (symC 0 0 7 2)], [.int .i64 (symC 0 0 7 4)], [.int .i64 (symC 0 0 7 6)]] : List (List AV)).all (fun args => isV (.bool true) ((fnsF Tryz.prog orc2 3000).call 10 args (hInit [tab]))) = true := by kernel_rfl
theorem runEarlyWaits_0 : isV (.bool true) ((fnsF Tryz.prog orc2 3000).call 10 [.int .i64 (symC 0 0 7 0)] (hInit [tab])) = true := List.all_eq_true.1 runsEarlyWaits_0_0 _ (.head _)
theorem runEarlyWaits_2 : isV (.bool true) ((fnsF Tryz.prog orc2 3000).call 10 [.int .i64 (symC 0 0 7 2)] (hInit [tab])) = true := List.all_eq_true.1 runsEarlyWaits_0_0 _ (.tail _ (.head _))
theorem runEarlyWaits_4 : isV (.bool true) ((fnsF Tryz.prog orc2 3000).call 10 [.int .i64 (symC 0 0 7 4)] (hInit [tab])) = true := List.all_eq_true.1 runsEarlyWaits_0_0 _ (.tail _ (.tail _ (.head _)))
theorem runEarlyWaits_6 : isV (.bool true) ((fnsF Tryz.prog orc2 3000).call 10 [.int .i64 (symC 0 0 7 6)] (hInit [tab])) = true := List.all_eq_true.1 runsEarlyWaits_0_0 _ (.tail _ (.tail _ (.tail _ (.head _))))
end Go.Proofs.YtakmbfkehnfgaaaGreatDoor
