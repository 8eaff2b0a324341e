/- Closed runs of the law EarlyWaits: one for each residue of the arguments. No condition. -/
import Derived.Test.YtakmbfkehnfgaaaGreatDoorAw
namespace Go.Proofs.YtakmbfkehnfgaaaGreatDoor
open Go Go.Ev
theorem runsEarlyWaits_1_0 : ([[.int .i64 (symC 0 0 7 1)], [.int .i64 (symC 0 0 7 3)], [.int .i64 (symC 0 0 7 5)]] : List (List AV)).all (fun args => isV (.bool true) ((fnsF Tryz.prog orc2 3000).call 10 args (hInit [tab]))) = true := by kernel_rfl
theorem runEarlyWaits_1 : isV (.bool true) ((fnsF Tryz.prog orc2 3000).call 10 [.int .i64 (symC 0 0 7 1)] (hInit [tab])) = true := List.all_eq_true.1 runsEarlyWaits_1_0 _ (.head _)
theorem runEarlyWaits_3 : isV (.bool true) ((fnsF Tryz.prog orc2 3000).call 10 [.int .i64 (symC 0 0 7 3)] (hInit [tab])) = true := List.all_eq_true.1 runsEarlyWaits_1_0 _ (.tail _ (.head _))
theorem runEarlyWaits_5 : isV (.bool true) ((fnsF Tryz.prog orc2 3000).call 10 [.int .i64 (symC 0 0 7 5)] (hInit [tab])) = true := List.all_eq_true.1 runsEarlyWaits_1_0 _ (.tail _ (.tail _ (.head _)))
end Go.Proofs.YtakmbfkehnfgaaaGreatDoor
