/- Closed runs of the law EarlyReturns: one for each residue of the arguments. No condition. -/
import Derived.Test.YtakmbfkehnfgaaaGreatDoorAw
namespace Go.Proofs.YtakmbfkehnfgaaaGreatDoor
open Go Go.Ev
theorem runsEarlyReturns_1_0 : ([[.int .i64 (symC 0 0 7 0), .bool false], [.int .i64 (symC 0 0 7 1), .bool false], [.int .i64 (symC 0 0 7 2), .bool false], [.int .i64 (symC 0 0 7 3), .bool false], [.int .i64 (symC 0 0 7 4), .bool false], [.int .i64 (symC 0 0 7 5), .bool false]] : List (List AV)).all (fun args => isV (.bool true) ((fnsF Tryz.prog orc2 3000).call 9 args (hInit [tab]))) = true := by kernel_rfl
theorem runEarlyReturns_0_f : isV (.bool true) ((fnsF Tryz.prog orc2 3000).call 9 [.int .i64 (symC 0 0 7 0), .bool false] (hInit [tab])) = true := List.all_eq_true.1 runsEarlyReturns_1_0 _ (.head _)
theorem runEarlyReturns_1_f : isV (.bool true) ((fnsF Tryz.prog orc2 3000).call 9 [.int .i64 (symC 0 0 7 1), .bool false] (hInit [tab])) = true := List.all_eq_true.1 runsEarlyReturns_1_0 _ (.tail _ (.head _))
theorem runEarlyReturns_2_f : isV (.bool true) ((fnsF Tryz.prog orc2 3000).call 9 [.int .i64 (symC 0 0 7 2), .bool false] (hInit [tab])) = true := List.all_eq_true.1 runsEarlyReturns_1_0 _ (.tail _ (.tail _ (.head _)))
theorem runEarlyReturns_3_f : isV (.bool true) ((fnsF Tryz.prog orc2 3000).call 9 [.int .i64 (symC 0 0 7 3), .bool false] (hInit [tab])) = true := List.all_eq_true.1 runsEarlyReturns_1_0 _ (.tail _ (.tail _ (.tail _ (.head _))))
theorem runEarlyReturns_4_f : isV (.bool true) ((fnsF Tryz.prog orc2 3000).call 9 [.int .i64 (symC 0 0 7 4), .bool false] (hInit [tab])) = true := List.all_eq_true.1 runsEarlyReturns_1_0 _ (.tail _ (.tail _ (.tail _ (.tail _ (.head _)))))
theorem runEarlyReturns_5_f : isV (.bool true) ((fnsF Tryz.prog orc2 3000).call 9 [.int .i64 (symC 0 0 7 5), .bool false] (hInit [tab])) = true := List.all_eq_true.1 runsEarlyReturns_1_0 _ (.tail _ (.tail _ (.tail _ (.tail _ (.tail _ (.head _))))))
theorem runsEarlyReturns_1_6 : ([[.int .i64 (symC 0 0 7 6), .bool false]] : List (List AV)).all (fun args => isV (.bool true) ((fnsF Tryz.prog orc2 3000).call 9 args (hInit [tab]))) = true := by kernel_rfl
theorem runEarlyReturns_6_f : isV (.bool true) ((fnsF Tryz.prog orc2 3000).call 9 [.int .i64 (symC 0 0 7 6), .bool false] (hInit [tab])) = true := List.all_eq_true.1 runsEarlyReturns_1_6 _ (.head _)
end Go.Proofs.YtakmbfkehnfgaaaGreatDoor
