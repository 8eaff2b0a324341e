/- Closed runs of the law EarlyDeletes: one for each residue of the arguments. No condition. -/
import Derived.Test.YtakmbfkehnfgaaaGreatDoorAw
namespace Go.Proofs.YtakmbfkehnfgaaaGreatDoor
open Go Go.Ev
theorem runsEarlyDeletes_0_0 : ([[.int .i64 (symC 0 0 6 0), .int .i64 (symC 4 1 4 0)], [.int .i64 (symC 0 0 6 0), .int .i64 (symC 4 1 4 3)], [.int .i64 (symC 0 0 6 1), .int .i64 (symC 4 1 4 2)]] : List (List AV)).all (fun args => isV (.bool true) ((fnsF Tryz.prog orc2 3000).call 8 args (hInit tabs))) = true := by kernel_rfl
theorem runEarlyDeletes_0_0 : isV (.bool true) ((fnsF Tryz.prog orc2 3000).call 8 [.int .i64 (symC 0 0 6 0), .int .i64 (symC 4 1 4 0)] (hInit tabs)) = true := List.all_eq_true.1 runsEarlyDeletes_0_0 _ (.head _)
theorem runEarlyDeletes_0_3 : isV (.bool true) ((fnsF Tryz.prog orc2 3000).call 8 [.int .i64 (symC 0 0 6 0), .int .i64 (symC 4 1 4 3)] (hInit tabs)) = true := List.all_eq_true.1 runsEarlyDeletes_0_0 _ (.tail _ (.head _))
theorem runEarlyDeletes_1_2 : isV (.bool true) ((fnsF Tryz.prog orc2 3000).call 8 [.int .i64 (symC 0 0 6 1), .int .i64 (symC 4 1 4 2)] (hInit tabs)) = true := List.all_eq_true.1 runsEarlyDeletes_0_0 _ (.tail _ (.tail _ (.head _)))
theorem runsEarlyDeletes_0_3 : ([[.int .i64 (symC 0 0 6 2), .int .i64 (symC 4 1 4 1)], [.int .i64 (symC 0 0 6 3), .int .i64 (symC 4 1 4 0)], [.int .i64 (symC 0 0 6 3), .int .i64 (symC 4 1 4 3)]] : List (List AV)).all (fun args => isV (.bool true) ((fnsF Tryz.prog orc2 3000).call 8 args (hInit tabs))) = true := by kernel_rfl
theorem runEarlyDeletes_2_1 : isV (.bool true) ((fnsF Tryz.prog orc2 3000).call 8 [.int .i64 (symC 0 0 6 2), .int .i64 (symC 4 1 4 1)] (hInit tabs)) = true := List.all_eq_true.1 runsEarlyDeletes_0_3 _ (.head _)
theorem runEarlyDeletes_3_0 : isV (.bool true) ((fnsF Tryz.prog orc2 3000).call 8 [.int .i64 (symC 0 0 6 3), .int .i64 (symC 4 1 4 0)] (hInit tabs)) = true := List.all_eq_true.1 runsEarlyDeletes_0_3 _ (.tail _ (.head _))
theorem runEarlyDeletes_3_3 : isV (.bool true) ((fnsF Tryz.prog orc2 3000).call 8 [.int .i64 (symC 0 0 6 3), .int .i64 (symC 4 1 4 3)] (hInit tabs)) = true := List.all_eq_true.1 runsEarlyDeletes_0_3 _ (.tail _ (.tail _ (.head _)))
theorem runsEarlyDeletes_0_6 : ([[.int .i64 (symC 0 0 6 4), .int .i64 (symC 4 1 4 2)], [.int .i64 (symC 0 0 6 5), .int .i64 (symC 4 1 4 1)]] : List (List AV)).all (fun args => isV (.bool true) ((fnsF Tryz.prog orc2 3000).call 8 args (hInit tabs))) = true := by kernel_rfl
theorem runEarlyDeletes_4_2 : isV (.bool true) ((fnsF Tryz.prog orc2 3000).call 8 [.int .i64 (symC 0 0 6 4), .int .i64 (symC 4 1 4 2)] (hInit tabs)) = true := List.all_eq_true.1 runsEarlyDeletes_0_6 _ (.head _)
theorem runEarlyDeletes_5_1 : isV (.bool true) ((fnsF Tryz.prog orc2 3000).call 8 [.int .i64 (symC 0 0 6 5), .int .i64 (symC 4 1 4 1)] (hInit tabs)) = true := List.all_eq_true.1 runsEarlyDeletes_0_6 _ (.tail _ (.head _))
end Go.Proofs.YtakmbfkehnfgaaaGreatDoor
