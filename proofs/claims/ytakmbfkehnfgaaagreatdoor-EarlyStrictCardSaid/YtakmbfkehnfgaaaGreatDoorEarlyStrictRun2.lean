/- Closed runs of the law EarlyStrict: one for each residue of the arguments. No condition. -/
import Derived.Test.YtakmbfkehnfgaaaGreatDoorAw
namespace Go.Proofs.YtakmbfkehnfgaaaGreatDoor
open Go Go.Ev
theorem runsEarlyStrict_2_0 : ([[.int .i64 (symC 0 0 3 0), .int .i64 (symC 0 1 9 2)], [.int .i64 (symC 0 0 3 0), .int .i64 (symC 0 1 9 5)], [.int .i64 (symC 0 0 3 0), .int .i64 (symC 0 1 9 8)]] : List (List AV)).all (fun args => isV (.bool true) ((fnsF Tryz.prog orc2 3000).call 7 args (hInit tabs))) = true := by kernel_rfl
theorem runEarlyStrict_0_2 : isV (.bool true) ((fnsF Tryz.prog orc2 3000).call 7 [.int .i64 (symC 0 0 3 0), .int .i64 (symC 0 1 9 2)] (hInit tabs)) = true := List.all_eq_true.1 runsEarlyStrict_2_0 _ (.head _)
theorem runEarlyStrict_0_5 : isV (.bool true) ((fnsF Tryz.prog orc2 3000).call 7 [.int .i64 (symC 0 0 3 0), .int .i64 (symC 0 1 9 5)] (hInit tabs)) = true := List.all_eq_true.1 runsEarlyStrict_2_0 _ (.tail _ (.head _))
theorem runEarlyStrict_0_8 : isV (.bool true) ((fnsF Tryz.prog orc2 3000).call 7 [.int .i64 (symC 0 0 3 0), .int .i64 (symC 0 1 9 8)] (hInit tabs)) = true := List.all_eq_true.1 runsEarlyStrict_2_0 _ (.tail _ (.tail _ (.head _)))
theorem runsEarlyStrict_2_3 : ([[.int .i64 (symC 0 0 3 1), .int .i64 (symC 0 1 9 2)], [.int .i64 (symC 0 0 3 1), .int .i64 (symC 0 1 9 5)], [.int .i64 (symC 0 0 3 1), .int .i64 (symC 0 1 9 8)]] : List (List AV)).all (fun args => isV (.bool true) ((fnsF Tryz.prog orc2 3000).call 7 args (hInit tabs))) = true := by kernel_rfl
theorem runEarlyStrict_1_2 : isV (.bool true) ((fnsF Tryz.prog orc2 3000).call 7 [.int .i64 (symC 0 0 3 1), .int .i64 (symC 0 1 9 2)] (hInit tabs)) = true := List.all_eq_true.1 runsEarlyStrict_2_3 _ (.head _)
theorem runEarlyStrict_1_5 : isV (.bool true) ((fnsF Tryz.prog orc2 3000).call 7 [.int .i64 (symC 0 0 3 1), .int .i64 (symC 0 1 9 5)] (hInit tabs)) = true := List.all_eq_true.1 runsEarlyStrict_2_3 _ (.tail _ (.head _))
theorem runEarlyStrict_1_8 : isV (.bool true) ((fnsF Tryz.prog orc2 3000).call 7 [.int .i64 (symC 0 0 3 1), .int .i64 (symC 0 1 9 8)] (hInit tabs)) = true := List.all_eq_true.1 runsEarlyStrict_2_3 _ (.tail _ (.tail _ (.head _)))
theorem runsEarlyStrict_2_6 : ([[.int .i64 (symC 0 0 3 2), .int .i64 (symC 0 1 9 2)], [.int .i64 (symC 0 0 3 2), .int .i64 (symC 0 1 9 5)], [.int .i64 (symC 0 0 3 2), .int .i64 (symC 0 1 9 8)]] : List (List AV)).all (fun args => isV (.bool true) ((fnsF Tryz.prog orc2 3000).call 7 args (hInit tabs))) = true := by kernel_rfl
theorem runEarlyStrict_2_2 : isV (.bool true) ((fnsF Tryz.prog orc2 3000).call 7 [.int .i64 (symC 0 0 3 2), .int .i64 (symC 0 1 9 2)] (hInit tabs)) = true := List.all_eq_true.1 runsEarlyStrict_2_6 _ (.head _)
theorem runEarlyStrict_2_5 : isV (.bool true) ((fnsF Tryz.prog orc2 3000).call 7 [.int .i64 (symC 0 0 3 2), .int .i64 (symC 0 1 9 5)] (hInit tabs)) = true := List.all_eq_true.1 runsEarlyStrict_2_6 _ (.tail _ (.head _))
theorem runEarlyStrict_2_8 : isV (.bool true) ((fnsF Tryz.prog orc2 3000).call 7 [.int .i64 (symC 0 0 3 2), .int .i64 (symC 0 1 9 8)] (hInit tabs)) = true := List.all_eq_true.1 runsEarlyStrict_2_6 _ (.tail _ (.tail _ (.head _)))
end Go.Proofs.YtakmbfkehnfgaaaGreatDoor
