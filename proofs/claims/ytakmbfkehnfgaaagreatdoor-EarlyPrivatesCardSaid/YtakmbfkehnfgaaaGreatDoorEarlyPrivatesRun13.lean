/- Closed runs of the law EarlyPrivates: one for each residue of the arguments. No condition. -/
import Derived.Test.YtakmbfkehnfgaaaGreatDoorAw
namespace Go.Proofs.YtakmbfkehnfgaaaGreatDoor
open Go Go.Ev
theorem runsEarlyPrivates_13_0 : ([[.int .i64 (symC 4 0 4 0), .int .i64 (symC 4 1 4 2), .int .i64 (symC 0 2 6 1)]] : List (List AV)).all (fun args => isV (.bool true) ((fnsF Tryz.prog orc2 3000).call 5 args (hInit tabs))) = true := by kernel_rfl
theorem runEarlyPrivates_0_2_1 : isV (.bool true) ((fnsF Tryz.prog orc2 3000).call 5 [.int .i64 (symC 4 0 4 0), .int .i64 (symC 4 1 4 2), .int .i64 (symC 0 2 6 1)] (hInit tabs)) = true := List.all_eq_true.1 runsEarlyPrivates_13_0 _ (.head _)
theorem runsEarlyPrivates_13_1 : ([[.int .i64 (symC 4 0 4 1), .int .i64 (symC 4 1 4 1), .int .i64 (symC 0 2 6 3)]] : List (List AV)).all (fun args => isV (.bool true) ((fnsF Tryz.prog orc2 3000).call 5 args (hInit tabs))) = true := by kernel_rfl
theorem runEarlyPrivates_1_1_3 : isV (.bool true) ((fnsF Tryz.prog orc2 3000).call 5 [.int .i64 (symC 4 0 4 1), .int .i64 (symC 4 1 4 1), .int .i64 (symC 0 2 6 3)] (hInit tabs)) = true := List.all_eq_true.1 runsEarlyPrivates_13_1 _ (.head _)
theorem runsEarlyPrivates_13_2 : ([[.int .i64 (symC 4 0 4 2), .int .i64 (symC 4 1 4 0), .int .i64 (symC 0 2 6 5)]] : List (List AV)).all (fun args => isV (.bool true) ((fnsF Tryz.prog orc2 3000).call 5 args (hInit tabs))) = true := by kernel_rfl
theorem runEarlyPrivates_2_0_5 : isV (.bool true) ((fnsF Tryz.prog orc2 3000).call 5 [.int .i64 (symC 4 0 4 2), .int .i64 (symC 4 1 4 0), .int .i64 (symC 0 2 6 5)] (hInit tabs)) = true := List.all_eq_true.1 runsEarlyPrivates_13_2 _ (.head _)
theorem runsEarlyPrivates_13_3 : ([[.int .i64 (symC 4 0 4 3), .int .i64 (symC 4 1 4 0), .int .i64 (symC 0 2 6 1)]] : List (List AV)).all (fun args => isV (.bool true) ((fnsF Tryz.prog orc2 3000).call 5 args (hInit tabs))) = true := by kernel_rfl
theorem runEarlyPrivates_3_0_1 : isV (.bool true) ((fnsF Tryz.prog orc2 3000).call 5 [.int .i64 (symC 4 0 4 3), .int .i64 (symC 4 1 4 0), .int .i64 (symC 0 2 6 1)] (hInit tabs)) = true := List.all_eq_true.1 runsEarlyPrivates_13_3 _ (.head _)
theorem runsEarlyPrivates_13_4 : ([[.int .i64 (symC 4 0 4 3), .int .i64 (symC 4 1 4 3), .int .i64 (symC 0 2 6 3)]] : List (List AV)).all (fun args => isV (.bool true) ((fnsF Tryz.prog orc2 3000).call 5 args (hInit tabs))) = true := by kernel_rfl
theorem runEarlyPrivates_3_3_3 : isV (.bool true) ((fnsF Tryz.prog orc2 3000).call 5 [.int .i64 (symC 4 0 4 3), .int .i64 (symC 4 1 4 3), .int .i64 (symC 0 2 6 3)] (hInit tabs)) = true := List.all_eq_true.1 runsEarlyPrivates_13_4 _ (.head _)
end Go.Proofs.YtakmbfkehnfgaaaGreatDoor
