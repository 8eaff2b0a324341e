/- Closed runs of the law EarlyPrivates: one for each residue of the arguments. No condition. -/
import Derived.Test.YtakmbfkehnfgaaaGreatDoorAw
namespace Go.Proofs.YtakmbfkehnfgaaaGreatDoor
open Go Go.Ev
theorem runsEarlyPrivates_8_0 : ([[.int .i64 (symC 4 0 4 0), .int .i64 (symC 4 1 4 1), .int .i64 (symC 0 2 6 2)]] : List (List AV)).all (fun args => isV (.bool true) ((fnsF Tryz.prog orc2 3000).call 5 args (hInit tabs))) = true := by kernel_rfl
theorem runEarlyPrivates_0_1_2 : isV (.bool true) ((fnsF Tryz.prog orc2 3000).call 5 [.int .i64 (symC 4 0 4 0), .int .i64 (symC 4 1 4 1), .int .i64 (symC 0 2 6 2)] (hInit tabs)) = true := List.all_eq_true.1 runsEarlyPrivates_8_0 _ (.head _)
theorem runsEarlyPrivates_8_1 : ([[.int .i64 (symC 4 0 4 1), .int .i64 (symC 4 1 4 0), .int .i64 (symC 0 2 6 4)]] : List (List AV)).all (fun args => isV (.bool true) ((fnsF Tryz.prog orc2 3000).call 5 args (hInit tabs))) = true := by kernel_rfl
theorem runEarlyPrivates_1_0_4 : isV (.bool true) ((fnsF Tryz.prog orc2 3000).call 5 [.int .i64 (symC 4 0 4 1), .int .i64 (symC 4 1 4 0), .int .i64 (symC 0 2 6 4)] (hInit tabs)) = true := List.all_eq_true.1 runsEarlyPrivates_8_1 _ (.head _)
theorem runsEarlyPrivates_8_2 : ([[.int .i64 (symC 4 0 4 2), .int .i64 (symC 4 1 4 0), .int .i64 (symC 0 2 6 0)]] : List (List AV)).all (fun args => isV (.bool true) ((fnsF Tryz.prog orc2 3000).call 5 args (hInit tabs))) = true := by kernel_rfl
theorem runEarlyPrivates_2_0_0 : isV (.bool true) ((fnsF Tryz.prog orc2 3000).call 5 [.int .i64 (symC 4 0 4 2), .int .i64 (symC 4 1 4 0), .int .i64 (symC 0 2 6 0)] (hInit tabs)) = true := List.all_eq_true.1 runsEarlyPrivates_8_2 _ (.head _)
theorem runsEarlyPrivates_8_3 : ([[.int .i64 (symC 4 0 4 2), .int .i64 (symC 4 1 4 3), .int .i64 (symC 0 2 6 2)]] : List (List AV)).all (fun args => isV (.bool true) ((fnsF Tryz.prog orc2 3000).call 5 args (hInit tabs))) = true := by kernel_rfl
theorem runEarlyPrivates_2_3_2 : isV (.bool true) ((fnsF Tryz.prog orc2 3000).call 5 [.int .i64 (symC 4 0 4 2), .int .i64 (symC 4 1 4 3), .int .i64 (symC 0 2 6 2)] (hInit tabs)) = true := List.all_eq_true.1 runsEarlyPrivates_8_3 _ (.head _)
theorem runsEarlyPrivates_8_4 : ([[.int .i64 (symC 4 0 4 3), .int .i64 (symC 4 1 4 2), .int .i64 (symC 0 2 6 4)]] : List (List AV)).all (fun args => isV (.bool true) ((fnsF Tryz.prog orc2 3000).call 5 args (hInit tabs))) = true := by kernel_rfl
theorem runEarlyPrivates_3_2_4 : isV (.bool true) ((fnsF Tryz.prog orc2 3000).call 5 [.int .i64 (symC 4 0 4 3), .int .i64 (symC 4 1 4 2), .int .i64 (symC 0 2 6 4)] (hInit tabs)) = true := List.all_eq_true.1 runsEarlyPrivates_8_4 _ (.head _)
end Go.Proofs.YtakmbfkehnfgaaaGreatDoor
