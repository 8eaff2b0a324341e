/- Closed runs of the law SlotsCounts: one for each residue of the arguments. No condition. -/
import Derived.Test.YtjnfkhhjfjepoaaGreatDoorAw
namespace Go.Proofs.YtjnfkhhjfjepoaaGreatDoor
open Go Go.Ev
theorem runsSlotsCounts_17_0 : ([[.int .i64 (symC 4 0 16 1), .int .i64 (symC 0 1 9 8)]] : List (List AV)).all (fun args => isV (.bool true) ((fnsF Tryz.prog orc2 3000).call 4 args (hInit tabs))) = true := by kernel_rfl
theorem runSlotsCounts_1_8 : isV (.bool true) ((fnsF Tryz.prog orc2 3000).call 4 [.int .i64 (symC 4 0 16 1), .int .i64 (symC 0 1 9 8)] (hInit tabs)) = true := List.all_eq_true.1 runsSlotsCounts_17_0 _ (.head _)
theorem runsSlotsCounts_17_1 : ([[.int .i64 (symC 4 0 16 3), .int .i64 (symC 0 1 9 8)]] : List (List AV)).all (fun args => isV (.bool true) ((fnsF Tryz.prog orc2 3000).call 4 args (hInit tabs))) = true := by kernel_rfl
theorem runSlotsCounts_3_8 : isV (.bool true) ((fnsF Tryz.prog orc2 3000).call 4 [.int .i64 (symC 4 0 16 3), .int .i64 (symC 0 1 9 8)] (hInit tabs)) = true := List.all_eq_true.1 runsSlotsCounts_17_1 _ (.head _)
theorem runsSlotsCounts_17_2 : ([[.int .i64 (symC 4 0 16 5), .int .i64 (symC 0 1 9 8)]] : List (List AV)).all (fun args => isV (.bool true) ((fnsF Tryz.prog orc2 3000).call 4 args (hInit tabs))) = true := by kernel_rfl
theorem runSlotsCounts_5_8 : isV (.bool true) ((fnsF Tryz.prog orc2 3000).call 4 [.int .i64 (symC 4 0 16 5), .int .i64 (symC 0 1 9 8)] (hInit tabs)) = true := List.all_eq_true.1 runsSlotsCounts_17_2 _ (.head _)
theorem runsSlotsCounts_17_3 : ([[.int .i64 (symC 4 0 16 7), .int .i64 (symC 0 1 9 8)]] : List (List AV)).all (fun args => isV (.bool true) ((fnsF Tryz.prog orc2 3000).call 4 args (hInit tabs))) = true := by kernel_rfl
theorem runSlotsCounts_7_8 : isV (.bool true) ((fnsF Tryz.prog orc2 3000).call 4 [.int .i64 (symC 4 0 16 7), .int .i64 (symC 0 1 9 8)] (hInit tabs)) = true := List.all_eq_true.1 runsSlotsCounts_17_3 _ (.head _)
theorem runsSlotsCounts_17_4 : ([[.int .i64 (symC 4 0 16 9), .int .i64 (symC 0 1 9 8)]] : List (List AV)).all (fun args => isV (.bool true) ((fnsF Tryz.prog orc2 3000).call 4 args (hInit tabs))) = true := by kernel_rfl
theorem runSlotsCounts_9_8 : isV (.bool true) ((fnsF Tryz.prog orc2 3000).call 4 [.int .i64 (symC 4 0 16 9), .int .i64 (symC 0 1 9 8)] (hInit tabs)) = true := List.all_eq_true.1 runsSlotsCounts_17_4 _ (.head _)
theorem runsSlotsCounts_17_5 : ([[.int .i64 (symC 4 0 16 11), .int .i64 (symC 0 1 9 8)]] : List (List AV)).all (fun args => isV (.bool true) ((fnsF Tryz.prog orc2 3000).call 4 args (hInit tabs))) = true := by kernel_rfl
theorem runSlotsCounts_11_8 : isV (.bool true) ((fnsF Tryz.prog orc2 3000).call 4 [.int .i64 (symC 4 0 16 11), .int .i64 (symC 0 1 9 8)] (hInit tabs)) = true := List.all_eq_true.1 runsSlotsCounts_17_5 _ (.head _)
theorem runsSlotsCounts_17_6 : ([[.int .i64 (symC 4 0 16 13), .int .i64 (symC 0 1 9 8)]] : List (List AV)).all (fun args => isV (.bool true) ((fnsF Tryz.prog orc2 3000).call 4 args (hInit tabs))) = true := by kernel_rfl
theorem runSlotsCounts_13_8 : isV (.bool true) ((fnsF Tryz.prog orc2 3000).call 4 [.int .i64 (symC 4 0 16 13), .int .i64 (symC 0 1 9 8)] (hInit tabs)) = true := List.all_eq_true.1 runsSlotsCounts_17_6 _ (.head _)
theorem runsSlotsCounts_17_7 : ([[.int .i64 (symC 4 0 16 15), .int .i64 (symC 0 1 9 8)]] : List (List AV)).all (fun args => isV (.bool true) ((fnsF Tryz.prog orc2 3000).call 4 args (hInit tabs))) = true := by kernel_rfl
theorem runSlotsCounts_15_8 : isV (.bool true) ((fnsF Tryz.prog orc2 3000).call 4 [.int .i64 (symC 4 0 16 15), .int .i64 (symC 0 1 9 8)] (hInit tabs)) = true := List.all_eq_true.1 runsSlotsCounts_17_7 _ (.head _)
end Go.Proofs.YtjnfkhhjfjepoaaGreatDoor
