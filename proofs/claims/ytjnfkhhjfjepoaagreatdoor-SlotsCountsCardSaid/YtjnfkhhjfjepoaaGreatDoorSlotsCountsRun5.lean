/- Closed runs of the law SlotsCounts: one for each residue of the arguments. No condition. -/
import Derived.Test.YtjnfkhhjfjepoaaGreatDoorAw
namespace Go.Proofs.YtjnfkhhjfjepoaaGreatDoor
open Go Go.Ev
theorem runsSlotsCounts_5_0 : ([[.int .i64 (symC 4 0 16 0), .int .i64 (symC 0 1 9 5)]] : List (List AV)).all (fun args => isV (.bool true) ((fnsF Tryz.prog orc2 3000).call 4 args (hInit tabs))) = true := by kernel_rfl
theorem runSlotsCounts_0_5 : isV (.bool true) ((fnsF Tryz.prog orc2 3000).call 4 [.int .i64 (symC 4 0 16 0), .int .i64 (symC 0 1 9 5)] (hInit tabs)) = true := List.all_eq_true.1 runsSlotsCounts_5_0 _ (.head _)
theorem runsSlotsCounts_5_1 : ([[.int .i64 (symC 4 0 16 2), .int .i64 (symC 0 1 9 5)]] : List (List AV)).all (fun args => isV (.bool true) ((fnsF Tryz.prog orc2 3000).call 4 args (hInit tabs))) = true := by kernel_rfl
theorem runSlotsCounts_2_5 : isV (.bool true) ((fnsF Tryz.prog orc2 3000).call 4 [.int .i64 (symC 4 0 16 2), .int .i64 (symC 0 1 9 5)] (hInit tabs)) = true := List.all_eq_true.1 runsSlotsCounts_5_1 _ (.head _)
theorem runsSlotsCounts_5_2 : ([[.int .i64 (symC 4 0 16 4), .int .i64 (symC 0 1 9 5)]] : List (List AV)).all (fun args => isV (.bool true) ((fnsF Tryz.prog orc2 3000).call 4 args (hInit tabs))) = true := by kernel_rfl
theorem runSlotsCounts_4_5 : isV (.bool true) ((fnsF Tryz.prog orc2 3000).call 4 [.int .i64 (symC 4 0 16 4), .int .i64 (symC 0 1 9 5)] (hInit tabs)) = true := List.all_eq_true.1 runsSlotsCounts_5_2 _ (.head _)
theorem runsSlotsCounts_5_3 : ([[.int .i64 (symC 4 0 16 6), .int .i64 (symC 0 1 9 5)]] : List (List AV)).all (fun args => isV (.bool true) ((fnsF Tryz.prog orc2 3000).call 4 args (hInit tabs))) = true := by kernel_rfl
theorem runSlotsCounts_6_5 : isV (.bool true) ((fnsF Tryz.prog orc2 3000).call 4 [.int .i64 (symC 4 0 16 6), .int .i64 (symC 0 1 9 5)] (hInit tabs)) = true := List.all_eq_true.1 runsSlotsCounts_5_3 _ (.head _)
theorem runsSlotsCounts_5_4 : ([[.int .i64 (symC 4 0 16 8), .int .i64 (symC 0 1 9 5)]] : List (List AV)).all (fun args => isV (.bool true) ((fnsF Tryz.prog orc2 3000).call 4 args (hInit tabs))) = true := by kernel_rfl
theorem runSlotsCounts_8_5 : isV (.bool true) ((fnsF Tryz.prog orc2 3000).call 4 [.int .i64 (symC 4 0 16 8), .int .i64 (symC 0 1 9 5)] (hInit tabs)) = true := List.all_eq_true.1 runsSlotsCounts_5_4 _ (.head _)
theorem runsSlotsCounts_5_5 : ([[.int .i64 (symC 4 0 16 10), .int .i64 (symC 0 1 9 5)]] : List (List AV)).all (fun args => isV (.bool true) ((fnsF Tryz.prog orc2 3000).call 4 args (hInit tabs))) = true := by kernel_rfl
theorem runSlotsCounts_10_5 : isV (.bool true) ((fnsF Tryz.prog orc2 3000).call 4 [.int .i64 (symC 4 0 16 10), .int .i64 (symC 0 1 9 5)] (hInit tabs)) = true := List.all_eq_true.1 runsSlotsCounts_5_5 _ (.head _)
theorem runsSlotsCounts_5_6 : ([[.int .i64 (symC 4 0 16 12), .int .i64 (symC 0 1 9 5)]] : List (List AV)).all (fun args => isV (.bool true) ((fnsF Tryz.prog orc2 3000).call 4 args (hInit tabs))) = true := by kernel_rfl
theorem runSlotsCounts_12_5 : isV (.bool true) ((fnsF Tryz.prog orc2 3000).call 4 [.int .i64 (symC 4 0 16 12), .int .i64 (symC 0 1 9 5)] (hInit tabs)) = true := List.all_eq_true.1 runsSlotsCounts_5_6 _ (.head _)
theorem runsSlotsCounts_5_7 : ([[.int .i64 (symC 4 0 16 14), .int .i64 (symC 0 1 9 5)]] : List (List AV)).all (fun args => isV (.bool true) ((fnsF Tryz.prog orc2 3000).call 4 args (hInit tabs))) = true := by kernel_rfl
theorem runSlotsCounts_14_5 : isV (.bool true) ((fnsF Tryz.prog orc2 3000).call 4 [.int .i64 (symC 4 0 16 14), .int .i64 (symC 0 1 9 5)] (hInit tabs)) = true := List.all_eq_true.1 runsSlotsCounts_5_7 _ (.head _)
end Go.Proofs.YtjnfkhhjfjepoaaGreatDoor
