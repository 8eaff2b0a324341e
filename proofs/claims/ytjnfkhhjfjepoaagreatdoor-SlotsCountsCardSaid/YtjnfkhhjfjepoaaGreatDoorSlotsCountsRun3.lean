/- Closed runs of the law SlotsCounts: one for each residue of the arguments. No condition. -/
import Derived.Test.YtjnfkhhjfjepoaaGreatDoorAw
namespace Go.Proofs.YtjnfkhhjfjepoaaGreatDoor
open Go Go.Ev
theorem runsSlotsCounts_3_0 : ([[.int .i64 (symC 4 0 16 0), .int .i64 (symC 0 1 9 3)]] : List (List AV)).all (fun args => isV (.bool true) ((fnsF Tryz.prog orc2 3000).call 4 args (hInit tabs))) = true := by kernel_rfl
theorem runSlotsCounts_0_3 : isV (.bool true) ((fnsF Tryz.prog orc2 3000).call 4 [.int .i64 (symC 4 0 16 0), .int .i64 (symC 0 1 9 3)] (hInit tabs)) = true := List.all_eq_true.1 runsSlotsCounts_3_0 _ (.head _)
theorem runsSlotsCounts_3_1 : ([[.int .i64 (symC 4 0 16 2), .int .i64 (symC 0 1 9 3)]] : List (List AV)).all (fun args => isV (.bool true) ((fnsF Tryz.prog orc2 3000).call 4 args (hInit tabs))) = true := by kernel_rfl
theorem runSlotsCounts_2_3 : isV (.bool true) ((fnsF Tryz.prog orc2 3000).call 4 [.int .i64 (symC 4 0 16 2), .int .i64 (symC 0 1 9 3)] (hInit tabs)) = true := List.all_eq_true.1 runsSlotsCounts_3_1 _ (.head _)
theorem runsSlotsCounts_3_2 : ([[.int .i64 (symC 4 0 16 4), .int .i64 (symC 0 1 9 3)]] : List (List AV)).all (fun args => isV (.bool true) ((fnsF Tryz.prog orc2 3000).call 4 args (hInit tabs))) = true := by kernel_rfl
theorem runSlotsCounts_4_3 : isV (.bool true) ((fnsF Tryz.prog orc2 3000).call 4 [.int .i64 (symC 4 0 16 4), .int .i64 (symC 0 1 9 3)] (hInit tabs)) = true := List.all_eq_true.1 runsSlotsCounts_3_2 _ (.head _)
theorem runsSlotsCounts_3_3 : ([[.int .i64 (symC 4 0 16 6), .int .i64 (symC 0 1 9 3)]] : List (List AV)).all (fun args => isV (.bool true) ((fnsF Tryz.prog orc2 3000).call 4 args (hInit tabs))) = true := by kernel_rfl
theorem runSlotsCounts_6_3 : isV (.bool true) ((fnsF Tryz.prog orc2 3000).call 4 [.int .i64 (symC 4 0 16 6), .int .i64 (symC 0 1 9 3)] (hInit tabs)) = true := List.all_eq_true.1 runsSlotsCounts_3_3 _ (.head _)
theorem runsSlotsCounts_3_4 : ([[.int .i64 (symC 4 0 16 8), .int .i64 (symC 0 1 9 3)]] : List (List AV)).all (fun args => isV (.bool true) ((fnsF Tryz.prog orc2 3000).call 4 args (hInit tabs))) = true := by kernel_rfl
theorem runSlotsCounts_8_3 : isV (.bool true) ((fnsF Tryz.prog orc2 3000).call 4 [.int .i64 (symC 4 0 16 8), .int .i64 (symC 0 1 9 3)] (hInit tabs)) = true := List.all_eq_true.1 runsSlotsCounts_3_4 _ (.head _)
theorem runsSlotsCounts_3_5 : ([[.int .i64 (symC 4 0 16 10), .int .i64 (symC 0 1 9 3)]] : List (List AV)).all (fun args => isV (.bool true) ((fnsF Tryz.prog orc2 3000).call 4 args (hInit tabs))) = true := by kernel_rfl
theorem runSlotsCounts_10_3 : isV (.bool true) ((fnsF Tryz.prog orc2 3000).call 4 [.int .i64 (symC 4 0 16 10), .int .i64 (symC 0 1 9 3)] (hInit tabs)) = true := List.all_eq_true.1 runsSlotsCounts_3_5 _ (.head _)
theorem runsSlotsCounts_3_6 : ([[.int .i64 (symC 4 0 16 12), .int .i64 (symC 0 1 9 3)]] : List (List AV)).all (fun args => isV (.bool true) ((fnsF Tryz.prog orc2 3000).call 4 args (hInit tabs))) = true := by kernel_rfl
theorem runSlotsCounts_12_3 : isV (.bool true) ((fnsF Tryz.prog orc2 3000).call 4 [.int .i64 (symC 4 0 16 12), .int .i64 (symC 0 1 9 3)] (hInit tabs)) = true := List.all_eq_true.1 runsSlotsCounts_3_6 _ (.head _)
theorem runsSlotsCounts_3_7 : ([[.int .i64 (symC 4 0 16 14), .int .i64 (symC 0 1 9 3)]] : List (List AV)).all (fun args => isV (.bool true) ((fnsF Tryz.prog orc2 3000).call 4 args (hInit tabs))) = true := by kernel_rfl
theorem runSlotsCounts_14_3 : isV (.bool true) ((fnsF Tryz.prog orc2 3000).call 4 [.int .i64 (symC 4 0 16 14), .int .i64 (symC 0 1 9 3)] (hInit tabs)) = true := List.all_eq_true.1 runsSlotsCounts_3_7 _ (.head _)
end Go.Proofs.YtjnfkhhjfjepoaaGreatDoor
