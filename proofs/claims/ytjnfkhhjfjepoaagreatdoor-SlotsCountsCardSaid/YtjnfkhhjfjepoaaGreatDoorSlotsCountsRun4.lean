/- Closed runs of the law SlotsCounts: one for each residue of the arguments. No condition. -/
import Derived.Test.YtjnfkhhjfjepoaaGreatDoorAw
namespace Go.Proofs.YtjnfkhhjfjepoaaGreatDoor
open Go Go.Ev
theorem runsSlotsCounts_4_0 : ([[.int .i64 (symC 4 0 16 0), .int .i64 (symC 0 1 9 4)]] : List (List AV)).all (fun args => isV (.bool true) ((fnsF Tryz.prog orc2 3000).call 4 args (hInit tabs))) = true := by kernel_rfl
theorem runSlotsCounts_0_4 : isV (.bool true) ((fnsF Tryz.prog orc2 3000).call 4 [.int .i64 (symC 4 0 16 0), .int .i64 (symC 0 1 9 4)] (hInit tabs)) = true := List.all_eq_true.1 runsSlotsCounts_4_0 _ (.head _)
theorem runsSlotsCounts_4_1 : ([[.int .i64 (symC 4 0 16 2), .int .i64 (symC 0 1 9 4)]] : List (List AV)).all (fun args => isV (.bool true) ((fnsF Tryz.prog orc2 3000).call 4 args (hInit tabs))) = true := by kernel_rfl
theorem runSlotsCounts_2_4 : isV (.bool true) ((fnsF Tryz.prog orc2 3000).call 4 [.int .i64 (symC 4 0 16 2), .int .i64 (symC 0 1 9 4)] (hInit tabs)) = true := List.all_eq_true.1 runsSlotsCounts_4_1 _ (.head _)
theorem runsSlotsCounts_4_2 : ([[.int .i64 (symC 4 0 16 4), .int .i64 (symC 0 1 9 4)]] : List (List AV)).all (fun args => isV (.bool true) ((fnsF Tryz.prog orc2 3000).call 4 args (hInit tabs))) = true := by kernel_rfl
theorem runSlotsCounts_4_4 : isV (.bool true) ((fnsF Tryz.prog orc2 3000).call 4 [.int .i64 (symC 4 0 16 4), .int .i64 (symC 0 1 9 4)] (hInit tabs)) = true := List.all_eq_true.1 runsSlotsCounts_4_2 _ (.head _)
theorem runsSlotsCounts_4_3 : ([[.int .i64 (symC 4 0 16 6), .int .i64 (symC 0 1 9 4)]] : List (List AV)).all (fun args => isV (.bool true) ((fnsF Tryz.prog orc2 3000).call 4 args (hInit tabs))) = true := by kernel_rfl
theorem runSlotsCounts_6_4 : isV (.bool true) ((fnsF Tryz.prog orc2 3000).call 4 [.int .i64 (symC 4 0 16 6), .int .i64 (symC 0 1 9 4)] (hInit tabs)) = true := List.all_eq_true.1 runsSlotsCounts_4_3 _ (.head _)
theorem runsSlotsCounts_4_4 : ([[.int .i64 (symC 4 0 16 8), .int .i64 (symC 0 1 9 4)]] : List (List AV)).all (fun args => isV (.bool true) ((fnsF Tryz.prog orc2 3000).call 4 args (hInit tabs))) = true := by kernel_rfl
theorem runSlotsCounts_8_4 : isV (.bool true) ((fnsF Tryz.prog orc2 3000).call 4 [.int .i64 (symC 4 0 16 8), .int .i64 (symC 0 1 9 4)] (hInit tabs)) = true := List.all_eq_true.1 runsSlotsCounts_4_4 _ (.head _)
theorem runsSlotsCounts_4_5 : ([[.int .i64 (symC 4 0 16 10), .int .i64 (symC 0 1 9 4)]] : List (List AV)).all (fun args => isV (.bool true) ((fnsF Tryz.prog orc2 3000).call 4 args (hInit tabs))) = true := by kernel_rfl
theorem runSlotsCounts_10_4 : isV (.bool true) ((fnsF Tryz.prog orc2 3000).call 4 [.int .i64 (symC 4 0 16 10), .int .i64 (symC 0 1 9 4)] (hInit tabs)) = true := List.all_eq_true.1 runsSlotsCounts_4_5 _ (.head _)
theorem runsSlotsCounts_4_6 : ([[.int .i64 (symC 4 0 16 12), .int .i64 (symC 0 1 9 4)]] : List (List AV)).all (fun args => isV (.bool true) ((fnsF Tryz.prog orc2 3000).call 4 args (hInit tabs))) = true := by kernel_rfl
theorem runSlotsCounts_12_4 : isV (.bool true) ((fnsF Tryz.prog orc2 3000).call 4 [.int .i64 (symC 4 0 16 12), .int .i64 (symC 0 1 9 4)] (hInit tabs)) = true := List.all_eq_true.1 runsSlotsCounts_4_6 _ (.head _)
theorem runsSlotsCounts_4_7 : ([[.int .i64 (symC 4 0 16 14), .int .i64 (symC 0 1 9 4)]] : List (List AV)).all (fun args => isV (.bool true) ((fnsF Tryz.prog orc2 3000).call 4 args (hInit tabs))) = true := by kernel_rfl
theorem runSlotsCounts_14_4 : isV (.bool true) ((fnsF Tryz.prog orc2 3000).call 4 [.int .i64 (symC 4 0 16 14), .int .i64 (symC 0 1 9 4)] (hInit tabs)) = true := List.all_eq_true.1 runsSlotsCounts_4_7 _ (.head _)
end Go.Proofs.YtjnfkhhjfjepoaaGreatDoor
