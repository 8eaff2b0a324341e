/- Closed runs of the law SlotsCounts: one for each residue of the arguments. No condition. -/
import Derived.Test.YtjnfkhhjfjepoaaGreatDoorAw
namespace Go.Proofs.YtjnfkhhjfjepoaaGreatDoor
open Go Go.Ev
theorem runsSlotsCounts_8_0 : ([[.int .i64 (symC 4 0 16 0), .int .i64 (symC 0 1 9 8)]] : List (List AV)).all (fun args => isV (.bool true) ((fnsF Tryz.prog orc2 3000).call 4 args (hInit tabs))) = true := by kernel_rfl
theorem runSlotsCounts_0_8 : isV (.bool true) ((fnsF Tryz.prog orc2 3000).call 4 [.int .i64 (symC 4 0 16 0), .int .i64 (symC 0 1 9 8)] (hInit tabs)) = true := List.all_eq_true.1 runsSlotsCounts_8_0 _ (.head _)
theorem runsSlotsCounts_8_1 : ([[.int .i64 (symC 4 0 16 2), .int .i64 (symC 0 1 9 8)]] : List (List AV)).all (fun args => isV (.bool true) ((fnsF Tryz.prog orc2 3000).call 4 args (hInit tabs))) = true := by kernel_rfl
theorem runSlotsCounts_2_8 : isV (.bool true) ((fnsF Tryz.prog orc2 3000).call 4 [.int .i64 (symC 4 0 16 2), .int .i64 (symC 0 1 9 8)] (hInit tabs)) = true := List.all_eq_true.1 runsSlotsCounts_8_1 _ (.head _)
theorem runsSlotsCounts_8_2 : ([[.int .i64 (symC 4 0 16 4), .int .i64 (symC 0 1 9 8)]] : List (List AV)).all (fun args => isV (.bool true) ((fnsF Tryz.prog orc2 3000).call 4 args (hInit tabs))) = true := by kernel_rfl
theorem runSlotsCounts_4_8 : isV (.bool true) ((fnsF Tryz.prog orc2 3000).call 4 [.int .i64 (symC 4 0 16 4), .int .i64 (symC 0 1 9 8)] (hInit tabs)) = true := List.all_eq_true.1 runsSlotsCounts_8_2 _ (.head _)
theorem runsSlotsCounts_8_3 : ([[.int .i64 (symC 4 0 16 6), .int .i64 (symC 0 1 9 8)]] : List (List AV)).all (fun args => isV (.bool true) ((fnsF Tryz.prog orc2 3000).call 4 args (hInit tabs))) = true := by kernel_rfl
theorem runSlotsCounts_6_8 : isV (.bool true) ((fnsF Tryz.prog orc2 3000).call 4 [.int .i64 (symC 4 0 16 6), .int .i64 (symC 0 1 9 8)] (hInit tabs)) = true := List.all_eq_true.1 runsSlotsCounts_8_3 _ (.head _)
theorem runsSlotsCounts_8_4 : ([[.int .i64 (symC 4 0 16 8), .int .i64 (symC 0 1 9 8)]] : List (List AV)).all (fun args => isV (.bool true) ((fnsF Tryz.prog orc2 3000).call 4 args (hInit tabs))) = true := by kernel_rfl
theorem runSlotsCounts_8_8 : isV (.bool true) ((fnsF Tryz.prog orc2 3000).call 4 [.int .i64 (symC 4 0 16 8), .int .i64 (symC 0 1 9 8)] (hInit tabs)) = true := List.all_eq_true.1 runsSlotsCounts_8_4 _ (.head _)
theorem runsSlotsCounts_8_5 : ([[.int .i64 (symC 4 0 16 10), .int .i64 (symC 0 1 9 8)]] : List (List AV)).all (fun args => isV (.bool true) ((fnsF Tryz.prog orc2 3000).call 4 args (hInit tabs))) = true := by kernel_rfl
theorem runSlotsCounts_10_8 : isV (.bool true) ((fnsF Tryz.prog orc2 3000).call 4 [.int .i64 (symC 4 0 16 10), .int .i64 (symC 0 1 9 8)] (hInit tabs)) = true := List.all_eq_true.1 runsSlotsCounts_8_5 _ (.head _)
theorem runsSlotsCounts_8_6 : ([[.int .i64 (symC 4 0 16 12), .int .i64 (symC 0 1 9 8)]] : List (List AV)).all (fun args => isV (.bool true) ((fnsF Tryz.prog orc2 3000).call 4 args (hInit tabs))) = true := by kernel_rfl
theorem runSlotsCounts_12_8 : isV (.bool true) ((fnsF Tryz.prog orc2 3000).call 4 [.int .i64 (symC 4 0 16 12), .int .i64 (symC 0 1 9 8)] (hInit tabs)) = true := List.all_eq_true.1 runsSlotsCounts_8_6 _ (.head _)
theorem runsSlotsCounts_8_7 : ([[.int .i64 (symC 4 0 16 14), .int .i64 (symC 0 1 9 8)]] : List (List AV)).all (fun args => isV (.bool true) ((fnsF Tryz.prog orc2 3000).call 4 args (hInit tabs))) = true := by kernel_rfl
theorem runSlotsCounts_14_8 : isV (.bool true) ((fnsF Tryz.prog orc2 3000).call 4 [.int .i64 (symC 4 0 16 14), .int .i64 (symC 0 1 9 8)] (hInit tabs)) = true := List.all_eq_true.1 runsSlotsCounts_8_7 _ (.head _)
end Go.Proofs.YtjnfkhhjfjepoaaGreatDoor
