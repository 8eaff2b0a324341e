/- Closed runs of the law SlotsTrails: one for each residue of the arguments. No condition. -/
import Derived.Test.YtjnfkhhjfjepoaaGreatDoorAw
namespace Go.Proofs.YtjnfkhhjfjepoaaGreatDoor
open Go Go.Ev
theorem runsSlotsTrails_0_0 : ([[.int .i64 (symC 0 0 14 0), .int .i64 (symC 4 1 4 0)], [.int .i64 (symC 0 0 14 1), .int .i64 (symC 4 1 4 2)]] : List (List AV)).all (fun args => isV (.bool true) ((fnsF Tryz.prog orc2 3000).call 5 args (hInit tabs))) = true := by kernel_rfl
theorem runSlotsTrails_0_0 : isV (.bool true) ((fnsF Tryz.prog orc2 3000).call 5 [.int .i64 (symC 0 0 14 0), .int .i64 (symC 4 1 4 0)] (hInit tabs)) = true := List.all_eq_true.1 runsSlotsTrails_0_0 _ (.head _)
theorem runSlotsTrails_1_2 : isV (.bool true) ((fnsF Tryz.prog orc2 3000).call 5 [.int .i64 (symC 0 0 14 1), .int .i64 (symC 4 1 4 2)] (hInit tabs)) = true := List.all_eq_true.1 runsSlotsTrails_0_0 _ (.tail _ (.head _))
theorem runsSlotsTrails_0_2 : ([[.int .i64 (symC 0 0 14 3), .int .i64 (symC 4 1 4 0)], [.int .i64 (symC 0 0 14 4), .int .i64 (symC 4 1 4 2)]] : List (List AV)).all (fun args => isV (.bool true) ((fnsF Tryz.prog orc2 3000).call 5 args (hInit tabs))) = true := by kernel_rfl
theorem runSlotsTrails_3_0 : isV (.bool true) ((fnsF Tryz.prog orc2 3000).call 5 [.int .i64 (symC 0 0 14 3), .int .i64 (symC 4 1 4 0)] (hInit tabs)) = true := List.all_eq_true.1 runsSlotsTrails_0_2 _ (.head _)
theorem runSlotsTrails_4_2 : isV (.bool true) ((fnsF Tryz.prog orc2 3000).call 5 [.int .i64 (symC 0 0 14 4), .int .i64 (symC 4 1 4 2)] (hInit tabs)) = true := List.all_eq_true.1 runsSlotsTrails_0_2 _ (.tail _ (.head _))
theorem runsSlotsTrails_0_4 : ([[.int .i64 (symC 0 0 14 6), .int .i64 (symC 4 1 4 0)], [.int .i64 (symC 0 0 14 7), .int .i64 (symC 4 1 4 2)]] : List (List AV)).all (fun args => isV (.bool true) ((fnsF Tryz.prog orc2 3000).call 5 args (hInit tabs))) = true := by kernel_rfl
theorem runSlotsTrails_6_0 : isV (.bool true) ((fnsF Tryz.prog orc2 3000).call 5 [.int .i64 (symC 0 0 14 6), .int .i64 (symC 4 1 4 0)] (hInit tabs)) = true := List.all_eq_true.1 runsSlotsTrails_0_4 _ (.head _)
theorem runSlotsTrails_7_2 : isV (.bool true) ((fnsF Tryz.prog orc2 3000).call 5 [.int .i64 (symC 0 0 14 7), .int .i64 (symC 4 1 4 2)] (hInit tabs)) = true := List.all_eq_true.1 runsSlotsTrails_0_4 _ (.tail _ (.head _))
theorem runsSlotsTrails_0_6 : ([[.int .i64 (symC 0 0 14 9), .int .i64 (symC 4 1 4 0)], [.int .i64 (symC 0 0 14 10), .int .i64 (symC 4 1 4 2)]] : List (List AV)).all (fun args => isV (.bool true) ((fnsF Tryz.prog orc2 3000).call 5 args (hInit tabs))) = true := by kernel_rfl
theorem runSlotsTrails_9_0 : isV (.bool true) ((fnsF Tryz.prog orc2 3000).call 5 [.int .i64 (symC 0 0 14 9), .int .i64 (symC 4 1 4 0)] (hInit tabs)) = true := List.all_eq_true.1 runsSlotsTrails_0_6 _ (.head _)
theorem runSlotsTrails_10_2 : isV (.bool true) ((fnsF Tryz.prog orc2 3000).call 5 [.int .i64 (symC 0 0 14 10), .int .i64 (symC 4 1 4 2)] (hInit tabs)) = true := List.all_eq_true.1 runsSlotsTrails_0_6 _ (.tail _ (.head _))
theorem runsSlotsTrails_0_8 : ([[.int .i64 (symC 0 0 14 12), .int .i64 (symC 4 1 4 0)], [.int .i64 (symC 0 0 14 13), .int .i64 (symC 4 1 4 2)]] : List (List AV)).all (fun args => isV (.bool true) ((fnsF Tryz.prog orc2 3000).call 5 args (hInit tabs))) = true := by kernel_rfl
theorem runSlotsTrails_12_0 : isV (.bool true) ((fnsF Tryz.prog orc2 3000).call 5 [.int .i64 (symC 0 0 14 12), .int .i64 (symC 4 1 4 0)] (hInit tabs)) = true := List.all_eq_true.1 runsSlotsTrails_0_8 _ (.head _)
theorem runSlotsTrails_13_2 : isV (.bool true) ((fnsF Tryz.prog orc2 3000).call 5 [.int .i64 (symC 0 0 14 13), .int .i64 (symC 4 1 4 2)] (hInit tabs)) = true := List.all_eq_true.1 runsSlotsTrails_0_8 _ (.tail _ (.head _))
end Go.Proofs.YtjnfkhhjfjepoaaGreatDoor
