/- Closed runs of the law SlotsTrails: one for each residue of the arguments. No condition. -/
import Derived.Test.YtjnfkhhjfjepoaaGreatDoorAw
namespace Go.Proofs.YtjnfkhhjfjepoaaGreatDoor
open Go Go.Ev
theorem runsSlotsTrails_5_0 : ([[.int .i64 (symC 0 0 14 1), .int .i64 (symC 4 1 4 1)], [.int .i64 (symC 0 0 14 2), .int .i64 (symC 4 1 4 3)]] : List (List AV)).all (fun args => isV (.bool true) ((fnsF Tryz.prog orc2 3000).call 5 args (hInit tabs))) = true := by kernel_rfl
theorem runSlotsTrails_1_1 : isV (.bool true) ((fnsF Tryz.prog orc2 3000).call 5 [.int .i64 (symC 0 0 14 1), .int .i64 (symC 4 1 4 1)] (hInit tabs)) = true := List.all_eq_true.1 runsSlotsTrails_5_0 _ (.head _)
theorem runSlotsTrails_2_3 : isV (.bool true) ((fnsF Tryz.prog orc2 3000).call 5 [.int .i64 (symC 0 0 14 2), .int .i64 (symC 4 1 4 3)] (hInit tabs)) = true := List.all_eq_true.1 runsSlotsTrails_5_0 _ (.tail _ (.head _))
theorem runsSlotsTrails_5_2 : ([[.int .i64 (symC 0 0 14 4), .int .i64 (symC 4 1 4 1)], [.int .i64 (symC 0 0 14 5), .int .i64 (symC 4 1 4 3)]] : List (List AV)).all (fun args => isV (.bool true) ((fnsF Tryz.prog orc2 3000).call 5 args (hInit tabs))) = true := by kernel_rfl
theorem runSlotsTrails_4_1 : isV (.bool true) ((fnsF Tryz.prog orc2 3000).call 5 [.int .i64 (symC 0 0 14 4), .int .i64 (symC 4 1 4 1)] (hInit tabs)) = true := List.all_eq_true.1 runsSlotsTrails_5_2 _ (.head _)
theorem runSlotsTrails_5_3 : isV (.bool true) ((fnsF Tryz.prog orc2 3000).call 5 [.int .i64 (symC 0 0 14 5), .int .i64 (symC 4 1 4 3)] (hInit tabs)) = true := List.all_eq_true.1 runsSlotsTrails_5_2 _ (.tail _ (.head _))
theorem runsSlotsTrails_5_4 : ([[.int .i64 (symC 0 0 14 7), .int .i64 (symC 4 1 4 1)], [.int .i64 (symC 0 0 14 8), .int .i64 (symC 4 1 4 3)]] : List (List AV)).all (fun args => isV (.bool true) ((fnsF Tryz.prog orc2 3000).call 5 args (hInit tabs))) = true := by kernel_rfl
theorem runSlotsTrails_7_1 : isV (.bool true) ((fnsF Tryz.prog orc2 3000).call 5 [.int .i64 (symC 0 0 14 7), .int .i64 (symC 4 1 4 1)] (hInit tabs)) = true := List.all_eq_true.1 runsSlotsTrails_5_4 _ (.head _)
theorem runSlotsTrails_8_3 : isV (.bool true) ((fnsF Tryz.prog orc2 3000).call 5 [.int .i64 (symC 0 0 14 8), .int .i64 (symC 4 1 4 3)] (hInit tabs)) = true := List.all_eq_true.1 runsSlotsTrails_5_4 _ (.tail _ (.head _))
theorem runsSlotsTrails_5_6 : ([[.int .i64 (symC 0 0 14 10), .int .i64 (symC 4 1 4 1)], [.int .i64 (symC 0 0 14 11), .int .i64 (symC 4 1 4 3)]] : List (List AV)).all (fun args => isV (.bool true) ((fnsF Tryz.prog orc2 3000).call 5 args (hInit tabs))) = true := by kernel_rfl
theorem runSlotsTrails_10_1 : isV (.bool true) ((fnsF Tryz.prog orc2 3000).call 5 [.int .i64 (symC 0 0 14 10), .int .i64 (symC 4 1 4 1)] (hInit tabs)) = true := List.all_eq_true.1 runsSlotsTrails_5_6 _ (.head _)
theorem runSlotsTrails_11_3 : isV (.bool true) ((fnsF Tryz.prog orc2 3000).call 5 [.int .i64 (symC 0 0 14 11), .int .i64 (symC 4 1 4 3)] (hInit tabs)) = true := List.all_eq_true.1 runsSlotsTrails_5_6 _ (.tail _ (.head _))
theorem runsSlotsTrails_5_8 : ([[.int .i64 (symC 0 0 14 13), .int .i64 (symC 4 1 4 1)]] : List (List AV)).all (fun args => isV (.bool true) ((fnsF Tryz.prog orc2 3000).call 5 args (hInit tabs))) = true := by kernel_rfl
theorem runSlotsTrails_13_1 : isV (.bool true) ((fnsF Tryz.prog orc2 3000).call 5 [.int .i64 (symC 0 0 14 13), .int .i64 (symC 4 1 4 1)] (hInit tabs)) = true := List.all_eq_true.1 runsSlotsTrails_5_8 _ (.head _)
end Go.Proofs.YtjnfkhhjfjepoaaGreatDoor
