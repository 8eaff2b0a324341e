/- Closed runs of the law SlotsTrails: one for each residue of the arguments. No condition. -/
import Derived.Test.YtjnfkhhjfjepoaaGreatDoorAw
namespace Go.Proofs.YtjnfkhhjfjepoaaGreatDoor
open Go Go.Ev
theorem runsSlotsTrails_3_0 : ([[.int .i64 (symC 0 0 14 0), .int .i64 (symC 4 1 4 3)], [.int .i64 (symC 0 0 14 2), .int .i64 (symC 4 1 4 1)]] : List (List AV)).all (fun args => isV (.bool true) ((fnsF Tryz.prog orc2 3000).call 5 args (hInit tabs))) = true := by kernel_rfl
theorem runSlotsTrails_0_3 : isV (.bool true) ((fnsF Tryz.prog orc2 3000).call 5 [.int .i64 (symC 0 0 14 0), .int .i64 (symC 4 1 4 3)] (hInit tabs)) = true := List.all_eq_true.1 runsSlotsTrails_3_0 _ (.head _)
theorem runSlotsTrails_2_1 : isV (.bool true) ((fnsF Tryz.prog orc2 3000).call 5 [.int .i64 (symC 0 0 14 2), .int .i64 (symC 4 1 4 1)] (hInit tabs)) = true := List.all_eq_true.1 runsSlotsTrails_3_0 _ (.tail _ (.head _))
theorem runsSlotsTrails_3_2 : ([[.int .i64 (symC 0 0 14 3), .int .i64 (symC 4 1 4 3)], [.int .i64 (symC 0 0 14 5), .int .i64 (symC 4 1 4 1)]] : List (List AV)).all (fun args => isV (.bool true) ((fnsF Tryz.prog orc2 3000).call 5 args (hInit tabs))) = true := by kernel_rfl
theorem runSlotsTrails_3_3 : isV (.bool true) ((fnsF Tryz.prog orc2 3000).call 5 [.int .i64 (symC 0 0 14 3), .int .i64 (symC 4 1 4 3)] (hInit tabs)) = true := List.all_eq_true.1 runsSlotsTrails_3_2 _ (.head _)
theorem runSlotsTrails_5_1 : isV (.bool true) ((fnsF Tryz.prog orc2 3000).call 5 [.int .i64 (symC 0 0 14 5), .int .i64 (symC 4 1 4 1)] (hInit tabs)) = true := List.all_eq_true.1 runsSlotsTrails_3_2 _ (.tail _ (.head _))
theorem runsSlotsTrails_3_4 : ([[.int .i64 (symC 0 0 14 6), .int .i64 (symC 4 1 4 3)], [.int .i64 (symC 0 0 14 8), .int .i64 (symC 4 1 4 1)]] : List (List AV)).all (fun args => isV (.bool true) ((fnsF Tryz.prog orc2 3000).call 5 args (hInit tabs))) = true := by kernel_rfl
theorem runSlotsTrails_6_3 : isV (.bool true) ((fnsF Tryz.prog orc2 3000).call 5 [.int .i64 (symC 0 0 14 6), .int .i64 (symC 4 1 4 3)] (hInit tabs)) = true := List.all_eq_true.1 runsSlotsTrails_3_4 _ (.head _)
theorem runSlotsTrails_8_1 : isV (.bool true) ((fnsF Tryz.prog orc2 3000).call 5 [.int .i64 (symC 0 0 14 8), .int .i64 (symC 4 1 4 1)] (hInit tabs)) = true := List.all_eq_true.1 runsSlotsTrails_3_4 _ (.tail _ (.head _))
theorem runsSlotsTrails_3_6 : ([[.int .i64 (symC 0 0 14 9), .int .i64 (symC 4 1 4 3)], [.int .i64 (symC 0 0 14 11), .int .i64 (symC 4 1 4 1)]] : List (List AV)).all (fun args => isV (.bool true) ((fnsF Tryz.prog orc2 3000).call 5 args (hInit tabs))) = true := by kernel_rfl
theorem runSlotsTrails_9_3 : isV (.bool true) ((fnsF Tryz.prog orc2 3000).call 5 [.int .i64 (symC 0 0 14 9), .int .i64 (symC 4 1 4 3)] (hInit tabs)) = true := List.all_eq_true.1 runsSlotsTrails_3_6 _ (.head _)
theorem runSlotsTrails_11_1 : isV (.bool true) ((fnsF Tryz.prog orc2 3000).call 5 [.int .i64 (symC 0 0 14 11), .int .i64 (symC 4 1 4 1)] (hInit tabs)) = true := List.all_eq_true.1 runsSlotsTrails_3_6 _ (.tail _ (.head _))
theorem runsSlotsTrails_3_8 : ([[.int .i64 (symC 0 0 14 12), .int .i64 (symC 4 1 4 3)]] : List (List AV)).all (fun args => isV (.bool true) ((fnsF Tryz.prog orc2 3000).call 5 args (hInit tabs))) = true := by kernel_rfl
theorem runSlotsTrails_12_3 : isV (.bool true) ((fnsF Tryz.prog orc2 3000).call 5 [.int .i64 (symC 0 0 14 12), .int .i64 (symC 4 1 4 3)] (hInit tabs)) = true := List.all_eq_true.1 runsSlotsTrails_3_8 _ (.head _)
end Go.Proofs.YtjnfkhhjfjepoaaGreatDoor
