/- Closed runs of the law SlotsTrails: one for each residue of the arguments. No condition. -/
import Derived.Test.YtjnfkhhjfjepoaaGreatDoorAw
namespace Go.Proofs.YtjnfkhhjfjepoaaGreatDoor
open Go Go.Ev
theorem runsSlotsTrails_4_0 : ([[.int .i64 (symC 0 0 14 1), .int .i64 (symC 4 1 4 0)], [.int .i64 (symC 0 0 14 2), .int .i64 (symC 4 1 4 2)]] : List (List AV)).all (fun args => isV (.bool true) ((fnsF Tryz.prog orc2 3000).call 5 args (hInit tabs))) = true := by kernel_rfl
theorem runSlotsTrails_1_0 : isV (.bool true) ((fnsF Tryz.prog orc2 3000).call 5 [.int .i64 (symC 0 0 14 1), .int .i64 (symC 4 1 4 0)] (hInit tabs)) = true := List.all_eq_true.1 runsSlotsTrails_4_0 _ (.head _)
theorem runSlotsTrails_2_2 : isV (.bool true) ((fnsF Tryz.prog orc2 3000).call 5 [.int .i64 (symC 0 0 14 2), .int .i64 (symC 4 1 4 2)] (hInit tabs)) = true := List.all_eq_true.1 runsSlotsTrails_4_0 _ (.tail _ (.head _))
theorem runsSlotsTrails_4_2 : ([[.int .i64 (symC 0 0 14 4), .int .i64 (symC 4 1 4 0)], [.int .i64 (symC 0 0 14 5), .int .i64 (symC 4 1 4 2)]] : List (List AV)).all (fun args => isV (.bool true) ((fnsF Tryz.prog orc2 3000).call 5 args (hInit tabs))) = true := by kernel_rfl
theorem runSlotsTrails_4_0 : isV (.bool true) ((fnsF Tryz.prog orc2 3000).call 5 [.int .i64 (symC 0 0 14 4), .int .i64 (symC 4 1 4 0)] (hInit tabs)) = true := List.all_eq_true.1 runsSlotsTrails_4_2 _ (.head _)
theorem runSlotsTrails_5_2 : isV (.bool true) ((fnsF Tryz.prog orc2 3000).call 5 [.int .i64 (symC 0 0 14 5), .int .i64 (symC 4 1 4 2)] (hInit tabs)) = true := List.all_eq_true.1 runsSlotsTrails_4_2 _ (.tail _ (.head _))
theorem runsSlotsTrails_4_4 : ([[.int .i64 (symC 0 0 14 7), .int .i64 (symC 4 1 4 0)], [.int .i64 (symC 0 0 14 8), .int .i64 (symC 4 1 4 2)]] : List (List AV)).all (fun args => isV (.bool true) ((fnsF Tryz.prog orc2 3000).call 5 args (hInit tabs))) = true := by kernel_rfl
theorem runSlotsTrails_7_0 : isV (.bool true) ((fnsF Tryz.prog orc2 3000).call 5 [.int .i64 (symC 0 0 14 7), .int .i64 (symC 4 1 4 0)] (hInit tabs)) = true := List.all_eq_true.1 runsSlotsTrails_4_4 _ (.head _)
theorem runSlotsTrails_8_2 : isV (.bool true) ((fnsF Tryz.prog orc2 3000).call 5 [.int .i64 (symC 0 0 14 8), .int .i64 (symC 4 1 4 2)] (hInit tabs)) = true := List.all_eq_true.1 runsSlotsTrails_4_4 _ (.tail _ (.head _))
theorem runsSlotsTrails_4_6 : ([[.int .i64 (symC 0 0 14 10), .int .i64 (symC 4 1 4 0)], [.int .i64 (symC 0 0 14 11), .int .i64 (symC 4 1 4 2)]] : List (List AV)).all (fun args => isV (.bool true) ((fnsF Tryz.prog orc2 3000).call 5 args (hInit tabs))) = true := by kernel_rfl
theorem runSlotsTrails_10_0 : isV (.bool true) ((fnsF Tryz.prog orc2 3000).call 5 [.int .i64 (symC 0 0 14 10), .int .i64 (symC 4 1 4 0)] (hInit tabs)) = true := List.all_eq_true.1 runsSlotsTrails_4_6 _ (.head _)
theorem runSlotsTrails_11_2 : isV (.bool true) ((fnsF Tryz.prog orc2 3000).call 5 [.int .i64 (symC 0 0 14 11), .int .i64 (symC 4 1 4 2)] (hInit tabs)) = true := List.all_eq_true.1 runsSlotsTrails_4_6 _ (.tail _ (.head _))
theorem runsSlotsTrails_4_8 : ([[.int .i64 (symC 0 0 14 13), .int .i64 (symC 4 1 4 0)]] : List (List AV)).all (fun args => isV (.bool true) ((fnsF Tryz.prog orc2 3000).call 5 args (hInit tabs))) = true := by kernel_rfl
theorem runSlotsTrails_13_0 : isV (.bool true) ((fnsF Tryz.prog orc2 3000).call 5 [.int .i64 (symC 0 0 14 13), .int .i64 (symC 4 1 4 0)] (hInit tabs)) = true := List.all_eq_true.1 runsSlotsTrails_4_8 _ (.head _)
end Go.Proofs.YtjnfkhhjfjepoaaGreatDoor
