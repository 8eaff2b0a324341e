/- Closed runs of the law CoverTargets: one for each residue of the arguments. No condition. -/
import Derived.Test.YtjnfkhhjfjepoaaGreatDoorAw
namespace Go.Proofs.YtjnfkhhjfjepoaaGreatDoor
open Go Go.Ev
theorem runsCoverTargets_6_0 : ([[.int .i64 (symC 0 0 10 0), .int .i64 (symC 4 1 8 6)], [.int .i64 (symC 0 0 10 1), .int .i64 (symC 4 1 8 6)], [.int .i64 (symC 0 0 10 2), .int .i64 (symC 4 1 8 6)]] : List (List AV)).all (fun args => isV (.bool true) ((fnsF Tryz.prog orc2 3000).call 3 args (hInit tabs))) = true := by kernel_rfl
theorem runCoverTargets_0_6 : isV (.bool true) ((fnsF Tryz.prog orc2 3000).call 3 [.int .i64 (symC 0 0 10 0), .int .i64 (symC 4 1 8 6)] (hInit tabs)) = true := List.all_eq_true.1 runsCoverTargets_6_0 _ (.head _)
theorem runCoverTargets_1_6 : isV (.bool true) ((fnsF Tryz.prog orc2 3000).call 3 [.int .i64 (symC 0 0 10 1), .int .i64 (symC 4 1 8 6)] (hInit tabs)) = true := List.all_eq_true.1 runsCoverTargets_6_0 _ (.tail _ (.head _))
theorem runCoverTargets_2_6 : isV (.bool true) ((fnsF Tryz.prog orc2 3000).call 3 [.int .i64 (symC 0 0 10 2), .int .i64 (symC 4 1 8 6)] (hInit tabs)) = true := List.all_eq_true.1 runsCoverTargets_6_0 _ (.tail _ (.tail _ (.head _)))
theorem runsCoverTargets_6_3 : ([[.int .i64 (symC 0 0 10 3), .int .i64 (symC 4 1 8 6)], [.int .i64 (symC 0 0 10 4), .int .i64 (symC 4 1 8 6)], [.int .i64 (symC 0 0 10 5), .int .i64 (symC 4 1 8 6)]] : List (List AV)).all (fun args => isV (.bool true) ((fnsF Tryz.prog orc2 3000).call 3 args (hInit tabs))) = true := by kernel_rfl
theorem runCoverTargets_3_6 : isV (.bool true) ((fnsF Tryz.prog orc2 3000).call 3 [.int .i64 (symC 0 0 10 3), .int .i64 (symC 4 1 8 6)] (hInit tabs)) = true := List.all_eq_true.1 runsCoverTargets_6_3 _ (.head _)
theorem runCoverTargets_4_6 : isV (.bool true) ((fnsF Tryz.prog orc2 3000).call 3 [.int .i64 (symC 0 0 10 4), .int .i64 (symC 4 1 8 6)] (hInit tabs)) = true := List.all_eq_true.1 runsCoverTargets_6_3 _ (.tail _ (.head _))
theorem runCoverTargets_5_6 : isV (.bool true) ((fnsF Tryz.prog orc2 3000).call 3 [.int .i64 (symC 0 0 10 5), .int .i64 (symC 4 1 8 6)] (hInit tabs)) = true := List.all_eq_true.1 runsCoverTargets_6_3 _ (.tail _ (.tail _ (.head _)))
theorem runsCoverTargets_6_6 : ([[.int .i64 (symC 0 0 10 6), .int .i64 (symC 4 1 8 6)], [.int .i64 (symC 0 0 10 7), .int .i64 (symC 4 1 8 6)], [.int .i64 (symC 0 0 10 8), .int .i64 (symC 4 1 8 6)]] : List (List AV)).all (fun args => isV (.bool true) ((fnsF Tryz.prog orc2 3000).call 3 args (hInit tabs))) = true := by kernel_rfl
theorem runCoverTargets_6_6 : isV (.bool true) ((fnsF Tryz.prog orc2 3000).call 3 [.int .i64 (symC 0 0 10 6), .int .i64 (symC 4 1 8 6)] (hInit tabs)) = true := List.all_eq_true.1 runsCoverTargets_6_6 _ (.head _)
theorem runCoverTargets_7_6 : isV (.bool true) ((fnsF Tryz.prog orc2 3000).call 3 [.int .i64 (symC 0 0 10 7), .int .i64 (symC 4 1 8 6)] (hInit tabs)) = true := List.all_eq_true.1 runsCoverTargets_6_6 _ (.tail _ (.head _))
theorem runCoverTargets_8_6 : isV (.bool true) ((fnsF Tryz.prog orc2 3000).call 3 [.int .i64 (symC 0 0 10 8), .int .i64 (symC 4 1 8 6)] (hInit tabs)) = true := List.all_eq_true.1 runsCoverTargets_6_6 _ (.tail _ (.tail _ (.head _)))
theorem runsCoverTargets_6_9 : ([[.int .i64 (symC 0 0 10 9), .int .i64 (symC 4 1 8 6)]] : List (List AV)).all (fun args => isV (.bool true) ((fnsF Tryz.prog orc2 3000).call 3 args (hInit tabs))) = true := by kernel_rfl
theorem runCoverTargets_9_6 : isV (.bool true) ((fnsF Tryz.prog orc2 3000).call 3 [.int .i64 (symC 0 0 10 9), .int .i64 (symC 4 1 8 6)] (hInit tabs)) = true := List.all_eq_true.1 runsCoverTargets_6_9 _ (.head _)
end Go.Proofs.YtjnfkhhjfjepoaaGreatDoor
