/- Closed runs of the law EarlySupers: one for each residue of the arguments. No condition. -/
import Derived.Test.YtakmbfkehnfgaaaGreatDoorAw
namespace Go.Proofs.YtakmbfkehnfgaaaGreatDoor
open Go Go.Ev
theorem runsEarlySupers_3_0 : ([[.int .i64 (symC 0 0 9 0), .bool false, .bool false], [.int .i64 (symC 0 0 9 2), .bool true, .bool false]] : List (List AV)).all (fun args => isV (.bool true) ((fnsF Tryz.prog orc2 3000).call 6 args (hInit tabs))) = true := by kernel_rfl
theorem runEarlySupers_0_f_f : isV (.bool true) ((fnsF Tryz.prog orc2 3000).call 6 [.int .i64 (symC 0 0 9 0), .bool false, .bool false] (hInit tabs)) = true := List.all_eq_true.1 runsEarlySupers_3_0 _ (.head _)
theorem runEarlySupers_2_t_f : isV (.bool true) ((fnsF Tryz.prog orc2 3000).call 6 [.int .i64 (symC 0 0 9 2), .bool true, .bool false] (hInit tabs)) = true := List.all_eq_true.1 runsEarlySupers_3_0 _ (.tail _ (.head _))
theorem runsEarlySupers_3_2 : ([[.int .i64 (symC 0 0 9 3), .bool false, .bool false], [.int .i64 (symC 0 0 9 5), .bool true, .bool false]] : List (List AV)).all (fun args => isV (.bool true) ((fnsF Tryz.prog orc2 3000).call 6 args (hInit tabs))) = true := by kernel_rfl
theorem runEarlySupers_3_f_f : isV (.bool true) ((fnsF Tryz.prog orc2 3000).call 6 [.int .i64 (symC 0 0 9 3), .bool false, .bool false] (hInit tabs)) = true := List.all_eq_true.1 runsEarlySupers_3_2 _ (.head _)
theorem runEarlySupers_5_t_f : isV (.bool true) ((fnsF Tryz.prog orc2 3000).call 6 [.int .i64 (symC 0 0 9 5), .bool true, .bool false] (hInit tabs)) = true := List.all_eq_true.1 runsEarlySupers_3_2 _ (.tail _ (.head _))
theorem runsEarlySupers_3_4 : ([[.int .i64 (symC 0 0 9 6), .bool false, .bool false], [.int .i64 (symC 0 0 9 8), .bool true, .bool false]] : List (List AV)).all (fun args => isV (.bool true) ((fnsF Tryz.prog orc2 3000).call 6 args (hInit tabs))) = true := by kernel_rfl
theorem runEarlySupers_6_f_f : isV (.bool true) ((fnsF Tryz.prog orc2 3000).call 6 [.int .i64 (symC 0 0 9 6), .bool false, .bool false] (hInit tabs)) = true := List.all_eq_true.1 runsEarlySupers_3_4 _ (.head _)
theorem runEarlySupers_8_t_f : isV (.bool true) ((fnsF Tryz.prog orc2 3000).call 6 [.int .i64 (symC 0 0 9 8), .bool true, .bool false] (hInit tabs)) = true := List.all_eq_true.1 runsEarlySupers_3_4 _ (.tail _ (.head _))
end Go.Proofs.YtakmbfkehnfgaaaGreatDoor
