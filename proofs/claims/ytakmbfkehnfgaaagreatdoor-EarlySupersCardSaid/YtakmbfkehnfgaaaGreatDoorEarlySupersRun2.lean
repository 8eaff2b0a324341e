/- Closed runs of the law EarlySupers: one for each residue of the arguments. No condition. -/
import Derived.Test.YtakmbfkehnfgaaaGreatDoorAw
namespace Go.Proofs.YtakmbfkehnfgaaaGreatDoor
open Go Go.Ev
theorem runsEarlySupers_2_0 : ([[.int .i64 (symC 0 0 9 0), .bool false, .bool true], [.int .i64 (symC 0 0 9 2), .bool true, .bool true]] : List (List AV)).all (fun args => isV (.bool true) ((fnsF Tryz.prog orc2 3000).call 6 args (hInit tabs))) = true := by kernel_rfl
theorem runEarlySupers_0_f_t : isV (.bool true) ((fnsF Tryz.prog orc2 3000).call 6 [.int .i64 (symC 0 0 9 0), .bool false, .bool true] (hInit tabs)) = true := List.all_eq_true.1 runsEarlySupers_2_0 _ (.head _)
theorem runEarlySupers_2_t_t : isV (.bool true) ((fnsF Tryz.prog orc2 3000).call 6 [.int .i64 (symC 0 0 9 2), .bool true, .bool true] (hInit tabs)) = true := List.all_eq_true.1 runsEarlySupers_2_0 _ (.tail _ (.head _))
theorem runsEarlySupers_2_2 : ([[.int .i64 (symC 0 0 9 3), .bool false, .bool true], [.int .i64 (symC 0 0 9 5), .bool true, .bool true]] : List (List AV)).all (fun args => isV (.bool true) ((fnsF Tryz.prog orc2 3000).call 6 args (hInit tabs))) = true := by kernel_rfl
theorem runEarlySupers_3_f_t : isV (.bool true) ((fnsF Tryz.prog orc2 3000).call 6 [.int .i64 (symC 0 0 9 3), .bool false, .bool true] (hInit tabs)) = true := List.all_eq_true.1 runsEarlySupers_2_2 _ (.head _)
theorem runEarlySupers_5_t_t : isV (.bool true) ((fnsF Tryz.prog orc2 3000).call 6 [.int .i64 (symC 0 0 9 5), .bool true, .bool true] (hInit tabs)) = true := List.all_eq_true.1 runsEarlySupers_2_2 _ (.tail _ (.head _))
theorem runsEarlySupers_2_4 : ([[.int .i64 (symC 0 0 9 6), .bool false, .bool true], [.int .i64 (symC 0 0 9 8), .bool true, .bool true]] : List (List AV)).all (fun args => isV (.bool true) ((fnsF Tryz.prog orc2 3000).call 6 args (hInit tabs))) = true := by kernel_rfl
theorem runEarlySupers_6_f_t : isV (.bool true) ((fnsF Tryz.prog orc2 3000).call 6 [.int .i64 (symC 0 0 9 6), .bool false, .bool true] (hInit tabs)) = true := List.all_eq_true.1 runsEarlySupers_2_4 _ (.head _)
theorem runEarlySupers_8_t_t : isV (.bool true) ((fnsF Tryz.prog orc2 3000).call 6 [.int .i64 (symC 0 0 9 8), .bool true, .bool true] (hInit tabs)) = true := List.all_eq_true.1 runsEarlySupers_2_4 _ (.tail _ (.head _))
end Go.Proofs.YtakmbfkehnfgaaaGreatDoor
