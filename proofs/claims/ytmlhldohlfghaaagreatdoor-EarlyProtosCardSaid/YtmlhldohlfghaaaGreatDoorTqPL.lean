/- Closed runs: calls of the lexer come to their templates. No condition. -/
import Derived.Test.YtmlhldohlfghaaaGreatDoorCutP
namespace Go.Proofs.YtmlhldohlfghaaaGreatDoor
open Go Go.Ev
set_option linter.unusedSectionVars false
theorem lexRun0 : ([lexTq0, lexTq1, lexTq2, lexTq3, lexTq4, lexTq5, lexTq6, lexTq7, lexTq8, lexTq9, lexTq10, lexTq11] : List Tq).all (fun T => wfT T.tm && okRun T.tm ((fnsF Tryz.prog orcA 3000).call 87 T.tm.args (memT tabs T.tm))) = true := by kernel_rfl
theorem lexRun1 : ([lexTq12, lexTq13, lexTq14, lexTq15, lexTq16, lexTq17, lexTq18, lexTq19, lexTq20, lexTq21, lexTq22, lexTq23] : List Tq).all (fun T => wfT T.tm && okRun T.tm ((fnsF Tryz.prog orcA 3000).call 87 T.tm.args (memT tabs T.tm))) = true := by kernel_rfl
theorem lexRun2 : ([lexTq24, lexTq25, lexTq26, lexTq27, lexTq28, lexTq29, lexTq30, lexTq31, lexTq32, lexTq33, lexTq34, lexTq35] : List Tq).all (fun T => wfT T.tm && okRun T.tm ((fnsF Tryz.prog orcA 3000).call 87 T.tm.args (memT tabs T.tm))) = true := by kernel_rfl
theorem lexRun3 : ([lexTq36] : List Tq).all (fun T => wfT T.tm && okRun T.tm ((fnsF Tryz.prog orcA 3000).call 87 T.tm.args (memT tabs T.tm))) = true := by kernel_rfl
theorem lexAll : ∀ T ∈ lexTq, TqOk Tryz.prog orcA tabs 3000 87 T := by
  intro T hT
  simp only [lexTq, List.mem_cons, List.not_mem_nil, or_false] at hT
  rcases hT with rfl | rfl | rfl | rfl | rfl | rfl | rfl | rfl | rfl | rfl | rfl | rfl | rfl | rfl | rfl | rfl | rfl | rfl | rfl | rfl | rfl | rfl | rfl | rfl | rfl | rfl | rfl | rfl | rfl | rfl | rfl | rfl | rfl | rfl | rfl | rfl | rfl
  · exact and_of (List.all_eq_true.1 lexRun0 _ (.head _))
  · exact and_of (List.all_eq_true.1 lexRun0 _ (.tail _ (.head _)))
  · exact and_of (List.all_eq_true.1 lexRun0 _ (.tail _ (.tail _ (.head _))))
  · exact and_of (List.all_eq_true.1 lexRun0 _ (.tail _ (.tail _ (.tail _ (.head _)))))
  · exact and_of (List.all_eq_true.1 lexRun0 _ (.tail _ (.tail _ (.tail _ (.tail _ (.head _))))))
  · exact and_of (List.all_eq_true.1 lexRun0 _ (.tail _ (.tail _ (.tail _ (.tail _ (.tail _ (.head _)))))))
  · exact and_of (List.all_eq_true.1 lexRun0 _ (.tail _ (.tail _ (.tail _ (.tail _ (.tail _ (.tail _ (.head _))))))))
  · exact and_of (List.all_eq_true.1 lexRun0 _ (.tail _ (.tail _ (.tail _ (.tail _ (.tail _ (.tail _ (.tail _ (.head _)))))))))
  · exact and_of (List.all_eq_true.1 lexRun0 _ (.tail _ (.tail _ (.tail _ (.tail _ (.tail _ (.tail _ (.tail _ (.tail _ (.head _))))))))))
  · exact and_of (List.all_eq_true.1 lexRun0 _ (.tail _ (.tail _ (.tail _ (.tail _ (.tail _ (.tail _ (.tail _ (.tail _ (.tail _ (.head _)))))))))))
  · exact and_of (List.all_eq_true.1 lexRun0 _ (.tail _ (.tail _ (.tail _ (.tail _ (.tail _ (.tail _ (.tail _ (.tail _ (.tail _ (.tail _ (.head _))))))))))))
  · exact and_of (List.all_eq_true.1 lexRun0 _ (.tail _ (.tail _ (.tail _ (.tail _ (.tail _ (.tail _ (.tail _ (.tail _ (.tail _ (.tail _ (.tail _ (.head _)))))))))))))
  · exact and_of (List.all_eq_true.1 lexRun1 _ (.head _))
  · exact and_of (List.all_eq_true.1 lexRun1 _ (.tail _ (.head _)))
  · exact and_of (List.all_eq_true.1 lexRun1 _ (.tail _ (.tail _ (.head _))))
  · exact and_of (List.all_eq_true.1 lexRun1 _ (.tail _ (.tail _ (.tail _ (.head _)))))
  · exact and_of (List.all_eq_true.1 lexRun1 _ (.tail _ (.tail _ (.tail _ (.tail _ (.head _))))))
  · exact and_of (List.all_eq_true.1 lexRun1 _ (.tail _ (.tail _ (.tail _ (.tail _ (.tail _ (.head _)))))))
  · exact and_of (List.all_eq_true.1 lexRun1 _ (.tail _ (.tail _ (.tail _ (.tail _ (.tail _ (.tail _ (.head _))))))))
  · exact and_of (List.all_eq_true.1 lexRun1 _ (.tail _ (.tail _ (.tail _ (.tail _ (.tail _ (.tail _ (.tail _ (.head _)))))))))
  · exact and_of (List.all_eq_true.1 lexRun1 _ (.tail _ (.tail _ (.tail _ (.tail _ (.tail _ (.tail _ (.tail _ (.tail _ (.head _))))))))))
  · exact and_of (List.all_eq_true.1 lexRun1 _ (.tail _ (.tail _ (.tail _ (.tail _ (.tail _ (.tail _ (.tail _ (.tail _ (.tail _ (.head _)))))))))))
  · exact and_of (List.all_eq_true.1 lexRun1 _ (.tail _ (.tail _ (.tail _ (.tail _ (.tail _ (.tail _ (.tail _ (.tail _ (.tail _ (.tail _ (.head _))))))))))))
  · exact and_of (List.all_eq_true.1 lexRun1 _ (.tail _ (.tail _ (.tail _ (.tail _ (.tail _ (.tail _ (.tail _ (.tail _ (.tail _ (.tail _ (.tail _ (.head _)))))))))))))
  · exact and_of (List.all_eq_true.1 lexRun2 _ (.head _))
  · exact and_of (List.all_eq_true.1 lexRun2 _ (.tail _ (.head _)))
  · exact and_of (List.all_eq_true.1 lexRun2 _ (.tail _ (.tail _ (.head _))))
  · exact and_of (List.all_eq_true.1 lexRun2 _ (.tail _ (.tail _ (.tail _ (.head _)))))
  · exact and_of (List.all_eq_true.1 lexRun2 _ (.tail _ (.tail _ (.tail _ (.tail _ (.head _))))))
  · exact and_of (List.all_eq_true.1 lexRun2 _ (.tail _ (.tail _ (.tail _ (.tail _ (.tail _ (.head _)))))))
  · exact and_of (List.all_eq_true.1 lexRun2 _ (.tail _ (.tail _ (.tail _ (.tail _ (.tail _ (.tail _ (.head _))))))))
  · exact and_of (List.all_eq_true.1 lexRun2 _ (.tail _ (.tail _ (.tail _ (.tail _ (.tail _ (.tail _ (.tail _ (.head _)))))))))
  · exact and_of (List.all_eq_true.1 lexRun2 _ (.tail _ (.tail _ (.tail _ (.tail _ (.tail _ (.tail _ (.tail _ (.tail _ (.head _))))))))))
  · exact and_of (List.all_eq_true.1 lexRun2 _ (.tail _ (.tail _ (.tail _ (.tail _ (.tail _ (.tail _ (.tail _ (.tail _ (.tail _ (.head _)))))))))))
  · exact and_of (List.all_eq_true.1 lexRun2 _ (.tail _ (.tail _ (.tail _ (.tail _ (.tail _ (.tail _ (.tail _ (.tail _ (.tail _ (.tail _ (.head _))))))))))))
  · exact and_of (List.all_eq_true.1 lexRun2 _ (.tail _ (.tail _ (.tail _ (.tail _ (.tail _ (.tail _ (.tail _ (.tail _ (.tail _ (.tail _ (.tail _ (.head _)))))))))))))
  · exact and_of (List.all_eq_true.1 lexRun3 _ (.head _))
end Go.Proofs.YtmlhldohlfghaaaGreatDoor
