/- Closed runs: calls at an item come to their templates. No condition. -/
import Derived.Test.YtmlhldohlfghaaaGreatDoorTqM
namespace Go.Proofs.YtmlhldohlfghaaaGreatDoor
open Go Go.Ev
set_option linter.unusedSectionVars false
theorem itemRun0 : ([itemTq0, itemTq1, itemTq2, itemTq3] : List Tq).all (fun T => wfT T.tm && okRun T.tm ((fnsF Tryz.prog orcB 3000).call 213 T.tm.args (memT tabs T.tm))) = true := by kernel_rfl
theorem itemRun1 : ([itemTq4, itemTq5, itemTq6, itemTq7] : List Tq).all (fun T => wfT T.tm && okRun T.tm ((fnsF Tryz.prog orcB 3000).call 213 T.tm.args (memT tabs T.tm))) = true := by kernel_rfl
theorem itemRun2 : ([itemTq8, itemTq9, itemTq10, itemTq11] : List Tq).all (fun T => wfT T.tm && okRun T.tm ((fnsF Tryz.prog orcB 3000).call 213 T.tm.args (memT tabs T.tm))) = true := by kernel_rfl
theorem itemAll : ∀ T ∈ itemTq, TqOk Tryz.prog orcB tabs 3000 213 T := by
  intro T hT
  simp only [itemTq, List.mem_cons, List.not_mem_nil, or_false] at hT
  rcases hT with rfl | rfl | rfl | rfl | rfl | rfl | rfl | rfl | rfl | rfl | rfl | rfl
  · exact and_of (List.all_eq_true.1 itemRun0 _ (.head _))
  · exact and_of (List.all_eq_true.1 itemRun0 _ (.tail _ (.head _)))
  · exact and_of (List.all_eq_true.1 itemRun0 _ (.tail _ (.tail _ (.head _))))
  · exact and_of (List.all_eq_true.1 itemRun0 _ (.tail _ (.tail _ (.tail _ (.head _)))))
  · exact and_of (List.all_eq_true.1 itemRun1 _ (.head _))
  · exact and_of (List.all_eq_true.1 itemRun1 _ (.tail _ (.head _)))
  · exact and_of (List.all_eq_true.1 itemRun1 _ (.tail _ (.tail _ (.head _))))
  · exact and_of (List.all_eq_true.1 itemRun1 _ (.tail _ (.tail _ (.tail _ (.head _)))))
  · exact and_of (List.all_eq_true.1 itemRun2 _ (.head _))
  · exact and_of (List.all_eq_true.1 itemRun2 _ (.tail _ (.head _)))
  · exact and_of (List.all_eq_true.1 itemRun2 _ (.tail _ (.tail _ (.head _))))
  · exact and_of (List.all_eq_true.1 itemRun2 _ (.tail _ (.tail _ (.tail _ (.head _)))))
end Go.Proofs.YtmlhldohlfghaaaGreatDoor
