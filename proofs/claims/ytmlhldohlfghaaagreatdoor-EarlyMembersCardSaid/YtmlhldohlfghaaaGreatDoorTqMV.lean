/- Closed runs: looks at an item come to their templates. No condition. -/
import Derived.Test.YtmlhldohlfghaaaGreatDoorTqM
namespace Go.Proofs.YtmlhldohlfghaaaGreatDoor
open Go Go.Ev
set_option linter.unusedSectionVars false
theorem visitRun0 : ([visitTq0, visitTq1, visitTq2, visitTq3] : List Tq).all (fun T => wfT T.tm && okRun T.tm ((fnsF Tryz.prog orcA 3000).call 15 T.tm.args (memT tabs T.tm))) = true := by kernel_rfl
theorem visitRun1 : ([visitTq4, visitTq5, visitTq6] : List Tq).all (fun T => wfT T.tm && okRun T.tm ((fnsF Tryz.prog orcA 3000).call 15 T.tm.args (memT tabs T.tm))) = true := by kernel_rfl
theorem visitAll : ∀ T ∈ visitTq, TqOk Tryz.prog orcA tabs 3000 15 T := by
  intro T hT
  simp only [visitTq, List.mem_cons, List.not_mem_nil, or_false] at hT
  rcases hT with rfl | rfl | rfl | rfl | rfl | rfl | rfl
  · exact and_of (List.all_eq_true.1 visitRun0 _ (.head _))
  · exact and_of (List.all_eq_true.1 visitRun0 _ (.tail _ (.head _)))
  · exact and_of (List.all_eq_true.1 visitRun0 _ (.tail _ (.tail _ (.head _))))
  · exact and_of (List.all_eq_true.1 visitRun0 _ (.tail _ (.tail _ (.tail _ (.head _)))))
  · exact and_of (List.all_eq_true.1 visitRun1 _ (.head _))
  · exact and_of (List.all_eq_true.1 visitRun1 _ (.tail _ (.head _)))
  · exact and_of (List.all_eq_true.1 visitRun1 _ (.tail _ (.tail _ (.head _))))
end Go.Proofs.YtmlhldohlfghaaaGreatDoor
