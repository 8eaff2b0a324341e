/- Closed runs: calls come to their templates. No condition. -/
import Derived.Test.YtgpibpkplhlihaaGreatDoorTqC
namespace Go.Proofs.YtgpibpkplhlihaaGreatDoor
open Go Go.Ev
set_option linter.unusedSectionVars false
theorem itemCRun0 : ([itemTqC0, itemTqC1, itemTqC2, itemTqC3] : List Tq).all (fun T => wfT T.tm && okRun T.tm ((fnsF Tryz.prog orcBC 3000).call 246 T.tm.args (memT tabs T.tm))) = true := by kernel_rfl
theorem itemCRun1 : ([itemTqC4, itemTqC5, itemTqC6, itemTqC7] : List Tq).all (fun T => wfT T.tm && okRun T.tm ((fnsF Tryz.prog orcBC 3000).call 246 T.tm.args (memT tabs T.tm))) = true := by kernel_rfl
theorem itemCRun2 : ([itemTqC8, itemTqC9, itemTqC10] : List Tq).all (fun T => wfT T.tm && okRun T.tm ((fnsF Tryz.prog orcBC 3000).call 246 T.tm.args (memT tabs T.tm))) = true := by kernel_rfl
theorem itemCAll : ∀ T ∈ itemTqC, TqOk Tryz.prog orcBC tabs 3000 246 T := by
  intro T hT
  simp only [itemTqC, List.mem_cons, List.not_mem_nil, or_false] at hT
  rcases hT with rfl | rfl | rfl | rfl | rfl | rfl | rfl | rfl | rfl | rfl | rfl
  · exact and_of (List.all_eq_true.1 itemCRun0 _ (.head _))
  · exact and_of (List.all_eq_true.1 itemCRun0 _ (.tail _ (.head _)))
  · exact and_of (List.all_eq_true.1 itemCRun0 _ (.tail _ (.tail _ (.head _))))
  · exact and_of (List.all_eq_true.1 itemCRun0 _ (.tail _ (.tail _ (.tail _ (.head _)))))
  · exact and_of (List.all_eq_true.1 itemCRun1 _ (.head _))
  · exact and_of (List.all_eq_true.1 itemCRun1 _ (.tail _ (.head _)))
  · exact and_of (List.all_eq_true.1 itemCRun1 _ (.tail _ (.tail _ (.head _))))
  · exact and_of (List.all_eq_true.1 itemCRun1 _ (.tail _ (.tail _ (.tail _ (.head _)))))
  · exact and_of (List.all_eq_true.1 itemCRun2 _ (.head _))
  · exact and_of (List.all_eq_true.1 itemCRun2 _ (.tail _ (.head _)))
  · exact and_of (List.all_eq_true.1 itemCRun2 _ (.tail _ (.tail _ (.head _))))
theorem belowCRun0 : ([belowTqC0, belowTqC1, belowTqC2, belowTqC3, belowTqC4, belowTqC5, belowTqC6, belowTqC7] : List Tq).all (fun T => wfT T.tm && okRun T.tm ((fnsF Tryz.prog orcA 3000).call 72 T.tm.args (memT tabs T.tm))) = true := by kernel_rfl
theorem belowCRun1 : ([belowTqC8, belowTqC9, belowTqC10] : List Tq).all (fun T => wfT T.tm && okRun T.tm ((fnsF Tryz.prog orcA 3000).call 72 T.tm.args (memT tabs T.tm))) = true := by kernel_rfl
theorem belowCAll : ∀ T ∈ belowTqC, TqOk Tryz.prog orcA tabs 3000 72 T := by
  intro T hT
  simp only [belowTqC, List.mem_cons, List.not_mem_nil, or_false] at hT
  rcases hT with rfl | rfl | rfl | rfl | rfl | rfl | rfl | rfl | rfl | rfl | rfl
  · exact and_of (List.all_eq_true.1 belowCRun0 _ (.head _))
  · exact and_of (List.all_eq_true.1 belowCRun0 _ (.tail _ (.head _)))
  · exact and_of (List.all_eq_true.1 belowCRun0 _ (.tail _ (.tail _ (.head _))))
  · exact and_of (List.all_eq_true.1 belowCRun0 _ (.tail _ (.tail _ (.tail _ (.head _)))))
  · exact and_of (List.all_eq_true.1 belowCRun0 _ (.tail _ (.tail _ (.tail _ (.tail _ (.head _))))))
  · exact and_of (List.all_eq_true.1 belowCRun0 _ (.tail _ (.tail _ (.tail _ (.tail _ (.tail _ (.head _)))))))
  · exact and_of (List.all_eq_true.1 belowCRun0 _ (.tail _ (.tail _ (.tail _ (.tail _ (.tail _ (.tail _ (.head _))))))))
  · exact and_of (List.all_eq_true.1 belowCRun0 _ (.tail _ (.tail _ (.tail _ (.tail _ (.tail _ (.tail _ (.tail _ (.head _)))))))))
  · exact and_of (List.all_eq_true.1 belowCRun1 _ (.head _))
  · exact and_of (List.all_eq_true.1 belowCRun1 _ (.tail _ (.head _)))
  · exact and_of (List.all_eq_true.1 belowCRun1 _ (.tail _ (.tail _ (.head _))))
theorem copiedCRun0 : ([copiedTqC0, copiedTqC1, copiedTqC2, copiedTqC3, copiedTqC4, copiedTqC5, copiedTqC6, copiedTqC7] : List Tq).all (fun T => wfT T.tm && okRun T.tm ((fnsF Tryz.prog orcA 3000).call 26 T.tm.args (memT tabs T.tm))) = true := by kernel_rfl
theorem copiedCAll : ∀ T ∈ copiedTqC, TqOk Tryz.prog orcA tabs 3000 26 T := by
  intro T hT
  simp only [copiedTqC, List.mem_cons, List.not_mem_nil, or_false] at hT
  rcases hT with rfl | rfl | rfl | rfl | rfl | rfl | rfl | rfl
  · exact and_of (List.all_eq_true.1 copiedCRun0 _ (.head _))
  · exact and_of (List.all_eq_true.1 copiedCRun0 _ (.tail _ (.head _)))
  · exact and_of (List.all_eq_true.1 copiedCRun0 _ (.tail _ (.tail _ (.head _))))
  · exact and_of (List.all_eq_true.1 copiedCRun0 _ (.tail _ (.tail _ (.tail _ (.head _)))))
  · exact and_of (List.all_eq_true.1 copiedCRun0 _ (.tail _ (.tail _ (.tail _ (.tail _ (.head _))))))
  · exact and_of (List.all_eq_true.1 copiedCRun0 _ (.tail _ (.tail _ (.tail _ (.tail _ (.tail _ (.head _)))))))
  · exact and_of (List.all_eq_true.1 copiedCRun0 _ (.tail _ (.tail _ (.tail _ (.tail _ (.tail _ (.tail _ (.head _))))))))
  · exact and_of (List.all_eq_true.1 copiedCRun0 _ (.tail _ (.tail _ (.tail _ (.tail _ (.tail _ (.tail _ (.tail _ (.head _)))))))))
theorem isCRun0 : ([isTqC0] : List Tq).all (fun T => wfT T.tm && okRun T.tm ((fnsF Tryz.prog orcBC 3000).call 41 T.tm.args (memT tabs T.tm))) = true := by kernel_rfl
theorem isCAll : ∀ T ∈ isTqC, TqOk Tryz.prog orcBC tabs 3000 41 T := by
  intro T hT
  simp only [isTqC, List.mem_cons, List.not_mem_nil, or_false] at hT
  rcases hT with rfl
  · exact and_of (List.all_eq_true.1 isCRun0 _ (.head _))
end Go.Proofs.YtgpibpkplhlihaaGreatDoor
