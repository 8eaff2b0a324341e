/- Closed runs: calls come to their templates. No condition. -/
import Derived.Test.YtgpibpkplhlihaaGreatDoorTqD
namespace Go.Proofs.YtgpibpkplhlihaaGreatDoor
open Go Go.Ev
set_option linter.unusedSectionVars false
theorem itemDRun0 : ([itemTqD0, itemTqD1, itemTqD2, itemTqD3] : List Tq).all (fun T => wfT T.tm && okRun T.tm ((fnsF Tryz.prog orcBD 3000).call 246 T.tm.args (memT tabs T.tm))) = true := by kernel_rfl
theorem itemDRun1 : ([itemTqD4, itemTqD5, itemTqD6, itemTqD7] : List Tq).all (fun T => wfT T.tm && okRun T.tm ((fnsF Tryz.prog orcBD 3000).call 246 T.tm.args (memT tabs T.tm))) = true := by kernel_rfl
theorem itemDRun2 : ([itemTqD8, itemTqD9, itemTqD10] : List Tq).all (fun T => wfT T.tm && okRun T.tm ((fnsF Tryz.prog orcBD 3000).call 246 T.tm.args (memT tabs T.tm))) = true := by kernel_rfl
theorem itemDAll : ∀ T ∈ itemTqD, TqOk Tryz.prog orcBD tabs 3000 246 T := by
  intro T hT
  simp only [itemTqD, List.mem_cons, List.not_mem_nil, or_false] at hT
  rcases hT with rfl | rfl | rfl | rfl | rfl | rfl | rfl | rfl | rfl | rfl | rfl
  · exact and_of (List.all_eq_true.1 itemDRun0 _ (.head _))
  · exact and_of (List.all_eq_true.1 itemDRun0 _ (.tail _ (.head _)))
  · exact and_of (List.all_eq_true.1 itemDRun0 _ (.tail _ (.tail _ (.head _))))
  · exact and_of (List.all_eq_true.1 itemDRun0 _ (.tail _ (.tail _ (.tail _ (.head _)))))
  · exact and_of (List.all_eq_true.1 itemDRun1 _ (.head _))
  · exact and_of (List.all_eq_true.1 itemDRun1 _ (.tail _ (.head _)))
  · exact and_of (List.all_eq_true.1 itemDRun1 _ (.tail _ (.tail _ (.head _))))
  · exact and_of (List.all_eq_true.1 itemDRun1 _ (.tail _ (.tail _ (.tail _ (.head _)))))
  · exact and_of (List.all_eq_true.1 itemDRun2 _ (.head _))
  · exact and_of (List.all_eq_true.1 itemDRun2 _ (.tail _ (.head _)))
  · exact and_of (List.all_eq_true.1 itemDRun2 _ (.tail _ (.tail _ (.head _))))
theorem belowDRun0 : ([belowTqD0, belowTqD1, belowTqD2, belowTqD3, belowTqD4, belowTqD5, belowTqD6, belowTqD7] : List Tq).all (fun T => wfT T.tm && okRun T.tm ((fnsF Tryz.prog orcA 3000).call 72 T.tm.args (memT tabs T.tm))) = true := by kernel_rfl
theorem belowDRun1 : ([belowTqD8, belowTqD9, belowTqD10] : List Tq).all (fun T => wfT T.tm && okRun T.tm ((fnsF Tryz.prog orcA 3000).call 72 T.tm.args (memT tabs T.tm))) = true := by kernel_rfl
theorem belowDAll : ∀ T ∈ belowTqD, TqOk Tryz.prog orcA tabs 3000 72 T := by
  intro T hT
  simp only [belowTqD, List.mem_cons, List.not_mem_nil, or_false] at hT
  rcases hT with rfl | rfl | rfl | rfl | rfl | rfl | rfl | rfl | rfl | rfl | rfl
  · exact and_of (List.all_eq_true.1 belowDRun0 _ (.head _))
  · exact and_of (List.all_eq_true.1 belowDRun0 _ (.tail _ (.head _)))
  · exact and_of (List.all_eq_true.1 belowDRun0 _ (.tail _ (.tail _ (.head _))))
  · exact and_of (List.all_eq_true.1 belowDRun0 _ (.tail _ (.tail _ (.tail _ (.head _)))))
  · exact and_of (List.all_eq_true.1 belowDRun0 _ (.tail _ (.tail _ (.tail _ (.tail _ (.head _))))))
  · exact and_of (List.all_eq_true.1 belowDRun0 _ (.tail _ (.tail _ (.tail _ (.tail _ (.tail _ (.head _)))))))
  · exact and_of (List.all_eq_true.1 belowDRun0 _ (.tail _ (.tail _ (.tail _ (.tail _ (.tail _ (.tail _ (.head _))))))))
  · exact and_of (List.all_eq_true.1 belowDRun0 _ (.tail _ (.tail _ (.tail _ (.tail _ (.tail _ (.tail _ (.tail _ (.head _)))))))))
  · exact and_of (List.all_eq_true.1 belowDRun1 _ (.head _))
  · exact and_of (List.all_eq_true.1 belowDRun1 _ (.tail _ (.head _)))
  · exact and_of (List.all_eq_true.1 belowDRun1 _ (.tail _ (.tail _ (.head _))))
theorem copiedDRun0 : ([copiedTqD0, copiedTqD1, copiedTqD2, copiedTqD3, copiedTqD4, copiedTqD5, copiedTqD6, copiedTqD7] : List Tq).all (fun T => wfT T.tm && okRun T.tm ((fnsF Tryz.prog orcA 3000).call 26 T.tm.args (memT tabs T.tm))) = true := by kernel_rfl
theorem copiedDAll : ∀ T ∈ copiedTqD, TqOk Tryz.prog orcA tabs 3000 26 T := by
  intro T hT
  simp only [copiedTqD, List.mem_cons, List.not_mem_nil, or_false] at hT
  rcases hT with rfl | rfl | rfl | rfl | rfl | rfl | rfl | rfl
  · exact and_of (List.all_eq_true.1 copiedDRun0 _ (.head _))
  · exact and_of (List.all_eq_true.1 copiedDRun0 _ (.tail _ (.head _)))
  · exact and_of (List.all_eq_true.1 copiedDRun0 _ (.tail _ (.tail _ (.head _))))
  · exact and_of (List.all_eq_true.1 copiedDRun0 _ (.tail _ (.tail _ (.tail _ (.head _)))))
  · exact and_of (List.all_eq_true.1 copiedDRun0 _ (.tail _ (.tail _ (.tail _ (.tail _ (.head _))))))
  · exact and_of (List.all_eq_true.1 copiedDRun0 _ (.tail _ (.tail _ (.tail _ (.tail _ (.tail _ (.head _)))))))
  · exact and_of (List.all_eq_true.1 copiedDRun0 _ (.tail _ (.tail _ (.tail _ (.tail _ (.tail _ (.tail _ (.head _))))))))
  · exact and_of (List.all_eq_true.1 copiedDRun0 _ (.tail _ (.tail _ (.tail _ (.tail _ (.tail _ (.tail _ (.tail _ (.head _)))))))))
theorem isDRun0 : ([isTqD0] : List Tq).all (fun T => wfT T.tm && okRun T.tm ((fnsF Tryz.prog orcBD 3000).call 41 T.tm.args (memT tabs T.tm))) = true := by kernel_rfl
theorem isDAll : ∀ T ∈ isTqD, TqOk Tryz.prog orcBD tabs 3000 41 T := by
  intro T hT
  simp only [isTqD, List.mem_cons, List.not_mem_nil, or_false] at hT
  rcases hT with rfl
  · exact and_of (List.all_eq_true.1 isDRun0 _ (.head _))
end Go.Proofs.YtgpibpkplhlihaaGreatDoor
