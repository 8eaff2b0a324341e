/- The closed calls awake() return true: answers that are known beforehand. No condition. -/
import Derived.Test.YtgpibpkplhlihaaGreatDoorTab
namespace Go.Proofs.YtgpibpkplhlihaaGreatDoor
open Go Go.Ev
set_option linter.unusedSectionVars false
variable [Sig]
theorem aw0 : isV (.bool true) ((fnsF Tryz.prog orc 3000).call 6 [] (hInit tabs)) = true := by kernel_rfl
noncomputable def anss2 : List (Nat × Ansr) := [(6, nilR (.val (.bool true)))] ++ anss
theorem anss2_ok : AnssOk Tryz.prog tabs anss2 := by
  intro p hp
  rcases List.mem_cons.1 hp with rfl | hp
  · exact nilG_ok progOk orc_ok (by kernel_rfl) aw0
  exact anss_ok p hp
noncomputable def orc2 : Orc := orcOf (trOf anss2)
theorem orc2_ok : ∀ W : Wb, TabsB W tabs → OrcOk Tryz.prog W orc2 := orcOf_ok anss2_ok
end Go.Proofs.YtgpibpkplhlihaaGreatDoor
