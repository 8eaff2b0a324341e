/- The closed call awake() returns true, and the list of punctuators: the answers that are known beforehand. No condition. -/
import Derived.Test.YtihalloidbcgjaaGreatDoorTab
namespace Go.Proofs.YtihalloidbcgjaaGreatDoor
open Go Go.Ev
set_option linter.unusedSectionVars false
variable [Sig]
theorem aw : isV (.bool true) ((fns Tryz.prog orc 3000).call 4 [] (hInit [tab])) = true := by kernel_rfl
def orc2 : Orc := fun f args => match Nat.beq f 4 with
  | true => (match args with | [] => some (.val (.bool true)) | _ => none)
  | false => orc f args
theorem orc2_ok : ∀ w, TabsOk w [tab] → OrcOk Tryz.prog w orc2 := by
  intro w ht f args ans h
  unfold orc2 at h
  split at h
  · rename_i hf
    have := Nat.eq_of_beq_eq_true hf
    subst this
    split at h
    · cases h
      obtain ⟨h1, h2⟩ := ans_val (l := [tab]) progOk orc_ok (by kernel_rfl) rfl aw
      exact ⟨h1, h2 w ht⟩
    · cases h
  · exact orc_ok w ht f args ans h
end Go.Proofs.YtihalloidbcgjaaGreatDoor
