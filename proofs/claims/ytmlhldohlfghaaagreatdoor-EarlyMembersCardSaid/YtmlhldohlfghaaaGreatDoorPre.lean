/- The beginning of a text cut off: what the library's two functions answer, as answers that are known beforehand. No condition. -/
import Derived.Test.YtmlhldohlfghaaaGreatDoorTab
import Derived.Laws.Strings
namespace Go.Proofs.YtmlhldohlfghaaaGreatDoor
open Go Go.Ev
set_option linter.unusedSectionVars false
set_option linter.unusedSimpArgs false
/-- what is left behind a beginning -/
def cutS (b : Bool) (s p : ByteArray) : ByteArray := match b with
  | true => s.extract p.size s.size
  | false => s
theorem pre_le {s p : ByteArray} (h : Lib.hasPrefix s.data.toList p.data.toList = true) : p.size ≤ s.size := by
  rw [← Lib.hasPrefix_of_take] at h
  simp only [Bool.and_eq_true, decide_eq_true_eq] at h
  rw [Lib.size_eq, Lib.size_eq]
  exact h.1
theorem cut_inner (s p : ByteArray) (b : Bool) (hb : Lib.hasPrefix s.data.toList p.data.toList = b) (w : World) :
    Calls Tryz.prog 176 #[.string s, .string p] w fun e w' => e = .returned (.tuple #[.string (cutS b s p), .bool b]) ∧ w' = w := by
  cases b with
  | true =>
    have hle := pre_le hb
    have i1 : (p.size : Int) ≤ (s.size : Int) := by omega
    have i2 : (0 : Int) ≤ (p.size : Int) := by omega
    have i3 : ((p.size : Int)).toNat = p.size := by omega
    go_enter Tryz.func176, Tryz.ntmps176
    go_wp2_with (go_at_call 127; refine (hp_inner _ _ _).mono ?_; rintro e w' ⟨rfl, rfl⟩; rw [hb])
    go_ret2
    exact ⟨by simp [cutS], rfl⟩
  | false =>
    go_enter Tryz.func176, Tryz.ntmps176
    go_wp2_with (go_at_call 127; refine (hp_inner _ _ _).mono ?_; rintro e w' ⟨rfl, rfl⟩; rw [hb])
    go_ret2
    exact ⟨by simp [cutS], rfl⟩
theorem cut_calls (s p : ByteArray) (w : World) :
    Calls Tryz.prog 125 #[.string s, .string p] w fun e w' => e = .returned (.tuple #[.string (cutS (Lib.hasPrefix s.data.toList p.data.toList) s p), .bool (Lib.hasPrefix s.data.toList p.data.toList)]) ∧ w' = w := by
  go_enter Tryz.func125, Tryz.ntmps125
  go_wp2_with (go_at_call 176; refine (cut_inner _ _ _ rfl _).mono ?_; rintro e w' ⟨rfl, rfl⟩)
  go_ret2
  exact ⟨rfl, rfl⟩
theorem trim_inner (s p : ByteArray) (b : Bool) (hb : Lib.hasPrefix s.data.toList p.data.toList = b) (w : World) :
    Calls Tryz.prog 177 #[.string s, .string p] w fun e w' => e = .returned (.string (cutS b s p)) ∧ w' = w := by
  cases b with
  | true =>
    have hle := pre_le hb
    have i1 : (p.size : Int) ≤ (s.size : Int) := by omega
    have i2 : (0 : Int) ≤ (p.size : Int) := by omega
    have i3 : ((p.size : Int)).toNat = p.size := by omega
    go_enter Tryz.func177, Tryz.ntmps177
    go_wp2_with (go_at_call 127; refine (hp_inner _ _ _).mono ?_; rintro e w' ⟨rfl, rfl⟩; rw [hb])
    go_ret
    exact ⟨by simp [cutS], rfl⟩
  | false =>
    go_enter Tryz.func177, Tryz.ntmps177
    go_wp2_with (go_at_call 127; refine (hp_inner _ _ _).mono ?_; rintro e w' ⟨rfl, rfl⟩; rw [hb])
    go_ret
    exact ⟨by simp [cutS], rfl⟩
theorem trim_calls (s p : ByteArray) (w : World) :
    Calls Tryz.prog 126 #[.string s, .string p] w fun e w' => e = .returned (.string (cutS (Lib.hasPrefix s.data.toList p.data.toList) s p)) ∧ w' = w := by
  go_enter Tryz.func126, Tryz.ntmps126
  go_wp2_with (go_at_call 177; refine (trim_inner _ _ _ rfl _).mono ?_; rintro e w' ⟨rfl, rfl⟩)
  go_ret
  exact ⟨rfl, rfl⟩
noncomputable def cutG : Ansr := fun args => match args with
  | [.str l c, .str m d] => (match preB l c m d with
    | true => some (.val (.tuple [.str (Nat.sub l m) (Nat.div c (Nat.pow 256 m)), .bool true]))
    | false => some (.val (.tuple [.str l c, .bool false])))
  | _ => none
noncomputable def trimG : Ansr := fun args => match args with
  | [.str l c, .str m d] => (match preB l c m d with
    | true => some (.val (.str (Nat.sub l m) (Nat.div c (Nat.pow 256 m))))
    | false => some (.val (.str l c)))
  | _ => none
theorem cutS_true (l c m d : Nat) (h : preB l c m d = true) : cutS true (strB l c) (strB m d) = strB (Nat.sub l m) (Nat.div c (Nat.pow 256 m)) := by
  have hp := preB_eq l c m d
  rw [h] at hp
  have hle := pre_le hp
  rw [strB_size, strB_size] at hle
  have e : (cutS true (strB l c) (strB m d)).data.toList = (strB (Nat.sub l m) (Nat.div c (Nat.pow 256 m))).data.toList := by
    show ((strB l c).extract (strB m d).size (strB l c).size).data.toList = _
    rw [strB_toList, strB_size, strB_size]
    have h1 : ((strB l c).extract m l).data.toList = ((strB l c).data.toList.drop m).take (l - m) := by
      simp [ByteArray.data_extract, List.take_drop]
    rw [h1, strB_toList, bytesOf_drop]
    show (bytesOf (l - m) _).take (l - m) = _
    rw [List.take_of_length_le (by rw [bytesOf_length]; exact Nat.le_refl _)]
    rfl
  have e2 := Array.ext' e
  rcases h3 : cutS true (strB l c) (strB m d) with ⟨x⟩
  rcases h4 : strB (Nat.sub l m) (Nat.div c (Nat.pow 256 m)) with ⟨y⟩
  rw [h3, h4] at e2
  exact congrArg ByteArray.mk e2
section
variable [Sig]
theorem cutG_ok : ∀ args ans, cutG args = some ans → AnsOk Tryz.prog tabs 125 args ans := by
  intro args ans h
  unfold cutG at h
  split at h
  · rename_i l c m d
    cases hb : preB l c m d with
    | true =>
      rw [hb] at h
      cases h
      refine ans_pure (by kernel_rfl) fun E us hu w => ⟨.tuple #[.string (strB (Nat.sub l m) (Nat.div c (Nat.pow 256 m))), .bool true], by simp only [cv, cvL], ?_⟩
      simp only [cvL, cv, Option.some.injEq] at hu
      subst hu
      have := cut_calls (strB l c) (strB m d) w
      rw [preB_eq, hb, cutS_true l c m d hb] at this
      exact this
    | false =>
      rw [hb] at h
      cases h
      refine ans_pure (by kernel_rfl) fun E us hu w => ⟨.tuple #[.string (strB l c), .bool false], by simp only [cv, cvL], ?_⟩
      simp only [cvL, cv, Option.some.injEq] at hu
      subst hu
      have := cut_calls (strB l c) (strB m d) w
      rw [preB_eq, hb] at this
      exact this
  · cases h
theorem trimG_ok : ∀ args ans, trimG args = some ans → AnsOk Tryz.prog tabs 126 args ans := by
  intro args ans h
  unfold trimG at h
  split at h
  · rename_i l c m d
    cases hb : preB l c m d with
    | true =>
      rw [hb] at h
      cases h
      refine ans_pure (by kernel_rfl) fun E us hu w => ⟨.string (strB (Nat.sub l m) (Nat.div c (Nat.pow 256 m))), by simp only [cv], ?_⟩
      simp only [cvL, cv, Option.some.injEq] at hu
      subst hu
      have := trim_calls (strB l c) (strB m d) w
      rw [preB_eq, hb, cutS_true l c m d hb] at this
      exact this
    | false =>
      rw [hb] at h
      cases h
      refine ans_pure (by kernel_rfl) fun E us hu w => ⟨.string (strB l c), by simp only [cv], ?_⟩
      simp only [cvL, cv, Option.some.injEq] at hu
      subst hu
      have := trim_calls (strB l c) (strB m d) w
      rw [preB_eq, hb] at this
      exact this
  · cases h
noncomputable def anss3 : List (Nat × Ansr) := (125, cutG) :: (126, trimG) :: anss
theorem anss3_ok : AnssOk Tryz.prog tabs anss3 := by
  intro p hp
  rcases List.mem_cons.1 hp with rfl | hp
  · exact cutG_ok
  · rcases List.mem_cons.1 hp with rfl | hp
    · exact trimG_ok
    · exact anss_ok p hp
end
end Go.Proofs.YtmlhldohlfghaaaGreatDoor
