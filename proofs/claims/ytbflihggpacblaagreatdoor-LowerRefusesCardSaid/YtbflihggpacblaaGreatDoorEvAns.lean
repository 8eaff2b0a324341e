/- Answers that are known beforehand, gathered: tables over small integers, rows of words, the beginning of a text. -/
import Derived.Test.YtbflihggpacblaaGreatDoorEvFast
import Derived.Lib.Strings
set_option linter.unusedVariables false
set_option linter.unusedSimpArgs false
namespace Go.Ev
set_option linter.unusedSectionVars false

abbrev Ansr := List AV → Option Ans
noncomputable section
/-- the answers, by function -/
def orcOf (t : Tr Ansr) : Orc := fun f args => Option.rec (motive := fun _ => Option Ans) none (fun g => g args) (Tr.get t f)
def trOf : List (Nat × Ansr) → Tr Ansr
  | [] => .nil
  | p :: L => (trOf L).put p.1 p.2
theorem trOf_get : ∀ (L : List (Nat × Ansr)) (f : Nat) (g : Ansr), (trOf L).get f = some g → ∃ p ∈ L, p.1 = f ∧ p.2 = g
  | [], f, g, h => by rw [trOf, Tr.get_nil] at h; cases h
  | p :: L, f, g, h => by
    rw [trOf, Tr.get_put] at h
    split at h
    · rename_i he; cases h; exact ⟨p, by simp, he.symm, rfl⟩
    · obtain ⟨q, hq, h1, h2⟩ := trOf_get L f g h; exact ⟨q, by simp [hq], h1, h2⟩

def allN (f : Nat → Bool) (n : Nat) : Bool := Nat.rec (motive := fun _ => Bool) true (fun m ih => Bool.rec (motive := fun _ => Bool) false ih (f m)) n
theorem allN_get {f : Nat → Bool} : ∀ {n : Nat}, allN f n = true → ∀ m, m < n → f m = true
  | 0, _, m, hm => by omega
  | n + 1, h, m, hm => by
    have h' : Bool.rec (motive := fun _ => Bool) false (allN f n) (f n) = true := h
    cases hf : f n with
    | false => rw [hf] at h'; cases h'
    | true =>
      rw [hf] at h'
      rcases Nat.lt_or_ge m n with h1 | h1
      · exact allN_get h' m h1
      · have : m = n := by omega
        rw [this]; exact hf
/-- a truth of a small integer -/
abbrev bitG (mask : Nat) : Ansr := bitR mask
/-- rows of words, by the text that they come of -/
def rowF (et : Nat) (L : List (Nat × Nat × List AV × Nat)) (l c : Nat) : Option Ans := List.rec (motive := fun _ => Option Ans) none (fun e _ ih => Bool.rec (motive := fun _ => Option Ans) ih (some (.row e.2.2.1 et e.2.2.2)) (Bool.rec (motive := fun _ => Bool) false (Nat.beq e.2.1 c) (Nat.beq e.1 l))) L
abbrev rowsG (et : Nat) (L : List (Nat × Nat × List AV × Nat)) : Ansr := strR (rowF et L)
abbrev preG : Ansr := preR
end

theorem preB_eq (l c m d : Nat) : Lib.hasPrefix (strB l c).data.toList (strB m d).data.toList = preB l c m d := by
  rw [strB_toList, strB_toList, ← Lib.hasPrefix_of_take, bytesOf_length, bytesOf_length]
  unfold preB
  cases h : Nat.ble m l with
  | false =>
    have h1 : ¬ m ≤ l := fun h2 => by rw [Nat.ble_eq_true_of_le h2] at h; cases h
    simp [h1]
  | true =>
    have h1 : m ≤ l := Nat.le_of_ble_eq_true h
    rw [bytesOf_take m l c h1]
    have h2 : (bytesOf m c == bytesOf m d) = Nat.beq (Nat.mod c (Nat.pow 256 m)) (Nat.mod d (Nat.pow 256 m)) := by
      rw [Bool.eq_iff_iff, beq_iff_eq, bytesOf_eq_iff]
      exact ⟨fun h3 => by show Nat.beq (c % 256 ^ m) (d % 256 ^ m) = true; rw [h3]; exact Nat.beq_refl _, fun h3 => Nat.eq_of_beq_eq_true h3⟩
    simp [h1, h2]

section
variable [Sig]
def AnssOk (P : Program) (l : List Tab) (L : List (Nat × Ansr)) : Prop := ∀ p ∈ L, ∀ args ans, p.2 args = some ans → AnsOk P l p.1 args ans
theorem orcOf_ok {P : Program} {l : List Tab} {L : List (Nat × Ansr)} (H : AnssOk P l L) : ∀ w, TabsOk w l → OrcOk P w (orcOf (trOf L)) := by
  intro w ht f args ans h
  unfold orcOf at h
  cases hg : (trOf L).get f with
  | none => rw [hg] at h; cases h
  | some g =>
    rw [hg] at h
    obtain ⟨p, hp, rfl, rfl⟩ := trOf_get L f g hg
    obtain ⟨h1, h2⟩ := H p hp args ans h
    exact ⟨h1, h2 w ht⟩

theorem bitG_ok {P : Program} (hP : ProgOk P) {O : Orc} {l : List Tab} (hO : ∀ w, TabsOk w l → OrcOk P w O) {F mask N : Nat} (hb : (fnOf P F).isSome = true)
    (hall : allN (fun n => isV (.bool (bitN mask n)) ((fnsF P O N).call F [.int .i64 (.ofNat n)] (hInit l))) 128 = true) : ∀ args ans, bitG mask args = some ans → AnsOk P l F args ans := by
  intro args ans h
  obtain ⟨n, hn, rfl, rfl⟩ := bitR_form h
  have h1 := allN_get hall n hn
  rw [fnsF_eq] at h1
  exact ans_val hP hO hb rfl h1
theorem rowF_get {et l c : Nat} {ans : Ans} : ∀ {L : List (Nat × Nat × List AV × Nat)}, rowF et L l c = some ans → ∃ e ∈ L, e.1 = l ∧ e.2.1 = c ∧ ans = .row e.2.2.1 et e.2.2.2
  | [], h => by cases h
  | e :: L, h => by
    have h' : Bool.rec (motive := fun _ => Option Ans) (rowF et L l c) (some (.row e.2.2.1 et e.2.2.2)) (Bool.rec (motive := fun _ => Bool) false (Nat.beq e.2.1 c) (Nat.beq e.1 l)) = some ans := h
    have rec_ : rowF et L l c = some ans → ∃ x ∈ e :: L, x.1 = l ∧ x.2.1 = c ∧ ans = .row x.2.2.1 et x.2.2.2 := fun h'' => by
      obtain ⟨x, hx, h1⟩ := rowF_get h''
      exact ⟨x, by simp [hx], h1⟩
    cases h1 : Nat.beq e.1 l with
    | false => rw [h1] at h'; exact rec_ h'
    | true => cases h2 : Nat.beq e.2.1 c with
      | false => rw [h1, h2] at h'; exact rec_ h'
      | true =>
        rw [h1, h2] at h'
        cases h'
        exact ⟨e, by simp, Nat.eq_of_beq_eq_true h1, Nat.eq_of_beq_eq_true h2, rfl⟩
theorem rowsG_ok {P : Program} (hP : ProgOk P) {O : Orc} {l : List Tab} (hO : ∀ w, TabsOk w l → OrcOk P w O) {F et N : Nat} {L : List (Nat × Nat × List AV × Nat)} (hb : (fnOf P F).isSome = true)
    (hall : (L.all fun e => isRow e.2.2.1 et e.2.2.2 ((fnsF P O N).call F [.str e.1 e.2.1] (hInit l))) = true) : ∀ args ans, rowsG et L args = some ans → AnsOk P l F args ans := by
  intro args ans h
  obtain ⟨l', c', rfl, h2⟩ := strR_form h
  obtain ⟨e, he, rfl, rfl, rfl⟩ := rowF_get h2
  have h1 := List.all_eq_true.1 hall e he
  rw [fnsF_eq] at h1
  exact ans_row hP hO hb rfl h1
/-- a call that turns nothing, by its contract -/
theorem ans_pure {P : Program} {l : List Tab} {f : FuncId} {args : List AV} {v : AV} (hb : (fnOf P f).isSome = true)
    (H : ∀ (E : Env) (us : List Value), cvL E args = some us → ∀ w, ∃ u, cv E v = some u ∧ Calls P f us.toArray w (fun e w' => e = .returned u ∧ w' = w)) : AnsOk P l f args (.val v) := by
  refine ⟨hasBody_of hb, fun W0 ht E h w us S hu _ => ?_⟩
  obtain ⟨u, hv, hc⟩ := H E us hu w
  have hc' : CallsIn Fence.wide 0 P f us.toArray w (fun e w' => e = .returned u ∧ w' = w) := by rw [callsIn_wide]; exact hc
  refine hc'.mono fun en w' he => ?_
  obtain ⟨rfl, rfl⟩ := he
  exact ⟨E, u, rfl, .refl _ _, S, hv⟩
theorem preG_ok {P : Program} {l : List Tab} {F : Nat} (hb : (fnOf P F).isSome = true)
    (H : ∀ (s p : ByteArray) (w : World), Calls P F #[.string s, .string p] w fun e w' => e = .returned (.bool (Lib.hasPrefix s.data.toList p.data.toList)) ∧ w' = w) : ∀ args ans, preG args = some ans → AnsOk P l F args ans := by
  intro args ans h
  obtain ⟨l', c, m, d, rfl, rfl⟩ := preR_form h
  refine ans_pure hb fun E us hu w => ⟨.bool (preB l' c m d), by simp only [cv], ?_⟩
  simp only [cvL, cv, Option.some.injEq] at hu
  subst hu
  have := H (strB l' c) (strB m d) w
  rw [preB_eq] at this
  exact this
/-- a closed call's answer -/
theorem nilG_ok {P : Program} (hP : ProgOk P) {O : Orc} {l : List Tab} (hO : ∀ w, TabsOk w l → OrcOk P w O) {F N : Nat} {v : AV} (hb : (fnOf P F).isSome = true)
    (hr : isV v ((fnsF P O N).call F [] (hInit l)) = true) : ∀ args ans, nilR (.val v) args = some ans → AnsOk P l F args ans := by
  intro args ans h
  obtain ⟨rfl, rfl⟩ := nilR_form h
  rw [fnsF_eq] at hr
  exact ans_val hP hO hb rfl hr
/-- a closed call yields true, by the quick spelling -/
theorem run_trueF {P : Program} {w : World} (hP : ProgOk P) {O : Orc} (hO : OrcOk P w O) {l : List Tab} (ht : TabsOk w l) {f : FuncId} {us : List Value} {args : List AV} {n : Nat}
    (hu : cvL E00 args = some us) (hr : isV (.bool true) ((fnsF P O n).call f args (hInit l)) = true) : Calls P f us.toArray w (fun e w' => e = .returned (.bool true) ∧ Keeps w w') :=
  run_true hP hO ht hu (by rw [← fnsF_eq]; exact hr)
end
end Go.Ev
