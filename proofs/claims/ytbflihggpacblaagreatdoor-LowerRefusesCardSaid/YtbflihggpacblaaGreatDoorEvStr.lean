/- Lemmas on strings as numbers. -/
import Derived.Test.YtbflihggpacblaaGreatDoorEvBase
set_option linter.unusedVariables false
set_option linter.unusedSimpArgs false
namespace Go.Ev

theorem bytesOf_length : ∀ (n c : Nat), (bytesOf n c).length = n
  | 0, _ => rfl
  | n + 1, c => by simp [bytesOf, bytesOf_length n]
theorem bytesOf_codeOf : ∀ (l : List UInt8), bytesOf l.length (codeOf l) = l
  | [] => rfl
  | b :: l => by
    have hb : b.toNat < 256 := UInt8.toNat_lt b
    simp only [List.length_cons, codeOf, bytesOf]
    have h1 : (b.toNat + 256 * codeOf l) % 256 = b.toNat := by omega
    have h2 : (b.toNat + 256 * codeOf l) / 256 = codeOf l := by omega
    rw [h1, h2, bytesOf_codeOf l]
    simp
theorem bytesOf_get : ∀ (n c i : Nat), i < n → (bytesOf n c)[i]? = some (UInt8.ofNat (c / 256 ^ i % 256))
  | 0, _, _, h => absurd h (Nat.not_lt_zero _)
  | n + 1, c, 0, _ => by simp [bytesOf]
  | n + 1, c, i + 1, h => by
    simp only [bytesOf, List.getElem?_cons_succ]
    rw [bytesOf_get n (c / 256) i (by omega), Nat.div_div_eq_div_mul, Nat.pow_succ, Nat.mul_comm]
theorem bytesOf_drop : ∀ (p n c : Nat), (bytesOf n c).drop p = bytesOf (n - p) (c / 256 ^ p)
  | 0, n, c => by simp
  | p + 1, 0, c => by simp [bytesOf]
  | p + 1, n + 1, c => by
    simp only [bytesOf, List.drop_succ_cons]
    rw [bytesOf_drop p n (c / 256), Nat.div_div_eq_div_mul, Nat.pow_succ, Nat.mul_comm (256 ^ p) 256]
    congr 1
    omega
theorem bytesOf_take : ∀ (q n c : Nat), q ≤ n → (bytesOf n c).take q = bytesOf q c
  | 0, n, c, _ => by simp [bytesOf]
  | q + 1, 0, c, h => absurd h (by omega)
  | q + 1, n + 1, c, h => by
    simp only [bytesOf, List.take_succ_cons]
    rw [bytesOf_take q n (c / 256) (by omega)]
theorem bytesOf_mod : ∀ (n c : Nat), bytesOf n (c % 256 ^ n) = bytesOf n c
  | 0, _ => rfl
  | n + 1, c => by
    simp only [bytesOf]
    have hp : 256 ^ (n + 1) = 256 * 256 ^ n := by rw [Nat.pow_succ, Nat.mul_comm]
    have h1 : c % 256 ^ (n + 1) % 256 = c % 256 := by rw [hp, Nat.mod_mul_right_mod]
    have h2 : c % 256 ^ (n + 1) / 256 = c / 256 % 256 ^ n := by rw [hp, Nat.mod_mul_right_div_self]
    rw [h1, h2, bytesOf_mod n]
theorem bytesOf_inj : ∀ (n c d : Nat), bytesOf n c = bytesOf n d → c % 256 ^ n = d % 256 ^ n
  | 0, _, _, _ => by simp [Nat.mod_one]
  | n + 1, c, d, h => by
    simp only [bytesOf, List.cons.injEq] at h
    obtain ⟨h1, h2⟩ := h
    have ih := bytesOf_inj n _ _ h2
    have h3 : c % 256 = d % 256 := by
      have := congrArg UInt8.toNat h1
      simpa using this
    have hp : 256 ^ (n + 1) = 256 * 256 ^ n := by rw [Nat.pow_succ, Nat.mul_comm]
    rw [hp, Nat.mod_mul, Nat.mod_mul, ih, h3]
theorem bytesOf_eq_iff (n c d : Nat) : bytesOf n c = bytesOf n d ↔ c % 256 ^ n = d % 256 ^ n :=
  ⟨bytesOf_inj n c d, fun h => by rw [← bytesOf_mod n c, h, bytesOf_mod]⟩
theorem bytesOf_append : ∀ (m n c d : Nat), bytesOf m c ++ bytesOf n d = bytesOf (m + n) (c % 256 ^ m + d * 256 ^ m)
  | 0, n, c, d => by simp [bytesOf, Nat.mod_one]
  | m + 1, n, c, d => by
    have hp : 256 ^ (m + 1) = 256 * 256 ^ m := by rw [Nat.pow_succ, Nat.mul_comm]
    have e : m + 1 + n = (m + n) + 1 := by omega
    rw [e]
    simp only [bytesOf, List.cons_append]
    have h1 : (c % 256 ^ (m + 1) + d * 256 ^ (m + 1)) % 256 = c % 256 := by
      rw [hp, Nat.mul_left_comm, Nat.add_mul_mod_self_left, Nat.mod_mul_right_mod]
    have h2 : (c % 256 ^ (m + 1) + d * 256 ^ (m + 1)) / 256 = (c / 256) % 256 ^ m + d * 256 ^ m := by
      rw [hp, Nat.mul_left_comm, Nat.add_mul_div_left _ _ (by omega), Nat.mod_mul_right_div_self]
    rw [h1, h2, bytesOf_append m n]

/-- the bytes of an abstract string -/
def strB (l c : Nat) : ByteArray := ⟨(bytesOf l c).toArray⟩
theorem strB_toList (l c : Nat) : (strB l c).data.toList = bytesOf l c := rfl
theorem strB_size (l c : Nat) : (strB l c).size = l := by
  show (bytesOf l c).toArray.size = l
  simp [bytesOf_length]
theorem strB_codeOf (s : ByteArray) : strB s.data.toList.length (codeOf s.data.toList) = s := by
  unfold strB
  rw [bytesOf_codeOf]
theorem strB_inj {l c m d : Nat} : strB l c = strB m d ↔ bytesOf l c = bytesOf m d := by
  constructor
  · intro h
    have := congrArg (fun s : ByteArray => s.data.toList) h
    exact this
  · intro h; unfold strB; rw [h]
theorem streq_iff (l c m d : Nat) : streq l c m d = true ↔ strB l c = strB m d := by
  rw [strB_inj]
  unfold streq
  by_cases h : l = m
  · subst h
    simp only [Nat.beq_refl]
    rw [bytesOf_eq_iff]
    constructor
    · intro h; exact Nat.eq_of_beq_eq_true h
    · intro h
      show Nat.beq (c % 256 ^ l) (d % 256 ^ l) = true
      rw [h]; simp
  · have hb : Nat.beq l m = false := by
      cases hb : Nat.beq l m with
      | false => rfl
      | true => exact absurd (Nat.eq_of_beq_eq_true hb) h
    rw [hb]
    constructor
    · intro h; cases h
    · intro h'
      have := congrArg List.length h'
      simp [bytesOf_length] at this
      exact absurd this h

end Go.Ev
