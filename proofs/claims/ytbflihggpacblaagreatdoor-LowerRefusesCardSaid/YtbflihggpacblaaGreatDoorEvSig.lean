/- What symbols stand for, out of the arguments. -/
import Derived.Test.YtbflihggpacblaaGreatDoorEvLaid
set_option linter.unusedVariables false
set_option linter.unusedSimpArgs false
namespace Go.Ev

def symIx (m : Nat) : Nat := (m / 4294967296) % 65536
/-- the integers that symbols stand for -/
def valOf (v0 : Nat → Nat → Nat → Nat → Int) (n : Int) : Int := match n with
  | .ofNat _ => 0
  | .negSucc m => (match symId m with
    | 0 => v0 0 (symIx m) (symMd m) (symR m)
    | 1 => IntKind.u64.wrap (v0 0 (symIx m) (symMd m) (symR m))
    | 2 => v0 2 (symIx m) (symMd m) (symR m)
    | 3 => v0 2 (symIx m) (symMd m) (symR m) % 256
    | 4 => v0 4 (symIx m) (symMd m) (symR m)
    | 5 => v0 4 (symIx m) (symMd m) (symR m) / 2
    | _ => 0)
/-- what is known of an argument -/
def SymOk (id md r : Nat) (a : Int) : Prop := match id with
  | 0 => IntKind.u64.wrap a % (md : Int) = (r : Int)
  | 2 => a % 256 % (md : Int) = (r : Int)
  | 4 => a % (md : Int) = (r : Int)
  | _ => True
def ValOk (v0 : Nat → Nat → Nat → Nat → Int) : Prop := ∀ (id ix md r : Nat), r < md → r < 256 → SymOk id md r (v0 id ix md r)

theorem symId_big {m : Nat} {k : Nat} (h : symId m = k + 1) : symB (.negSucc m) = true := by
  have h1 : (m - 1180591620717411303424) / 281474976710656 = k + 1 := h
  show Nat.ble 1180591620717411303424 m = true
  refine Nat.ble_eq_true_of_le ?_
  rcases Nat.lt_or_ge m 1180591620717411303424 with h2 | h2
  · rw [Nat.sub_eq_zero_of_le (Nat.le_of_lt h2)] at h1
    simp at h1
  · exact h2

theorem div_next (B c m : Nat) (hc : 0 < c) (hm : B ≤ m) : (m + c - B) / c = (m - B) / c + 1 := by
  rw [show m + c - B = (m - B) + c by omega, Nat.add_div_right _ hc]
theorem mod_next (d k m : Nat) (hd : 0 < d) : ((m + (65536 * k) * d) / d) % 65536 = (m / d) % 65536 := by
  rw [Nat.add_mul_div_right _ _ hd, Nat.add_mul_mod_self_left]
theorem mod_next1 (k m : Nat) : (m + 65536 * k) % 65536 = m % 65536 := Nat.add_mul_mod_self_left _ _ _
theorem symNext (m : Nat) (hm : 1180591620717411303424 ≤ m) : symId (Nat.add m 281474976710656) = symId m + 1 ∧ symIx (Nat.add m 281474976710656) = symIx m ∧ symMd (Nat.add m 281474976710656) = symMd m ∧ symR (Nat.add m 281474976710656) = symR m :=
  ⟨div_next 1180591620717411303424 281474976710656 m (by decide) hm, mod_next 4294967296 1 m (by decide), mod_next 65536 65536 m (by decide), mod_next1 4294967296 m⟩

theorem u64_wrap_range (n : Int) : 0 ≤ IntKind.u64.wrap n ∧ IntKind.u64.wrap n < 18446744073709551616 := by
  have h : IntKind.u64.wrap n = n % 18446744073709551616 := by simp [IntKind.wrap, IntKind.bits, IntKind.signed]
  rw [h]
  omega

theorem pow2B_cases {md : Nat} (h : pow2B md = true) : ∃ k, k ≤ 8 ∧ 1 ≤ k ∧ md = 2 ^ k := by
  simp only [pow2B, Bool.or_eq_true] at h
  rcases h with ((((((h | h) | h) | h) | h) | h) | h) | h
  · exact ⟨1, by decide, by decide, Nat.eq_of_beq_eq_true h⟩
  · exact ⟨2, by decide, by decide, Nat.eq_of_beq_eq_true h⟩
  · exact ⟨3, by decide, by decide, Nat.eq_of_beq_eq_true h⟩
  · exact ⟨4, by decide, by decide, Nat.eq_of_beq_eq_true h⟩
  · exact ⟨5, by decide, by decide, Nat.eq_of_beq_eq_true h⟩
  · exact ⟨6, by decide, by decide, Nat.eq_of_beq_eq_true h⟩
  · exact ⟨7, by decide, by decide, Nat.eq_of_beq_eq_true h⟩
  · exact ⟨8, by decide, by decide, Nat.eq_of_beq_eq_true h⟩

theorem land_low (x c k : Nat) (hc : c < 2 ^ k) : x &&& c = (x % 2 ^ k) &&& c := by
  have h1 : (x &&& c) % 2 ^ k = (x % 2 ^ k) &&& (c % 2 ^ k) := Nat.and_mod_two_pow
  rw [Nat.mod_eq_of_lt hc] at h1
  rw [← h1]
  exact (Nat.mod_eq_of_lt (Nat.lt_of_le_of_lt Nat.and_le_right hc)).symm

theorem i64_toNat (n : Int) : (BitVec.ofInt IntKind.i64.bits n).toNat = (n % 18446744073709551616).toNat := by
  show (BitVec.ofInt 64 n).toNat = _
  rw [BitVec.toNat_ofInt]
  rfl
theorem i64_wrap_small (r : Nat) (h : r < 256) : IntKind.i64.wrap (r : Int) = (r : Int) := by
  simp [IntKind.wrap, IntKind.bits, IntKind.signed]
  omega
/-- the low bits of an int of which the residue is known -/
theorem and_low (P : Program) (w : World) (t : TypeId) (n : Int) (c r k : Nat) (hk : k ≤ 8) (hc : c < 2 ^ k) (hr : n % ((2 ^ k : Nat) : Int) = (r : Int)) :
    (binOp .and t (.int .i64 n) (.int .i64 (c : Int))).run P w = .ok (.int .i64 ((r &&& c : Nat) : Int)) w := by
  have hk2 : (2 : Nat) ^ k ≤ 256 := by
    have : (2 : Nat) ^ k ≤ 2 ^ 8 := Nat.pow_le_pow_right (by decide) hk
    simpa using this
  have hc256 : c < 256 := Nat.lt_of_lt_of_le hc hk2
  have e1 : (BitVec.ofInt IntKind.i64.bits n &&& BitVec.ofInt IntKind.i64.bits (c : Int)).toNat = r &&& c := by
    rw [BitVec.toNat_and, i64_toNat, i64_toNat]
    have e2 : ((c : Int) % 18446744073709551616).toNat = c := by omega
    rw [e2, land_low _ c k hc]
    have e3 : (n % 18446744073709551616).toNat % 2 ^ k = r := by
      have h8 : k = 0 ∨ k = 1 ∨ k = 2 ∨ k = 3 ∨ k = 4 ∨ k = 5 ∨ k = 6 ∨ k = 7 ∨ k = 8 := by omega
      rcases h8 with rfl | rfl | rfl | rfl | rfl | rfl | rfl | rfl | rfl <;> (simp only [Nat.reducePow] at hr ⊢; omega)
    rw [e3]
  have e4 : IntKind.i64.wrap ((r &&& c : Nat) : Int) = ((r &&& c : Nat) : Int) := i64_wrap_small _ (Nat.lt_of_le_of_lt Nat.and_le_right hc256)
  show (Op.intBits .and .i64 n (c : Int)).run P w = _
  unfold Op.intBits
  simp only [e1]
  rw [e4]
  rfl

theorem sig_and255 (v0 : Nat → Nat → Nat → Nat → Int) (P : Program) (w : World) (t : TypeId) (m n : Nat) (hb : symB (.negSucc m) = true) (hb' : symB (.negSucc n) = true) (hid : symId m = 2) (e1 : symId n = 3) (e2 : symIx n = symIx m) (e3 : symMd n = symMd m) (e4 : symR n = symR m) :
    (binOp .and t (.int .i64 (decV (valOf v0) (.negSucc m))) (.int .i64 (decV (valOf v0) (.ofNat 255)))).run P w = .ok (.int .i64 (decV (valOf v0) (.negSucc n))) w := by
  have a1 : decV (valOf v0) (.negSucc m) = v0 2 (symIx m) (symMd m) (symR m) := by simp only [decV, hb, valOf, hid]
  have a2 : decV (valOf v0) (.negSucc n) = v0 2 (symIx m) (symMd m) (symR m) % 256 := by simp only [decV, hb', valOf, e1, e2, e3, e4]
  have a3 : decV (valOf v0) (.ofNat 255) = ((255 : Nat) : Int) := rfl
  rw [a1, a2, a3]
  generalize v0 2 (symIx m) (symMd m) (symR m) = x
  have hr : x % ((2 ^ 8 : Nat) : Int) = (((x % 256).toNat : Nat) : Int) := by simp only [Nat.reducePow]; omega
  rw [and_low P w t x 255 (x % 256).toNat 8 (by decide) (by decide) hr]
  have h3 : ((x % 256).toNat &&& 255 : Nat) = (x % 256).toNat := by
    have := Nat.and_two_pow_sub_one_eq_mod (x % 256).toNat 8
    simp only [Nat.reducePow, Nat.reduceSub] at this
    rw [this]; omega
  rw [h3]
  have h4 : (((x % 256).toNat : Nat) : Int) = x % 256 := by omega
  rw [h4]
theorem sig_shr1 (v0 : Nat → Nat → Nat → Nat → Int) (P : Program) (w : World) (t : TypeId) (j : IntKind) (m n : Nat) (hb : symB (.negSucc m) = true) (hb' : symB (.negSucc n) = true) (hid : symId m = 4) (e1 : symId n = 5) (e2 : symIx n = symIx m) (e3 : symMd n = symMd m) (e4 : symR n = symR m) :
    (binOp .shr t (.int .i64 (decV (valOf v0) (.negSucc m))) (.int j (decV (valOf v0) (.ofNat 1)))).run P w = .ok (.int .i64 (decV (valOf v0) (.negSucc n))) w := by
  have a1 : decV (valOf v0) (.negSucc m) = v0 4 (symIx m) (symMd m) (symR m) := by simp only [decV, hb, valOf, hid]
  have a2 : decV (valOf v0) (.negSucc n) = v0 4 (symIx m) (symMd m) (symR m) / 2 := by simp only [decV, hb', valOf, e1, e2, e3, e4]
  have a3 : decV (valOf v0) (.ofNat 1) = 1 := rfl
  rw [a1, a2, a3]
  generalize v0 4 (symIx m) (symMd m) (symR m) = x
  show (Op.shift .shr .i64 x j 1).run P w = _
  have h5 : (x.fdiv 2) = x / 2 := Int.fdiv_eq_ediv_of_nonneg x (by decide)
  simp [Op.shift, IntKind.bits, h5]

theorem sig_bin (v0 : Nat → Nat → Nat → Nat → Int) (h0 : ValOk v0) : ∀ (P : Program) (w : World) (op : BinOp) (t : TypeId) (i j k : IntKind) (a b z : Int), symBin op i a j b = some (k, z) → (binOp op t (.int i (decV (valOf v0) a)) (.int j (decV (valOf v0) b))).run P w = .ok (.int k (decV (valOf v0) z)) w := by
  intro P w op t i j k a b z h
  unfold symBin at h
  split at h
  · rename_i m c
    have e2 : decV (valOf v0) (.ofNat c) = (c : Int) := rfl
    split at h
    · -- 1, .rem
      rename_i hid
      split at h
      · rename_i hc
        simp only [Bool.and_eq_true] at hc
        obtain ⟨⟨hc1, hc2⟩, hc3⟩ := hc
        have hc1 := Nat.eq_of_beq_eq_true hc1
        have hc2 : symR m < c := Nat.le_of_ble_eq_true hc2
        have hc3 : symR m < 256 := Nat.le_of_ble_eq_true hc3
        cases h
        have hb := symId_big (k := 0) hid
        have e1 : decV (valOf v0) (.negSucc m) = IntKind.u64.wrap (v0 0 (symIx m) (symMd m) (symR m)) := by simp only [decV, hb, valOf, hid]
        have e3 : decV (valOf v0) (.ofNat (symR m)) = (symR m : Int) := rfl
        rw [e1, e2, e3]
        obtain ⟨hr1, hr2⟩ := u64_wrap_range (v0 0 (symIx m) (symMd m) (symR m))
        have hmod : IntKind.u64.wrap (v0 0 (symIx m) (symMd m) (symR m)) % (symMd m : Int) = (symR m : Int) := h0 0 (symIx m) (symMd m) (symR m) (by rw [← hc1]; exact hc2) hc3
        rw [← hc1] at hmod
        have hcne : (c : Int) ≠ 0 := by omega
        have htm : (IntKind.u64.wrap (v0 0 (symIx m) (symMd m) (symR m))).tmod (c : Int) = (symR m : Int) := by
          rw [Int.tmod_eq_emod_of_nonneg hr1]; rw [hc1] at hmod ⊢; exact hmod
        have hcn : c ≠ 0 := by omega
        simp [binOp, Op.intDiv, hcn, htm]
      · cases h
    · -- 2, .and
      rename_i hid
      split at h
      · rename_i hc
        have hc := Nat.eq_of_beq_eq_true hc
        subst hc
        cases h
        have hb := symId_big (k := 1) hid
        have hm : 1180591620717411303424 ≤ m := Nat.le_of_ble_eq_true hb
        obtain ⟨f1, f2, f3, f4⟩ := symNext m hm
        rw [hid] at f1
        exact sig_and255 v0 P w t m _ hb (symId_big (k := 2) f1) hid f1 f2 f3 f4
      · cases h
    · -- 3, .rem
      rename_i hid
      split at h
      · rename_i hc
        simp only [Bool.and_eq_true] at hc
        obtain ⟨⟨hc1, hc2⟩, hc3⟩ := hc
        have hc1 := Nat.eq_of_beq_eq_true hc1
        have hc2 : symR m < c := Nat.le_of_ble_eq_true hc2
        have hc3 : symR m < 256 := Nat.le_of_ble_eq_true hc3
        cases h
        have hb := symId_big (k := 2) hid
        have e1 : decV (valOf v0) (.negSucc m) = v0 2 (symIx m) (symMd m) (symR m) % 256 := by simp only [decV, hb, valOf, hid]
        have e3 : decV (valOf v0) (.ofNat (symR m)) = (symR m : Int) := rfl
        rw [e1, e2, e3]
        have hmod : v0 2 (symIx m) (symMd m) (symR m) % 256 % (symMd m : Int) = (symR m : Int) := h0 2 (symIx m) (symMd m) (symR m) (by rw [← hc1]; exact hc2) hc3
        generalize v0 2 (symIx m) (symMd m) (symR m) = x at hmod ⊢
        rw [← hc1] at hmod
        have hcn : c ≠ 0 := by omega
        have htm : (x % 256).tmod (c : Int) = (symR m : Int) := by
          rw [Int.tmod_eq_emod_of_nonneg (Int.emod_nonneg _ (by decide))]; exact hmod
        simp [binOp, Op.intDiv, hcn, htm]
      · cases h
    · -- 4, .and
      rename_i hid
      split at h
      · rename_i hc
        simp only [Bool.and_eq_true] at hc
        obtain ⟨⟨hc1, hc2⟩, hc3⟩ := hc
        have hc2 : c < symMd m := Nat.le_of_ble_eq_true hc2
        have hc3 : symR m < symMd m := Nat.le_of_ble_eq_true hc3
        obtain ⟨k, hk, -, hmd⟩ := pow2B_cases hc1
        cases h
        have hb := symId_big (k := 3) hid
        have e1 : decV (valOf v0) (.negSucc m) = v0 4 (symIx m) (symMd m) (symR m) := by simp only [decV, hb, valOf, hid]
        have h256 : symMd m ≤ 256 := by
          rw [hmd]
          have : (2 : Nat) ^ k ≤ 2 ^ 8 := Nat.pow_le_pow_right (by decide) hk
          simpa using this
        have hmod : v0 4 (symIx m) (symMd m) (symR m) % (symMd m : Int) = (symR m : Int) := h0 4 (symIx m) (symMd m) (symR m) hc3 (by omega)
        rw [e1, e2]
        exact and_low P w t _ c (symR m) k hk (by rw [← hmd]; exact hc2) (by rw [← hmd]; exact hmod)
      · cases h
    · -- 4, .shr
      rename_i hid
      split at h
      · rename_i hc
        have hc := Nat.eq_of_beq_eq_true hc
        subst hc
        cases h
        have hb := symId_big (k := 3) hid
        have hm : 1180591620717411303424 ≤ m := Nat.le_of_ble_eq_true hb
        obtain ⟨f1, f2, f3, f4⟩ := symNext m hm
        rw [hid] at f1
        exact sig_shr1 v0 P w t _ m _ hb (symId_big (k := 4) f1) hid f1 f2 f3 f4
      · cases h
    · -- 5, .and
      rename_i hid
      split at h
      · rename_i hc
        simp only [Bool.and_eq_true] at hc
        obtain ⟨⟨hc1, hc2⟩, hc3⟩ := hc
        have hc2 : c + c < symMd m := Nat.le_of_ble_eq_true hc2
        have hc3 : symR m < symMd m := Nat.le_of_ble_eq_true hc3
        obtain ⟨k, hk, hk1, hmd⟩ := pow2B_cases hc1
        cases h
        have hb := symId_big (k := 4) hid
        have e1 : decV (valOf v0) (.negSucc m) = v0 4 (symIx m) (symMd m) (symR m) / 2 := by simp only [decV, hb, valOf, hid]
        have h256 : symMd m ≤ 256 := by
          rw [hmd]
          have : (2 : Nat) ^ k ≤ 2 ^ 8 := Nat.pow_le_pow_right (by decide) hk
          simpa using this
        have hmod : v0 4 (symIx m) (symMd m) (symR m) % (symMd m : Int) = (symR m : Int) := h0 4 (symIx m) (symMd m) (symR m) hc3 (by omega)
        rw [e1, e2]
        obtain ⟨k, rfl⟩ : ∃ l, k = l + 1 := ⟨k - 1, by omega⟩
        refine and_low P w t _ c (symR m / 2) k (by omega) ?_ ?_
        · rw [Nat.pow_succ] at hmd; omega
        · generalize v0 4 (symIx m) (symMd m) (symR m) = n at hmod ⊢
          rw [hmd] at hmod
          have h8 : k = 0 ∨ k = 1 ∨ k = 2 ∨ k = 3 ∨ k = 4 ∨ k = 5 ∨ k = 6 ∨ k = 7 := by omega
          rcases h8 with rfl | rfl | rfl | rfl | rfl | rfl | rfl | rfl <;> (simp only [Nat.reducePow, Nat.reduceAdd] at hmod ⊢; omega)
      · cases h
    · cases h
  · cases h

theorem sig_conv_at (v0 : Nat → Nat → Nat → Nat → Int) (m n : Nat) (hs : symB (.negSucc m) = true) (hid : symId m = 0) (e1 : symId n = 1) (e2 : symIx n = symIx m) (e3 : symMd n = symMd m) (e4 : symR n = symR m) :
    IntKind.u64.wrap (decV (valOf v0) (.negSucc m)) = decV (valOf v0) (.negSucc n) := by
  have hb := symId_big (k := 0) e1
  simp only [decV, hs, hb, valOf, hid, e1, e2, e3, e4]
theorem symConv_form {i k : IntKind} {a z : Int} (h : symConv i k a = some z) : ∃ m, a = .negSucc m ∧ symId m = 0 ∧ k = .u64 ∧ z = .negSucc (Nat.add m 281474976710656) := by
  cases a with
  | ofNat n => cases h
  | negSucc m =>
    simp only [symConv] at h
    split at h
    · rename_i hid
      exact ⟨m, rfl, hid, rfl, (Option.some.inj h).symm⟩
    · cases h
theorem sig_conv (v0 : Nat → Nat → Nat → Nat → Int) : ∀ (i k : IntKind) (a z : Int), symB a = true → symConv i k a = some z → k.wrap (decV (valOf v0) a) = decV (valOf v0) z := by
  intro i k a z hs h
  obtain ⟨m, ha, hid, hk, hz⟩ := symConv_form h
  rw [ha] at hs
  have hm : 1180591620717411303424 ≤ m := Nat.le_of_ble_eq_true hs
  obtain ⟨e1, e2, e3, e4⟩ := symNext m hm
  rw [hid] at e1
  rw [ha, hk, hz]
  exact sig_conv_at v0 m _ hs hid e1 e2 e3 e4

abbrev sigOf (v0 : Nat → Nat → Nat → Nat → Int) (h0 : ValOk v0) : Sig := ⟨valOf v0, sig_bin v0 h0, sig_conv v0⟩

/-- the arguments that are symbols: kind, number, modulus, residue, value -/
structure SArg where
  id : Nat
  ix : Nat
  md : Nat
  r : Nat
  a : Int
def symVal : List SArg → Nat → Nat → Nat → Nat → Int
  | [], _, _, _, r => (r : Int)
  | s :: l, id, ix, md, r => if id = s.id ∧ ix = s.ix ∧ md = s.md ∧ r = s.r then s.a else symVal l id ix md r
theorem symOk_self (id md r : Nat) (h : r < md) (h2 : r < 256) : SymOk id md r (r : Int) := by
  unfold SymOk
  split
  · have e : IntKind.u64.wrap (r : Int) = (r : Int) := by
      have : IntKind.u64.wrap (r : Int) = (r : Int) % 18446744073709551616 := by simp [IntKind.wrap, IntKind.bits, IntKind.signed]
      rw [this]; omega
    rw [e]
    exact Int.emod_eq_of_lt (by omega) (by omega)
  · have e : (r : Int) % 256 = (r : Int) := by omega
    rw [e]
    exact Int.emod_eq_of_lt (by omega) (by omega)
  · exact Int.emod_eq_of_lt (by omega) (by omega)
  · trivial
theorem symVal_ok : ∀ {l : List SArg}, (∀ s ∈ l, SymOk s.id s.md s.r s.a) → ValOk (symVal l)
  | [], _ => fun id _ md r h1 h2 => symOk_self id md r h1 h2
  | s :: l, h => by
    intro id ix md r h1 h2
    unfold symVal
    split
    · rename_i he
      obtain ⟨rfl, rfl, rfl, rfl⟩ := he
      exact h s (by simp)
    · exact symVal_ok (fun x hx => h x (by simp [hx])) id ix md r h1 h2
/-- every argument has a residue -/
theorem symOk_ex (id md : Nat) (hid : id = 0 ∨ id = 2 ∨ id = 4) (hmd : 0 < md) (a : Int) : ∃ r, r < md ∧ SymOk id md r a := by
  have key : ∀ z : Int, ∃ r, r < md ∧ z % (md : Int) = (r : Int) := fun z => by
    have h1 := Int.emod_nonneg z (b := (md : Int)) (by omega)
    have h2 := Int.emod_lt_of_pos z (b := (md : Int)) (by omega)
    exact ⟨(z % (md : Int)).toNat, by omega, by omega⟩
  rcases hid with rfl | rfl | rfl
  · exact key _
  · exact key _
  · exact key _
end Go.Ev
