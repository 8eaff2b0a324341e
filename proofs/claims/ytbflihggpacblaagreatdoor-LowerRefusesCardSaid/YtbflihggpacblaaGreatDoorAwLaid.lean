/- A closed run: an empty document is the same as another one. No condition. · What the steps of awake() return, in a world that holds the blocks of the steps before. No condition beyond the listed ones. · Laid and awake(), step by step: awake() returns true and leaves all that was there as it was. No condition beyond the listed variables. -/
import Derived.Test.YtbflihggpacblaaGreatDoorLib2
import Derived.Test.YtbflihggpacblaaGreatDoorCkLayout
import Derived.Test.YtbflihggpacblaaGreatDoorCkLower
import Derived.Test.YtbflihggpacblaaGreatDoorCkBad
import Derived.Test.YtbflihggpacblaaGreatDoorLow
import Derived.Deep.RegionWith
namespace Go.Proofs.YtbflihggpacblaaGreatDoor
open Go Go.Ev
set_option linter.unusedSectionVars false
variable [Sig]
def zdoc : AV := .agg [.int .i64 0, .str 0 0, .nilslice, .bool false, .int .i64 0, .int .i64 0]
theorem same0 : isV (.bool true) ((fnsF Tryz.prog orc3 3000).call 8 [zdoc, zdoc] (hInit tabs)) = true := by kernel_rfl
end Go.Proofs.YtbflihggpacblaaGreatDoor
namespace Go.Proofs.YtbflihggpacblaaGreatDoor
open Go Go.Ev Go.RowKit Go.Proofs
set_option linter.unusedSectionVars false
set_option linter.unusedVariables false
set_option linter.unusedSimpArgs false

def srcB : ByteArray := ⟨#[97, 32, 32, 61, 32, 123, 98, 58, 49, 44, 99, 125, 32, 59, 32, 32, 47, 47, 32, 120, 10, 10, 10, 105, 102, 40, 97, 41, 98, 40, 41]⟩
def finB : ByteArray := ⟨#[97, 32, 61, 32, 123, 32, 98, 58, 32, 49, 44, 32, 99, 32, 125, 59, 32, 47, 47, 32, 120, 10, 10, 105, 102, 32, 40, 97, 41, 10, 32, 32, 98, 40, 41, 59, 10]⟩
theorem src_eq : strB 31 72719445942331125114697810434525025190172354517124980332480923688329289825 = srcB := by kernel_rfl
theorem fin_eq : strB 37 5088162156377104119428203981306241491789588565850710075235727722002126482329385740083297 = finB := by kernel_rfl
theorem nil_eq : strB 0 0 = ⟨#[]⟩ := rfl
section
variable [Sig]
theorem i_cv {E : Env} {k : IntKind} {n : Int} (h : symB n = false) : cv E (.int k n) = some (.int k n) := by simp only [cv, dec_of h]
theorem b_cv {E : Env} {b : Bool} : cv E (.bool b) = some (.bool b) := by simp only [cv]
theorem s_cv {E : Env} {l c : Nat} : cv E (.str l c) = some (.string (strB l c)) := by simp only [cv]
theorem n_cv {E : Env} : cv E .nilslice = some (.slice none 0 0) := by simp only [cv]
theorem a_cv {E : Env} {l : List AV} {us : List Value} (h : cvC E l = some us) : cv E (.agg l) = some (.agg us.toArray) := by simp only [cv, h]
theorem t_cv {E : Env} {l : List AV} {us : List Value} (h : cvL E l = some us) : cv E (.tuple l) = some (.tuple us.toArray) := by simp only [cv, h]
theorem cN {E : Env} : cvC E [] = some [] := by simp only [cvC]
theorem lN {E : Env} : cvL E [] = some [] := by simp only [cvL]
theorem cC {E : Env} {v : AV} {vs : List AV} {u : Value} {us : List Value} (h1 : v.one = true) (h2 : cv E v = some u) (h3 : cvC E vs = some us) : cvC E (v :: vs) = some (u :: us) := by simp only [cvC, h1, h2, h3]
theorem lC {E : Env} {v : AV} {vs : List AV} {u : Value} {us : List Value} (h2 : cv E v = some u) (h3 : cvL E vs = some us) : cvL E (v :: vs) = some (u :: us) := by simp only [cvL, h2, h3]
theorem a_inv {E : Env} {l : List AV} {u : Value} (h : cv E (.agg l) = some u) : ∃ us, cvC E l = some us ∧ u = .agg us.toArray := by
  simp only [cv] at h
  cases hl : cvC E l with
  | none => rw [hl] at h; cases h
  | some us => rw [hl] at h; cases h; exact ⟨us, rfl, rfl⟩
theorem t_inv {E : Env} {l : List AV} {u : Value} (h : cv E (.tuple l) = some u) : ∃ us, cvL E l = some us ∧ u = .tuple us.toArray := by
  simp only [cv] at h
  cases hl : cvL E l with
  | none => rw [hl] at h; cases h
  | some us => rw [hl] at h; cases h; exact ⟨us, rfl, rfl⟩
theorem lN_inv {E : Env} {us : List Value} (h : cvL E [] = some us) : us = [] := by simp only [cvL] at h; cases h; rfl
theorem cN_inv {E : Env} {us : List Value} (h : cvC E [] = some us) : us = [] := by simp only [cvC] at h; cases h; rfl
theorem lC_inv {E : Env} {v : AV} {vs : List AV} {us : List Value} (h : cvL E (v :: vs) = some us) : ∃ u us', cv E v = some u ∧ cvL E vs = some us' ∧ us = u :: us' := by
  simp only [cvL] at h
  cases h1 : cv E v with
  | none => rw [h1] at h; cases h
  | some u =>
    cases h2 : cvL E vs with
    | none => rw [h1, h2] at h; cases h
    | some us' => rw [h1, h2] at h; cases h; exact ⟨u, us', rfl, rfl, rfl⟩
theorem cC_inv {E : Env} {v : AV} {vs : List AV} {us : List Value} (h : cvC E (v :: vs) = some us) : ∃ u us', cv E v = some u ∧ cvC E vs = some us' ∧ us = u :: us' := by
  simp only [cvC] at h
  cases h0 : v.one with
  | false => rw [h0] at h; cases h
  | true =>
  cases h1 : cv E v with
  | none => rw [h0, h1] at h; cases h
  | some u =>
    cases h2 : cvC E vs with
    | none => rw [h0, h1, h2] at h; cases h
    | some us' => rw [h0, h1, h2] at h; cases h; exact ⟨u, us', rfl, rfl, rfl⟩
theorem sl_inv {E : Env} {b o l c : Nat} {x : Bool} {u : Value} (h : cv E (.slice b o l c x) = some u) : ∃ a k, u = .slice a l k := by
  simp only [cv] at h
  cases hb : E b with
  | none => rw [hb] at h; cases h
  | some e => rw [hb] at h; cases h; exact ⟨_, _, rfl⟩
theorem i_inv {E : Env} {k : IntKind} {n : Int} {u : Value} (hn : symB n = false) (h : cv E (.int k n) = some u) : u = .int k n := by rw [i_cv hn] at h; cases h; rfl
theorem b_inv {E : Env} {b : Bool} {u : Value} (h : cv E (.bool b) = some u) : u = .bool b := by rw [b_cv] at h; cases h; rfl
theorem s_inv {E : Env} {l c : Nat} {u : Value} (h : cv E (.str l c) = some u) : u = .string (strB l c) := by rw [s_cv] at h; cases h; rfl
theorem n_inv {E : Env} {u : Value} (h : cv E .nilslice = some u) : u = .slice none 0 0 := by rw [n_cv] at h; cases h; rfl

/-! the values -/
def slX : AV := .slice 751 0 2 2 false
def slC : AV := .slice 500 0 1 1 false
def slD : AV := .slice 1868 0 2 2 false
def slE : AV := .slice 2317 0 2 2 false
def optV : Value := .agg #[.int .i64 80, .int .i64 2, .bool false, .bool true, .bool false, .bool false, .bool true, .bool false, .bool false]
def opt0V : Value := .agg #[.int .i64 0, .int .i64 0, .bool false, .bool false, .bool false, .bool false, .bool false, .bool false, .bool false]
theorem opt_cv {E : Env} : cv E (.agg [.int .i64 80, .int .i64 2, .bool false, .bool true, .bool false, .bool false, .bool true, .bool false, .bool false]) = some optV :=
  a_cv (cC rfl (i_cv rfl) (cC rfl (i_cv rfl) (cC rfl b_cv (cC rfl b_cv (cC rfl b_cv (cC rfl b_cv (cC rfl b_cv (cC rfl b_cv (cC rfl b_cv cN)))))))))
theorem opt0_cv {E : Env} : cv E (.agg [.int .i64 0, .int .i64 0, .bool false, .bool false, .bool false, .bool false, .bool false, .bool false, .bool false]) = some opt0V :=
  a_cv (cC rfl (i_cv rfl) (cC rfl (i_cv rfl) (cC rfl b_cv (cC rfl b_cv (cC rfl b_cv (cC rfl b_cv (cC rfl b_cv (cC rfl b_cv (cC rfl b_cv cN)))))))))
theorem node_cv {E : Env} {v : AV} {u : Value} (h1 : v.one = true) (h : cv E v = some u) : cv E (.agg [.int .i64 86, .str 0 0, v, .int .i64 0, .int .i64 31]) = some (.agg #[.int .i64 86, .string ⟨#[]⟩, u, .int .i64 0, .int .i64 31]) := by
  rw [← nil_eq]
  exact a_cv (cC rfl (i_cv rfl) (cC rfl s_cv (cC h1 h (cC rfl (i_cv rfl) (cC rfl (i_cv rfl) cN)))))
theorem doc_cv {E : Env} {v : AV} {u : Value} (h1 : v.one = true) (h : cv E v = some u) : cv E (.agg [.int .i64 2, .str 0 0, v, .bool false, .int .i64 0, .int .i64 0]) = some (.agg #[.int .i64 2, .string ⟨#[]⟩, u, .bool false, .int .i64 0, .int .i64 0]) := by
  rw [← nil_eq]
  exact a_cv (cC rfl (i_cv rfl) (cC rfl s_cv (cC h1 h (cC rfl b_cv (cC rfl (i_cv rfl) (cC rfl (i_cv rfl) cN))))))
theorem doc_inv {E : Env} {b o l c : Nat} {x : Bool} {u : Value} (h : cv E (.agg [.int .i64 2, .str 0 0, .slice b o l c x, .bool false, .int .i64 0, .int .i64 0]) = some u) :
    ∃ a k, u = .agg #[.int .i64 2, .string ⟨#[]⟩, .slice a l k, .bool false, .int .i64 0, .int .i64 0] ∧ cv E (.slice b o l c x) = some (.slice a l k) := by
  obtain ⟨us, h', e'⟩ := a_inv h
  subst e'
  replace h := h'
  clear h'
  obtain ⟨u0, us, h0, h', e'⟩ := cC_inv h
  subst e'
  replace h := h'
  clear h'
  obtain ⟨u1, us, h1, h', e'⟩ := cC_inv h
  subst e'
  replace h := h'
  clear h'
  obtain ⟨u2, us, h2, h', e'⟩ := cC_inv h
  subst e'
  replace h := h'
  clear h'
  obtain ⟨u3, us, h3, h', e'⟩ := cC_inv h
  subst e'
  replace h := h'
  clear h'
  obtain ⟨u4, us, h4, h', e'⟩ := cC_inv h
  subst e'
  replace h := h'
  clear h'
  obtain ⟨u5, us, h5, h', e'⟩ := cC_inv h
  subst e'
  replace h := h'
  clear h'
  obtain rfl := cN_inv h
  obtain ⟨a, k, rfl⟩ := sl_inv h2
  obtain rfl := i_inv rfl h0
  obtain rfl := s_inv h1
  obtain rfl := b_inv h3
  obtain rfl := i_inv rfl h4
  obtain rfl := i_inv rfl h5
  exact ⟨a, k, by rw [nil_eq], h2⟩
theorem of_inv {E : Env} {u : Value} (h : cv E V_of = some u) : ∃ xa xc ca cc, u = .tuple #[.agg #[.int .i64 86, .string ⟨#[]⟩, .slice xa 2 xc, .int .i64 0, .int .i64 31], .slice ca 1 cc, .bool true] ∧
    cv E slX = some (.slice xa 2 xc) ∧ cv E slC = some (.slice ca 1 cc) := by
  obtain ⟨us, h', e'⟩ := t_inv (show cv E (.tuple [.agg [.int .i64 86, .str 0 0, .slice 751 0 2 2 false, .int .i64 0, .int .i64 31], .slice 500 0 1 1 false, .bool true]) = some u from h)
  subst e'
  replace h := h'
  clear h'
  obtain ⟨u0, us, h0, h', e'⟩ := lC_inv h
  subst e'
  replace h := h'
  clear h'
  obtain ⟨u1, us, h1, h', e'⟩ := lC_inv h
  subst e'
  replace h := h'
  clear h'
  obtain ⟨u2, us, h2, h', e'⟩ := lC_inv h
  subst e'
  replace h := h'
  clear h'
  obtain rfl := lN_inv h
  obtain rfl := b_inv h2
  obtain ⟨ca, cc, rfl⟩ := sl_inv h1
  obtain ⟨us, h0', e'⟩ := a_inv h0
  subst e'
  replace h0 := h0'
  clear h0'
  obtain ⟨v0, us, k0, h0', e'⟩ := cC_inv h0
  subst e'
  replace h0 := h0'
  clear h0'
  obtain ⟨v1, us, k1, h0', e'⟩ := cC_inv h0
  subst e'
  replace h0 := h0'
  clear h0'
  obtain ⟨v2, us, k2, h0', e'⟩ := cC_inv h0
  subst e'
  replace h0 := h0'
  clear h0'
  obtain ⟨v3, us, k3, h0', e'⟩ := cC_inv h0
  subst e'
  replace h0 := h0'
  clear h0'
  obtain ⟨v4, us, k4, h0', e'⟩ := cC_inv h0
  subst e'
  replace h0 := h0'
  clear h0'
  obtain rfl := cN_inv h0
  obtain ⟨xa, xc, rfl⟩ := sl_inv k2
  obtain rfl := i_inv rfl k0
  obtain rfl := s_inv k1
  obtain rfl := i_inv rfl k3
  obtain rfl := i_inv rfl k4
  exact ⟨xa, xc, ca, cc, by rw [nil_eq], k2, h1⟩
theorem lower_inv {E : Env} {u : Value} (h : cv E V_lower = some u) : ∃ a k, u = .tuple #[.agg #[.int .i64 2, .string ⟨#[]⟩, .slice a 2 k, .bool false, .int .i64 0, .int .i64 0], .int .i64 0] ∧ cv E slD = some (.slice a 2 k) := by
  obtain ⟨us, h', e'⟩ := t_inv (show cv E (.tuple [.agg [.int .i64 2, .str 0 0, .slice 1868 0 2 2 false, .bool false, .int .i64 0, .int .i64 0], .int .i64 0]) = some u from h)
  subst e'
  replace h := h'
  clear h'
  obtain ⟨u0, us, h0, h', e'⟩ := lC_inv h
  subst e'
  replace h := h'
  clear h'
  obtain ⟨u1, us, h1, h', e'⟩ := lC_inv h
  subst e'
  replace h := h'
  clear h'
  obtain rfl := lN_inv h
  obtain rfl := i_inv rfl h1
  obtain ⟨a, k, rfl, h2⟩ := doc_inv h0
  exact ⟨a, k, rfl, h2⟩
theorem spread_inv {E : Env} {u : Value} (h : cv E V_spread = some u) : ∃ a k, u = .agg #[.int .i64 2, .string ⟨#[]⟩, .slice a 2 k, .bool false, .int .i64 0, .int .i64 0] ∧ cv E slE = some (.slice a 2 k) :=
  doc_inv (show cv E (.agg [.int .i64 2, .str 0 0, .slice 2317 0 2 2 false, .bool false, .int .i64 0, .int .i64 0]) = some u from h)
theorem layout_inv {E : Env} {u : Value} (h : cv E V_layout = some u) : u = .tuple #[.string finB, .int .i64 0] := by
  obtain ⟨us, h', e'⟩ := t_inv (show cv E (.tuple [.str 37 5088162156377104119428203981306241491789588565850710075235727722002126482329385740083297, .int .i64 0]) = some u from h)
  subst e'
  replace h := h'
  clear h'
  obtain ⟨u0, us, h0, h', e'⟩ := lC_inv h
  subst e'
  replace h := h'
  clear h'
  obtain ⟨u1, us, h1, h', e'⟩ := lC_inv h
  subst e'
  replace h := h'
  clear h'
  obtain rfl := lN_inv h
  obtain rfl := i_inv rfl h1
  obtain rfl := s_inv h0
  rw [fin_eq]
theorem bad_inv {E : Env} {u : Value} (h : cv E V_bad = some u) : u = .tuple #[.agg #[.int .i64 0, .string ⟨#[]⟩, .slice none 0 0, .bool false, .int .i64 0, .int .i64 0], .int .i64 2000] := by
  have h' : cv E (.tuple [.agg [.int .i64 0, .str 0 0, .nilslice, .bool false, .int .i64 0, .int .i64 0], .int .i64 2000]) = some u := h
  rw [t_cv (lC (a_cv (cC rfl (i_cv rfl) (cC rfl s_cv (cC rfl n_cv (cC rfl b_cv (cC rfl (i_cv rfl) (cC rfl (i_cv rfl) cN))))))) (lC (i_cv rfl) lN)), nil_eq] at h'
  exact (Option.some.inj h').symm

/-! the calls -/
theorem of_calls (w : World) (ht : TabsOk w tabs) : Calls Tryz.prog 9 #[.string srcB, .bool false] w fun e w' => Keeps w w' ∧ ∃ E xa xc ca cc,
    e = .returned (.tuple #[.agg #[.int .i64 86, .string ⟨#[]⟩, .slice xa 2 xc, .int .i64 0, .int .i64 31], .slice ca 1 cc, .bool true]) ∧ At Tryz.prog E N_of L_of w' ∧ cv E slX = some (.slice xa 2 xc) ∧ cv E slC = some (.slice ca 1 cc) := by
  refine (step0_ck progOk (orc3_ok w ht) ht (us := [.string srcB, .bool false]) ck_of ?_).mono ?_
  · exact lC (by rw [← src_eq]; exact s_cv) (lC b_cv lN)
  · rintro e w' ⟨hk, E, u, rfl, hA, hv⟩
    obtain ⟨xa, xc, ca, cc, rfl, h1, h2⟩ := of_inv hv
    exact ⟨hk, E, xa, xc, ca, cc, rfl, hA, h1, h2⟩
theorem lower_calls (w : World) (ht : TabsOk w tabs) {E : Env} {xa ca : Option Addr} {xc cc : Nat} (hA : At Tryz.prog E N_of (roL L_of) w) (hx : cv E slX = some (.slice xa 2 xc)) (hc : cv E slC = some (.slice ca 1 cc)) :
    Calls Tryz.prog 6 #[.string srcB, .agg #[.int .i64 86, .string ⟨#[]⟩, .slice xa 2 xc, .int .i64 0, .int .i64 31], .slice ca 1 cc, optV] w fun e w' => Keeps w w' ∧ ∃ E' a k,
      e = .returned (.tuple #[.agg #[.int .i64 2, .string ⟨#[]⟩, .slice a 2 k, .bool false, .int .i64 0, .int .i64 0], .int .i64 0]) ∧ At Tryz.prog E' N_lower L_lower w' ∧ cv E' slD = some (.slice a 2 k) := by
  refine (step_ck progOk (orc3_ok w ht) hA (us := [.string srcB, .agg #[.int .i64 86, .string ⟨#[]⟩, .slice xa 2 xc, .int .i64 0, .int .i64 31], .slice ca 1 cc, optV]) ck_lower ?_).mono ?_
  · exact lC (by rw [← src_eq]; exact s_cv) (lC (node_cv rfl hx) (lC hc (lC opt_cv lN)))
  · rintro e w' ⟨hk, E, u, rfl, hA, hv⟩
    obtain ⟨a, k, rfl, h1⟩ := lower_inv hv
    exact ⟨hk, E, a, k, rfl, hA, h1⟩
theorem bad_calls (w : World) (ht : TabsOk w tabs) {E : Env} {xa ca : Option Addr} {xc cc : Nat} (hA : At Tryz.prog E N_of (roL L_of) w) (hx : cv E slX = some (.slice xa 2 xc)) (hc : cv E slC = some (.slice ca 1 cc)) :
    Calls Tryz.prog 6 #[.string srcB, .agg #[.int .i64 86, .string ⟨#[]⟩, .slice xa 2 xc, .int .i64 0, .int .i64 31], .slice ca 1 cc, opt0V] w fun e w' => Keeps w w' ∧
      e = .returned (.tuple #[.agg #[.int .i64 0, .string ⟨#[]⟩, .slice none 0 0, .bool false, .int .i64 0, .int .i64 0], .int .i64 2000]) := by
  refine (step_ck progOk (orc3_ok w ht) hA (us := [.string srcB, .agg #[.int .i64 86, .string ⟨#[]⟩, .slice xa 2 xc, .int .i64 0, .int .i64 31], .slice ca 1 cc, opt0V]) ck_bad ?_).mono ?_
  · exact lC (by rw [← src_eq]; exact s_cv) (lC (node_cv rfl hx) (lC hc (lC opt0_cv lN)))
  · rintro e w' ⟨hk, E, u, rfl, hA, hv⟩
    exact ⟨hk, by rw [bad_inv hv]⟩
theorem spread_calls (w : World) (ht : TabsOk w tabs) {E : Env} {a : Option Addr} {k : Nat} (hA : At Tryz.prog E N_lower (roL L_lower) w) (hx : cv E slD = some (.slice a 2 k)) :
    Calls Tryz.prog 21 #[.agg #[.int .i64 2, .string ⟨#[]⟩, .slice a 2 k, .bool false, .int .i64 0, .int .i64 0]] w fun e w' => Keeps w w' ∧ ∃ E' b j,
      e = .returned (.agg #[.int .i64 2, .string ⟨#[]⟩, .slice b 2 j, .bool false, .int .i64 0, .int .i64 0]) ∧ At Tryz.prog E' N_spread L_spread w' ∧ cv E' slE = some (.slice b 2 j) := by
  refine (step_ck progOk (orc3_ok w ht) hA (us := [.agg #[.int .i64 2, .string ⟨#[]⟩, .slice a 2 k, .bool false, .int .i64 0, .int .i64 0]]) ck_spread ?_).mono ?_
  · exact lC (doc_cv rfl hx) lN
  · rintro e w' ⟨hk, E, u, rfl, hA, hv⟩
    obtain ⟨a, k, rfl, h1⟩ := spread_inv hv
    exact ⟨hk, E, a, k, rfl, hA, h1⟩
theorem layout_calls (w : World) (ht : TabsOk w tabs) {E : Env} {a : Option Addr} {k : Nat} (hA : At Tryz.prog E N_spread (roL L_spread) w) (hx : cv E slE = some (.slice a 2 k)) :
    Calls Tryz.prog 20 #[.agg #[.int .i64 2, .string ⟨#[]⟩, .slice a 2 k, .bool false, .int .i64 0, .int .i64 0], optV] w fun e w' => Keeps w w' ∧ e = .returned (.tuple #[.string finB, .int .i64 0]) := by
  refine (step_ck progOk (orc3_ok w ht) hA (us := [.agg #[.int .i64 2, .string ⟨#[]⟩, .slice a 2 k, .bool false, .int .i64 0, .int .i64 0], optV]) ck_layout ?_).mono ?_
  · exact lC (doc_cv rfl hx) (lC opt_cv lN)
  · rintro e w' ⟨hk, E, u, rfl, hA, hv⟩
    exact ⟨hk, by rw [layout_inv hv]⟩
end
end Go.Proofs.YtbflihggpacblaaGreatDoor
namespace Go.Proofs.YtbflihggpacblaaGreatDoor
open Go Go.Ev Go.RowKit Go.Proofs
set_option linter.unusedVariables false
set_option linter.unusedSimpArgs false
set_option linter.unusedSectionVars false

theorem Keeps.cell' {w w' : World} (h : Keeps w w') {p : Addr} (hp : p.block < w.heap.size) : w'.cell? p = w.cell? p := World.cell?_of_block (w := w) (h.block p.block hp)
theorem keeps_drew (w : World) : Keeps w w.drew := ⟨rfl, rfl, Nat.le_refl _, fun _ _ => rfl⟩
section
variable [Sig]
theorem at_on {E : Env} {N : Nat} {L : List (Nat × Blk)} {w w' : World} (h : At Tryz.prog E N (roL L) w) (k : Keeps w w') : At Tryz.prog E N (roL L) w' := by
  have := h.keeps k
  rwa [roL_roL] at this
set_option maxHeartbeats 4000000 in
set_option maxRecDepth 1000000 in
theorem laid_calls (w : World) (ht : TabsOk w tabs) {E : Env} {xa ca : Option Addr} {xc cc : Nat} (hA : At Tryz.prog E N_of (roL L_of) w) (hx : cv E slX = some (.slice xa 2 xc)) (hc : cv E slC = some (.slice ca 1 cc)) :
    Calls Tryz.prog 10 #[.string srcB, .agg #[.int .i64 86, .string ⟨#[]⟩, .slice xa 2 xc, .int .i64 0, .int .i64 31], .slice ca 1 cc, .agg #[.int .i64 80, .int .i64 2, .bool false, .bool true, .bool false, .bool false, .bool true, .bool false, .bool false]] w fun e w' => e = .returned (.tuple #[.string finB, .bool true]) ∧ Keeps w w' := by
  have hLow : ∀ w', Keeps w w' → Calls Tryz.prog 6 #[.string srcB, .agg #[.int .i64 86, .string ⟨#[]⟩, .slice xa 2 xc, .int .i64 0, .int .i64 31], .slice ca 1 cc, .agg #[.int .i64 80, .int .i64 2, .bool false, .bool true, .bool false, .bool false, .bool true, .bool false, .bool false]] w' fun e w'' => Keeps w' w'' ∧ ∃ E' a k,
      e = .returned (.tuple #[.agg #[.int .i64 2, .string ⟨#[]⟩, .slice a 2 k, .bool false, .int .i64 0, .int .i64 0], .int .i64 0]) ∧ At Tryz.prog E' N_lower (roL L_lower) w'' ∧ cv E' slD = some (.slice a 2 k) := fun w' hk =>
    (lower_calls w' (ht.keeps hk) (at_on hA hk) hx hc).mono fun e w'' ⟨h1, E', a, k, h2, h3, h4⟩ => ⟨h1, E', a, k, h2, h3.lock, h4⟩
  have hF : ∀ w', Keeps ((w.alloc (.cells #[.int .i64 86, .string ⟨#[]⟩, .slice xa 2 xc, .int .i64 0, .int .i64 31] 24)).alloc (.cells #[.int .i64 80, .int .i64 2, .bool false, .bool true, .bool false, .bool false, .bool true, .bool false, .bool false] 26)) w' → w'.cell? ⟨w.heap.size + 1, 0, none⟩ = some (.int .i64 80) ∧ w'.cell? ⟨w.heap.size + 1, 1, none⟩ = some (.int .i64 2) ∧ w'.cell? ⟨w.heap.size + 1, 2, none⟩ = some (.bool false) ∧ w'.cell? ⟨w.heap.size + 1, 3, none⟩ = some (.bool true) ∧ w'.cell? ⟨w.heap.size + 1, 4, none⟩ = some (.bool false) ∧ w'.cell? ⟨w.heap.size + 1, 5, none⟩ = some (.bool false) ∧ w'.cell? ⟨w.heap.size + 1, 6, none⟩ = some (.bool true) ∧ w'.cell? ⟨w.heap.size + 1, 7, none⟩ = some (.bool false) ∧ w'.cell? ⟨w.heap.size + 1, 8, none⟩ = some (.bool false) ∧ w.heap.size + 1 < w'.heap.size := by
    intro w' hk
    have hs : ((w.alloc (.cells #[.int .i64 86, .string ⟨#[]⟩, .slice xa 2 xc, .int .i64 0, .int .i64 31] 24)).alloc (.cells #[.int .i64 80, .int .i64 2, .bool false, .bool true, .bool false, .bool false, .bool true, .bool false, .bool false] 26)).heap.size = w.heap.size + 1 + 1 := by simp
    have hc : ∀ o, w'.cell? ⟨w.heap.size + 1, o, none⟩ = ((w.alloc (.cells #[.int .i64 86, .string ⟨#[]⟩, .slice xa 2 xc, .int .i64 0, .int .i64 31] 24)).alloc (.cells #[.int .i64 80, .int .i64 2, .bool false, .bool true, .bool false, .bool false, .bool true, .bool false, .bool false] 26)).cell? ⟨w.heap.size + 1, o, none⟩ := fun o => Keeps.cell' hk (p := ⟨w.heap.size + 1, o, none⟩) (by rw [hs]; exact Nat.lt_succ_self _)
    have h1 := hk.size
    refine ⟨(hc _).trans (by simp), (hc _).trans (by simp), (hc _).trans (by simp), (hc _).trans (by simp), (hc _).trans (by simp), (hc _).trans (by simp), (hc _).trans (by simp), (hc _).trans (by simp), (hc _).trans (by simp), by omega⟩
  go_enter Tryz.func10, Tryz.ntmps10
  go_wp2_with (first
    | (go_at_call 6; refine (hLow _ ((Keeps.alloc _ _).trans (Keeps.alloc _ _))).mono ?_; rintro e w1 ⟨k1, E1, a1, c1, rfl, hA1, hv1⟩; obtain ⟨f0, f1, f2, f3, f4, f5, f6, f7, f8, hs1⟩ := hF w1 k1)
    | (go_at_call 7; refine (num_any _ _).mono ?_; rintro e w2 ⟨rfl, rfl⟩))
  have kW1 : Keeps w w1 := ((Keeps.alloc _ _).trans (Keeps.alloc _ _)).trans k1
  have hSp : ∀ w', Keeps w1 w' → _ := fun w' hk => spread_calls w' ((ht.keeps kW1).keeps hk) (at_on hA1 hk) hv1
  have hLay : ∀ (E3 : Env) (b3 : Option Addr) (c3 : Nat) (w3 : World), Keeps w w3 → At Tryz.prog E3 N_spread L_spread w3 → cv E3 slE = some (.slice b3 2 c3) → ∀ w', Keeps w3 w' → _ := fun E3 b3 c3 w3 h1 h2 h3 w' hk => layout_calls w' ((ht.keeps h1).keeps hk) (h2.keeps hk) h3
  go_region_with (first
    | (go_at_call 21; refine (hSp _ ?_).mono ?_; exact (Keeps.alloc _ _).trans (keeps_drew _); rintro e w3 ⟨k3, E3, b3, c3, rfl, hA3, hv3⟩; obtain ⟨g0, g1, g2, g3, g4, g5, g6, g7, g8, hs3⟩ := hF w3 (k1.trans (((Keeps.alloc _ _).trans (keeps_drew _)).trans k3)); have kW3 : Keeps w w3 := kW1.trans (((Keeps.alloc _ _).trans (keeps_drew _)).trans k3))
    | (go_at_call 20; refine (hLay _ _ _ _ kW3 hA3 hv3 _ ?_).mono ?_; exact Keeps.refl _; rintro e w4 ⟨k4, rfl⟩))
  all_goals (go_wp2_with (go_at_call 7; refine (num_any _ _).mono ?_; rintro e w5 ⟨rfl, rfl⟩))
  all_goals go_ret2
  all_goals exact ⟨rfl, kW3.trans k4⟩
set_option maxHeartbeats 4000000 in
set_option maxRecDepth 1000000 in
theorem awake_calls (w : World) (ht : TabsOk w tabs) : Calls Tryz.prog 4 #[] w fun e w' => e = .returned (.bool true) ∧ Keeps w w' := by
  have hF : ∀ (w1 : World) (xa : Option Addr) (xc : Nat) w', Keeps (w1.alloc (.cells #[.int .i64 86, .string ⟨#[]⟩, .slice xa 2 xc, .int .i64 0, .int .i64 31] 24)) w' → w'.cell? ⟨w1.heap.size, 0, none⟩ = some (.int .i64 86) ∧ w'.cell? ⟨w1.heap.size, 1, none⟩ = some (.string ⟨#[]⟩) ∧ w'.cell? ⟨w1.heap.size, 2, none⟩ = some (.slice xa 2 xc) ∧ w'.cell? ⟨w1.heap.size, 3, none⟩ = some (.int .i64 0) ∧ w'.cell? ⟨w1.heap.size, 4, none⟩ = some (.int .i64 31) ∧ w1.heap.size < w'.heap.size := by
    intro w1 xa xc w' hk
    have hs : (w1.alloc (.cells #[.int .i64 86, .string ⟨#[]⟩, .slice xa 2 xc, .int .i64 0, .int .i64 31] 24)).heap.size = w1.heap.size + 1 := by simp
    have hc : ∀ o, w'.cell? ⟨w1.heap.size, o, none⟩ = (w1.alloc (.cells #[.int .i64 86, .string ⟨#[]⟩, .slice xa 2 xc, .int .i64 0, .int .i64 31] 24)).cell? ⟨w1.heap.size, o, none⟩ := fun o => Keeps.cell' hk (p := ⟨w1.heap.size, o, none⟩) (by rw [hs]; exact Nat.lt_succ_self _)
    have h1 := hk.size
    refine ⟨(hc _).trans (by simp), (hc _).trans (by simp), (hc _).trans (by simp), (hc _).trans (by simp), (hc _).trans (by simp), by omega⟩
  have hOf := of_calls w ht
  unfold srcB at hOf
  go_enter Tryz.func4, Tryz.ntmps4
  go_wp2_with (first
    | (go_at_call 9; refine hOf.mono ?_; rintro e w1 ⟨k1, E1, xa, xc, ca, cc, rfl, hA1, hx1, hc1⟩))
  have hLd : ∀ w', Keeps w1 w' → _ := fun w' hk => laid_calls w' ((ht.keeps k1).keeps hk) (hA1.keeps hk) hx1 hc1
  have hBd : ∀ w', Keeps w1 w' → _ := fun w' hk => bad_calls w' ((ht.keeps k1).keeps hk) (hA1.keeps hk) hx1 hc1
  unfold srcB finB at hLd
  unfold srcB opt0V at hBd
  have hF1 := hF w1 xa xc
  clear hF hOf
  go_wp2_with (first
    | (go_at_call 10; refine (hLd _ (Keeps.alloc _ _)).mono ?_; rintro e w2 ⟨rfl, k2⟩; obtain ⟨f0, f1, f2, f3, f4, hs2⟩ := hF1 w2 k2)
    | (go_at_call 6; refine (hBd _ ((Keeps.alloc _ _).trans k2)).mono ?_; rintro e w3 ⟨k3, rfl⟩)
    | (go_at_call 7; refine (num_any _ _).mono ?_; rintro e w4 ⟨rfl, rfl⟩))
  all_goals go_ret
  all_goals exact ⟨rfl, (k1.trans (((Keeps.alloc _ _).trans k2).trans k3)).trans (Keeps.alloc _ _)⟩
end
end Go.Proofs.YtbflihggpacblaaGreatDoor
