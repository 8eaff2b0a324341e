/- The law EarlyMembers returns true, whatever the picks are. No condition beyond the listed variables. -/
import Derived.Test.YtmlhldohlfghaaaGreatDoorJustM
import Derived.Test.YtmlhldohlfghaaaGreatDoorLawM
import Derived.Test.YtmlhldohlfghaaaGreatDoorAw
import Derived.Test.YtmlhldohlfghaaaGreatDoorRunA
import Derived.Test.YtmlhldohlfghaaaGreatDoorRunB
import Derived.Test.YtmlhldohlfghaaaGreatDoorRunC
import Derived.Test.YtmlhldohlfghaaaGreatDoorRunT9
import Derived.Test.YtmlhldohlfghaaaGreatDoorRunF9
import Derived.Test.YtmlhldohlfghaaaGreatDoorRunT10
import Derived.Test.YtmlhldohlfghaaaGreatDoorRunF10
import Derived.Test.YtmlhldohlfghaaaGreatDoorRunT11
import Derived.Test.YtmlhldohlfghaaaGreatDoorRunF11
import Derived.Test.YtmlhldohlfghaaaGreatDoorRunT12
import Derived.Test.YtmlhldohlfghaaaGreatDoorRunF12
import Derived.Test.YtmlhldohlfghaaaGreatDoorRunE
import Derived.Test.YtmlhldohlfghaaaGreatDoorRunF
import Derived.Test.YtmlhldohlfghaaaGreatDoorRunG
namespace Go.Proofs.YtmlhldohlfghaaaGreatDoor
open Go Go.Ev
theorem tab_okEarlyMembers {W : World} [Sig] (h : laidMetH Tryz.prog Rows.earlyMembersRow.laid W) : TabsOk W tabs := by
  have h' : laidMet Tryz.prog [("unicode/utf8.first", Rows.laid_unicode_utf8_first), ("unicode/utf8.acceptRanges", Rows.laid_unicode_utf8_acceptRanges), ("strings.asciiSpace", Rows.laid_strings_asciiSpace), ("unicode.White_Space", Rows.laid_unicode_White_Space)] W ∧ handlesMet Tryz.prog [("errors.errorType", Rows.laid_errors_errorType)] W := h
  obtain ⟨⟨ps, ⟨_, _, _, _, _, _, _, _, _, _, ⟨_, _, _, _, _, _, _, _, _, _, ⟨g, t, cs, f, p, q, hg, ht, hv, hd, _, _⟩, _⟩, _⟩, _, _⟩, hh⟩ := h'
  obtain rfl := Option.some.inj ((show Tryz.prog.globalNamed "strings.asciiSpace" = some 3 by kernel_rfl).symm.trans hg)
  obtain rfl := Option.some.inj ((show (Tryz.prog.globals[3]?).map (·.type) = some 245 by kernel_rfl).symm.trans ht)
  rw [ks_eq] at hd
  have h1 : TabOk W tab := tab_of_var (by kernel_rfl) hg (by decide) hv Tryz.underlying245 Tryz.underlying5 (by kernel_rfl) hd
  intro x hx
  obtain rfl := List.mem_singleton.1 hx
  exact h1
theorem runsT : ∀ (m : Nat), m ≤ 12 → runJ true m = true
  | 0, _ => runT0
  | 1, _ => runT1
  | 2, _ => runT2
  | 3, _ => runT3
  | 4, _ => runT4
  | 5, _ => runT5
  | 6, _ => runT6
  | 7, _ => runT7
  | 8, _ => runT8
  | 9, _ => runT9
  | 10, _ => runT10
  | 11, _ => runT11
  | 12, _ => runT12
  | m + 13, h => by omega
theorem runsF : ∀ (m : Nat), m ≤ 12 → m ≠ 0 → runJ false m = true
  | 0, _, h => absurd rfl h
  | 1, _, _ => runF1
  | 2, _, _ => runF2
  | 3, _, _ => runF3
  | 4, _, _ => runF4
  | 5, _, _ => runF5
  | 6, _, _ => runF6
  | 7, _, _ => runF7
  | 8, _, _ => runF8
  | 9, _, _ => runF9
  | 10, _, _ => runF10
  | 11, _, _ => runF11
  | 12, _, _ => runF12
  | m + 13, h, _ => by omega
theorem bad_dec {k : Nat} (h : k < 12) : badM k = (decide (k = 2) || decide (k = 3) || decide (k = 4) || decide (k = 6) || decide (k = 7)) := by
  rcases kinds12 h with rfl | rfl | rfl | rfl | rfl | rfl | rfl | rfl | rfl | rfl | rfl | rfl <;> rfl
theorem low_good {k : Nat} (h : k < 2) : badM k = false := by
  rcases (show k = 0 ∨ k = 1 by omega) with rfl | rfl <;> rfl
theorem ok_is : ∀ (ks : List Nat), (∀ k ∈ ks, k < 12) → okM true ks = (goodM ks && decide (manyM ks < 1)) ∧ okM false ks = (goodM ks && decide (manyM ks < 2))
  | [], _ => ⟨rfl, rfl⟩
  | k :: ks, ha => by
    obtain ⟨h1, h2⟩ := ok_is ks fun x hx => ha x (List.mem_cons_of_mem _ hx)
    have hk := ha k (List.mem_cons_self ..)
    by_cases h : k < 2
    · simp only [okM, goodM, manyM, if_pos h, h1, low_good h, Bool.not_true, Bool.not_false, Bool.false_and, Bool.true_and]
      refine ⟨?_, ?_⟩
      · rw [decide_eq_false (show ¬ (1 + manyM ks < 1) by omega), Bool.and_false]
      · exact congrArg (goodM ks && ·) (decide_eq_decide.2 (by omega))
    · simp only [okM, goodM, manyM, if_neg h, h1, h2, bad_dec hk, Nat.zero_add, Bool.and_assoc, and_self]
theorem its_len (k : List (Nat × Nat)) : ∀ l : List (List Nat), (itsOf k l).length = l.length
  | [] => rfl
  | _ :: l => by rw [itsOf, List.length_cons, List.length_cons, its_len k l]
theorem its_at (k : List (Nat × Nat)) : ∀ (l : List (List Nat)) (i : Nat), i < l.length → (itsOf k l)[i]? = some k
  | [], i, h => by cases h
  | _ :: l, 0, _ => rfl
  | _ :: l, i + 1, h => by rw [itsOf, List.getElem?_cons_succ]; exact its_at k l i (Nat.lt_of_succ_lt_succ h)
theorem rep_len (s : List Nat) : ∀ m : Nat, (repP s m).length = m
  | 0 => rfl
  | m + 1 => by rw [repP, List.length_cons, rep_len s m]
theorem alt_all : ∀ k : Nat, k < 12 → ∃ p, kindsM[k]? = some p ∧ bytesOf p.1 p.2 = altM k
  | 0, _ => ⟨_, rfl, by decide +kernel⟩
  | 1, _ => ⟨_, rfl, by decide +kernel⟩
  | 2, _ => ⟨_, rfl, by decide +kernel⟩
  | 3, _ => ⟨_, rfl, by decide +kernel⟩
  | 4, _ => ⟨_, rfl, by decide +kernel⟩
  | 5, _ => ⟨_, rfl, by decide +kernel⟩
  | 6, _ => ⟨_, rfl, by decide +kernel⟩
  | 7, _ => ⟨_, rfl, by decide +kernel⟩
  | 8, _ => ⟨_, rfl, by decide +kernel⟩
  | 9, _ => ⟨_, rfl, by decide +kernel⟩
  | 10, _ => ⟨_, rfl, by decide +kernel⟩
  | 11, _ => ⟨_, rfl, by decide +kernel⟩
  | k + 12, h => by omega
theorem alt_at {ks : List Nat} {i k : Nat} (hk : ks[i]? = some k) (h7 : k < 12) : (txM (repP mC ks.length)).alt (fun i => ks.getD i 0) i = altM k := by
  have hi : i < ks.length := (List.getElem?_eq_some_iff.1 hk).1
  obtain ⟨p, h1, h2⟩ := alt_all k h7
  have e : (txM (repP mC ks.length)).its[i]? = some kindsM := its_at _ _ _ (by rw [rep_len]; exact hi)
  have hg : ks.getD i 0 = k := by rw [List.getD, hk]; rfl
  unfold Tx.alt
  rw [e]
  show (match kindsM[ks.getD i 0]? with | some p => bytesOf p.1 p.2 | none => []) = _
  rw [hg, h1]
  exact h2
theorem from_at {ks : List Nat} (h7 : ∀ k ∈ ks, k < 12) : ∀ (n j : Nat), j + n = ks.length → (txM (repP mC ks.length)).fromB (fun i => ks.getD i 0) j n = bodyM (ks.drop j) ++ [125]
  | 0, j, h => by
    rw [List.drop_of_length_le (by omega)]
    show bytesOf 1 125 = [125]
    decide +kernel
  | n + 1, j, h => by
    have hj : j < ks.length := by omega
    have hk : ks[j]? = some ks[j] := List.getElem?_eq_getElem hj
    rw [Tx.fromB, from_at h7 n (j + 1) (by omega), alt_at hk (h7 _ (List.getElem_mem hj)), List.drop_eq_getElem_cons hj, bodyM]
    have e : bytesOf (txM (repP mC ks.length)).sep.1 (txM (repP mC ks.length)).sep.2 = [] := by
      show bytesOf 0 0 = []
      decide +kernel
    rw [e, List.append_assoc, List.nil_append]
theorem txt_is {ks : List Nat} (h7 : ∀ k ∈ ks, k < 12) : txtOf (txM (repP mC ks.length)) (fun i => ks.getD i 0) = 99 :: 108 :: 97 :: 115 :: 115 :: 32 :: 65 :: 32 :: 123 :: bodyM ks ++ [125] := by
  unfold txtOf
  have e1 : (txM (repP mC ks.length)).its.length = ks.length := (its_len _ _).trans (rep_len _ _)
  have e2 : bytesOf (txM (repP mC ks.length)).head.1 (txM (repP mC ks.length)).head.2 = [99, 108, 97, 115, 115, 32, 65, 32, 123] := by
    show bytesOf 9 2271273695629203827811 = [99, 108, 97, 115, 115, 32, 65, 32, 123]
    decide +kernel
  rw [e1, e2, from_at h7 ks.length 0 (by omega)]
  rfl
theorem just_all {ks : List Nat} (h7 : ∀ k ∈ ks, k < 12) (hm : ks.length ≤ 12) (hlen : (bodyM ks).length ≤ 1000) {w : World} (htS : ∀ S : Sig, @TabsOk S w tabs) :
    Calls Tryz.prog 6 #[.string ⟨(99 :: 108 :: 97 :: 115 :: 115 :: 32 :: 65 :: 32 :: 123 :: bodyM ks ++ [125]).toArray⟩, .bool false, .bool (goodM ks && decide (manyM ks < 2)), .int .i64 1211] w fun e w' => e = .returned (.bool true) ∧ Keeps w w' := by
  have hal : ∀ k ∈ ks, k ∈ mC := fun k hk => by
    rcases kinds12 (h7 k hk) with rfl | rfl | rfl | rfl | rfl | rfl | rfl | rfl | rfl | rfl | rfl | rfl <;> decide
  have key : ∀ (fine : Bool), okM false ks = fine → runJ fine ks.length = true →
      Calls Tryz.prog 6 #[.string ⟨(99 :: 108 :: 97 :: 115 :: 115 :: 32 :: 65 :: 32 :: 123 :: bodyM ks ++ [125]).toArray⟩, .bool false, .bool fine, .int .i64 1211] w fun e w' => e = .returned (.bool true) ∧ Keeps w w' := by
    intro fine hf hr
    have h := just_txt hr (by omega) h7 hf ?_ ?_ ?_ htS
    · rw [txt_is h7] at h
      exact h
    · show (itsOf _ _).length < 65536
      rw [its_len, rep_len]; omega
    · exact fits_get (fits_rep hal)
    · rw [txt_is h7]
      simp only [List.length_cons, List.length_append, List.length_nil]
      omega
  rw [← (ok_is ks h7).2]
  rcases (show okM false ks = true ∨ okM false ks = false by cases okM false ks <;> simp) with h | h
  · rw [h]
    exact key true h (runsT _ hm)
  · rw [h]
    exact key false h (runsF _ hm (fun h0 => by rw [List.length_eq_zero_iff.1 h0] at h; cases h))
theorem picks_mem (z : Nat → Int) : ∀ (n : Nat), ∀ k ∈ picksM z n, k < 12
  | 0, k, h => by cases h
  | n + 1, k, h => by
    rw [picksM] at h
    rcases List.mem_append.1 h with h | h
    · exact picks_mem z n k h
    · rw [List.mem_singleton.1 h]; exact kindM_lt _
theorem walkEarlyMembers (a : Option Addr) (len cap : Nat) (z : Nat → Int) (W : World) (hlen : len ≤ maxLen) (hz : ∀ i, i < len → ∃ b off, a = some ⟨b, off, none⟩ ∧ W.cell? ⟨b, off + i, none⟩ = some (.int .i64 (z i)))
    (hL : laidMetH Tryz.prog Rows.earlyMembersRow.laid W) : Calls Tryz.prog 4 #[.slice a len cap] W fun e w' => e = .returned (.bool true) ∧ Keeps W w' := by
  have ht : ∀ S : Sig, @TabsOk S W tabs := fun S => tab_okEarlyMembers hL
  refine members_walk a len cap z W hlen hz (fun w hk => ?_) (fun w hk => ?_)
  · letI : Sig := sigOf (symVal []) (symVal_ok (fun s hs => by cases hs))
    have htw := (ht _).keeps hk
    exact run_trueF progOk (orc_ok _ htw.b) htw (us := []) (args := []) (n := 3000) (by simp only [cvL]) aw0
  · refine just_all (picks_mem z _) ?_ ?_ (fun S => (ht S).keeps hk)
    · rw [picksM_len]; omega
    · have := bodyM_le z (min len 12); omega
end Go.Proofs.YtmlhldohlfghaaaGreatDoor
