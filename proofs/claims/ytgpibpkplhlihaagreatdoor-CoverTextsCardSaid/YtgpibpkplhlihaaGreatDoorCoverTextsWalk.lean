/- The law CoverTexts returns true, whatever the picks are. No condition beyond the listed variables. -/
import Derived.Test.YtgpibpkplhlihaaGreatDoorJustC
import Derived.Test.YtgpibpkplhlihaaGreatDoorAw
import Derived.Test.YtgpibpkplhlihaaGreatDoorRunC0
import Derived.Test.YtgpibpkplhlihaaGreatDoorRunC4
import Derived.Test.YtgpibpkplhlihaaGreatDoorRunC6
import Derived.Test.YtgpibpkplhlihaaGreatDoorRunC7
import Derived.Test.YtgpibpkplhlihaaGreatDoorRunC8
import Derived.Test.YtgpibpkplhlihaaGreatDoorRunC9
import Derived.Test.YtgpibpkplhlihaaGreatDoorRunC10
import Derived.Test.YtgpibpkplhlihaaGreatDoorRunC11
import Derived.Test.YtgpibpkplhlihaaGreatDoorRunC12
import Derived.Test.YtgpibpkplhlihaaGreatDoorRunD0
import Derived.Test.YtgpibpkplhlihaaGreatDoorRunD4
import Derived.Test.YtgpibpkplhlihaaGreatDoorRunD6
import Derived.Test.YtgpibpkplhlihaaGreatDoorRunD7
import Derived.Test.YtgpibpkplhlihaaGreatDoorRunD8
import Derived.Test.YtgpibpkplhlihaaGreatDoorRunD9
import Derived.Test.YtgpibpkplhlihaaGreatDoorRunD10
import Derived.Test.YtgpibpkplhlihaaGreatDoorRunD11
import Derived.Test.YtgpibpkplhlihaaGreatDoorRunD12
import Derived.Test.YtgpibpkplhlihaaGreatDoorRunE1
import Derived.Test.YtgpibpkplhlihaaGreatDoorRunE4
import Derived.Test.YtgpibpkplhlihaaGreatDoorRunE6
import Derived.Test.YtgpibpkplhlihaaGreatDoorRunE7
import Derived.Test.YtgpibpkplhlihaaGreatDoorRunE8
import Derived.Test.YtgpibpkplhlihaaGreatDoorRunE9
import Derived.Test.YtgpibpkplhlihaaGreatDoorRunE10
import Derived.Test.YtgpibpkplhlihaaGreatDoorRunE11
import Derived.Test.YtgpibpkplhlihaaGreatDoorRunE12
namespace Go.Proofs.YtgpibpkplhlihaaGreatDoor
open Go Go.Ev
theorem tab_okCoverTexts {W : World} [Sig] (h : laidMetH Tryz.prog Rows.coverTextsRow.laid W) : TabsOk W tabs := by
 have h' : laidMet Tryz.prog [("unicode/utf8.acceptRanges", Rows.laid_unicode_utf8_acceptRanges), ("unicode.White_Space", Rows.laid_unicode_White_Space), ("strings.asciiSpace", Rows.laid_strings_asciiSpace), ("unicode/utf8.first", Rows.laid_unicode_utf8_first)] W ∧ handlesMet Tryz.prog [("errors.errorType", Rows.laid_errors_errorType)] W := h
 obtain ⟨⟨ps, ⟨_, _, _, _, _, _, _, _, _, _, ⟨_, _, _, _, _, _, _, _, _, _, ⟨g, t, cs, f, p, q, hg, ht, hv, hd, _, _⟩, _⟩, _⟩, _, _⟩, hh⟩ := h'
 obtain rfl := Option.some.inj ((show Tryz.prog.globalNamed "strings.asciiSpace" = some 1 by kernel_rfl).symm.trans hg)
 obtain rfl := Option.some.inj ((show (Tryz.prog.globals[1]?).map (·.type) = some 171 by kernel_rfl).symm.trans ht)
 rw [ks_eq] at hd
 have h1 : TabOk W tab := tab_of_var (by kernel_rfl) hg (by decide) hv Tryz.underlying171 Tryz.underlying5 (by kernel_rfl) hd
 intro x hx
 rcases List.mem_cons.1 hx with rfl | hx
 ·exact h1
 ·obtain rfl := List.mem_singleton.1 hx
  exact htab_ok hh
theorem runsC : ∀ (m : Nat), m ≤ 12 → runC m = true
 | 0, _ => runC0
 | 1, _ => runC1
 | 2, _ => runC2
 | 3, _ => runC3
 | 4, _ => runC4
 | 5, _ => runC5
 | 6, _ => runC6
 | 7, _ => runC7
 | 8, _ => runC8
 | 9, _ => runC9
 | 10, _ => runC10
 | 11, _ => runC11
 | 12, _ => runC12
 | m + 13, h => by omega
theorem runsD : ∀ (m : Nat), m ≤ 12 → runD m = true
 | 0, _ => runD0
 | 1, _ => runD1
 | 2, _ => runD2
 | 3, _ => runD3
 | 4, _ => runD4
 | 5, _ => runD5
 | 6, _ => runD6
 | 7, _ => runD7
 | 8, _ => runD8
 | 9, _ => runD9
 | 10, _ => runD10
 | 11, _ => runD11
 | 12, _ => runD12
 | m + 13, h => by omega
theorem runsE : ∀ (m : Nat), m ≤ 12 → m ≠ 0 → runE m = true
 | 0, _, h => absurd rfl h
 | 1, _, _ => runE1
 | 2, _, _ => runE2
 | 3, _, _ => runE3
 | 4, _, _ => runE4
 | 5, _, _ => runE5
 | 6, _, _ => runE6
 | 7, _, _ => runE7
 | 8, _, _ => runE8
 | 9, _, _ => runE9
 | 10, _, _ => runE10
 | 11, _, _ => runE11
 | 12, _, _ => runE12
 | m + 13, h, _ => by omega
theorem its_len (k : List (Nat × Nat)) : ∀ l : List (List Nat), (itsOf k l).length = l.length
 | [] => rfl
 | _ :: l => by rw [itsOf, List.length_cons, List.length_cons, its_len k l]
theorem its_at (k : List (Nat × Nat)) : ∀ (l : List (List Nat)) (i : Nat), i < l.length → (itsOf k l)[i]? = some k
 | [], i, h => by cases h
 | _ :: l, 0, _ => rfl
 | _ :: l, i + 1, h => by rw [itsOf, List.getElem?_cons_succ]; exact its_at k l i (Nat.lt_of_succ_lt_succ h)
theorem rep_len (s : List Nat) : ∀ m : Nat, (repP s m).length = m
 | 0 => rfl
 | m + 1 => by rw [repP, List.length_cons, rep_len s m]
theorem alt_all : ∀ k : Nat, k < 12 → ∃ p, kindsC[k]? = some p ∧ bytesOf p.1 p.2 ++ [44] = altM k
 | 0, _ => ⟨_, rfl, by decide +kernel⟩
 | 1, _ => ⟨_, rfl, by decide +kernel⟩
 | 2, _ => ⟨_, rfl, by decide +kernel⟩
 | 3, _ => ⟨_, rfl, by decide +kernel⟩
 | 4, _ => ⟨_, rfl, by decide +kernel⟩
 | 5, _ => ⟨_, rfl, by decide +kernel⟩
 | 6, _ => ⟨_, rfl, by decide +kernel⟩
 | 7, _ => ⟨_, rfl, by decide +kernel⟩
 | 8, _ => ⟨_, rfl, by decide +kernel⟩
 | 9, _ => ⟨_, rfl, by decide +kernel⟩
 | 10, _ => ⟨_, rfl, by decide +kernel⟩
 | 11, _ => ⟨_, rfl, by decide +kernel⟩
 | k + 12, h => by omega
section
variable {ks : List Nat} {tx : Tx} {tl : List UInt8} (hi : tx.its = itsOf kindsC (repP cA ks.length)) (hs : bytesOf tx.sep.1 tx.sep.2 = [44]) (ht : bytesOf tx.tail.1 tx.tail.2 = tl)
include hi in
theorem alt_at {i k : Nat} (hk : ks[i]? = some k) (h7 : k < 12) : tx.alt (fun i => ks.getD i 0) i ++ [44] = altM k := by
 have hlt : i < ks.length := (List.getElem?_eq_some_iff.1 hk).1
 obtain ⟨p, h1, h2⟩ := alt_all k h7
 have e : tx.its[i]? = some kindsC := by rw [hi]; exact its_at _ _ _ (by rw [rep_len]; exact hlt)
 have hg : ks.getD i 0 = k := by rw [List.getD, hk]; rfl
 unfold Tx.alt
 rw [e]
 show (match kindsC[ks.getD i 0]? with | some p => bytesOf p.1 p.2 | none => []) ++ [44] = _
 rw [hg, h1]
 exact h2
include hi hs ht in
theorem from_at (h7 : ∀ k ∈ ks, k < 12) : ∀ (n j : Nat), j + n = ks.length → tx.fromB (fun i => ks.getD i 0) j n = bodyM (ks.drop j) ++ tl
 | 0, j, h => by
  rw [List.drop_of_length_le (by omega)]
  show bytesOf tx.tail.1 tx.tail.2 = tl
  exact ht
 | n + 1, j, h => by
  have hj : j < ks.length := by omega
  have hk : ks[j]? = some ks[j] := List.getElem?_eq_getElem hj
  rw [Tx.fromB, from_at h7 n (j + 1) (by omega), hs, List.drop_eq_getElem_cons hj, bodyM, ← alt_at hi hk (h7 _ (List.getElem_mem hj))]
  simp only [List.append_assoc]
include hi hs ht in
theorem txt_is (hh : bytesOf tx.head.1 tx.head.2 = [91]) (h7 : ∀ k ∈ ks, k < 12) : txtOf tx (fun i => ks.getD i 0) = 91 :: bodyM ks ++ tl := by
 unfold txtOf
 have e1 : tx.its.length = ks.length := by rw [hi, its_len, rep_len]
 rw [e1, hh, from_at hi hs ht h7 ks.length 0 (by omega)]
 rfl
end
theorem its_rep (s t : List Nat) : ∀ m : Nat, itsOf kindsC (repP s m) = itsOf kindsC (repP t m)
 | 0 => rfl
 | m + 1 => by rw [repP, repP, itsOf, itsOf, its_rep s t m]
theorem txtC {ks : List Nat} (h7 : ∀ k ∈ ks, k < 12) : txtOf (txC (repP cA ks.length)) (fun i => ks.getD i 0) = 91 :: bodyM ks ++ [93] :=
 txt_is rfl (by show bytesOf 1 44 = [44]; decide +kernel) (by show bytesOf 1 93 = [93]; decide +kernel) (by show bytesOf 1 91 = [91]; decide +kernel) h7
theorem txtD {ks : List Nat} (h7 : ∀ k ∈ ks, k < 12) (s : List Nat) (ps : List (List (List Nat))) : txtOf (txD (repP s ks.length) ps) (fun i => ks.getD i 0) = 91 :: bodyM ks ++ [93, 32, 61, 32, 122] :=
 txt_is (by show itsOf kindsC (repP s ks.length) = _; exact its_rep s cA _) (by show bytesOf 1 44 = [44]; decide +kernel) (by show bytesOf 5 524526887005 = [93, 32, 61, 32, 122]; decide +kernel) (by show bytesOf 1 91 = [91]; decide +kernel) h7
theorem picks_mem (z : Nat → Int) : ∀ (n : Nat), ∀ k ∈ picksM z n, k < 12
 | 0, k, h => by cases h
 | n + 1, k, h => by
  rw [picksM] at h
  rcases List.mem_append.1 h with h | h
  ·exact picks_mem z n k h
  ·rw [List.mem_singleton.1 h]; exact kindM_lt _
theorem walkCoverTexts (a : Option Addr) (len cap : Nat) (z : Nat → Int) (W : World) (hlen : len ≤ maxLen) (hz : ∀ i, i < len → ∃ b off, a = some ⟨b, off, none⟩ ∧ W.cell? ⟨b, off + i, none⟩ = some (.int .i64 (z i)))
  (hL : laidMetH Tryz.prog Rows.coverTextsRow.laid W) : Calls Tryz.prog 3 #[.slice a len cap] W fun e w' => e = .returned (.bool true) ∧ Keeps W w' := by
 have ht : ∀ S : Sig, @TabsOk S W tabs := fun S => tab_okCoverTexts hL
 have h7 := picks_mem z (min len 12)
 have hm : (picksM z (min len 12)).length ≤ 12 := by rw [picksM_len]; omega
 have hb : (bodyM (picksM z (min len 12))).length ≤ 1000 := by have := bodyM_le z (min len 12); omega
 refine cover_walk a len cap z W hlen hz (fun w hk => ?_) (fun w hk => ?_) (fun w hk => ?_)
 ·letI : Sig := sigOf (symVal []) (symVal_ok (fun s hs => by cases hs))
  have htw := (ht _).keeps hk
  exact run_trueF progOk (orc_ok _ htw.b) htw (us := []) (args := []) (n := 3000) (by simp only [cvL]) aw0
 ·have h := exprC_ok h7 (show 1 < 32768 by omega) (runsC _ hm) (by show (itsOf _ _).length < 65536; rw [its_len, rep_len]; omega) (by rw [txtC h7]; simp only [List.length_cons, List.length_append, List.length_nil]; omega) hk ht
  rw [txtC h7] at h
  exact h
 ·have h := exprG_ok h7 (runsD _ hm) (runsE _ hm) ⟨by rw [its_len, rep_len]; omega, by rw [its_len, rep_len]; omega⟩ (by rw [txtD h7, txtD h7]) (by rw [txtD h7]; simp only [List.length_cons, List.length_append, List.length_nil]; omega) hk ht
  rw [txtD h7] at h
  exact h
end Go.Proofs.YtgpibpkplhlihaaGreatDoor
