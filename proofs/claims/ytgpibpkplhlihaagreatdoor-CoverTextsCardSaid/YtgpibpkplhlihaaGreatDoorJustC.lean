/- All answers of the law CoverTexts are sound. No condition. · What the closed runs over the texts say of the program itself. -/
import Derived.Test.YtgpibpkplhlihaaGreatDoorRpC
import Derived.Test.YtgpibpkplhlihaaGreatDoorTqCLex
import Derived.Test.YtgpibpkplhlihaaGreatDoorTqCRest
import Derived.Test.YtgpibpkplhlihaaGreatDoorTqDLex
import Derived.Test.YtgpibpkplhlihaaGreatDoorTqDRest
import Derived.Test.YtgpibpkplhlihaaGreatDoorLeft
import Derived.Test.YtgpibpkplhlihaaGreatDoorDepthD
import Derived.Test.YtgpibpkplhlihaaGreatDoorLawC
namespace Go.Proofs.YtgpibpkplhlihaaGreatDoor
open Go Go.Ev
set_option linter.unusedSectionVars false
theorem orcBC_ok (S : Sig) (W : Wb) : @TabsB S W tabs → @OrcOk S Tryz.prog W orcBC := by
 refine @orcOf3_ok S Tryz.prog tabs anssI [(43, hpT)] [(44, tmG jPlace lexTqC)] anssI_ok ?_ ?_ W
 ·intro p hp
  rw [List.mem_singleton] at hp
  subst hp
  exact hp_ok
 ·intro p hp
  rw [List.mem_singleton] at hp
  subst hp
  exact tmG_ok progOk tabs_closed orcA_ok (by kernel_rfl) lexCAll
theorem orcBD_ok (S : Sig) (W : Wb) : @TabsB S W tabs → @OrcOk S Tryz.prog W orcBD := by
 refine @orcOf3_ok S Tryz.prog tabs anssI [(43, hpT)] [(44, tmG jPlace lexTqD)] anssI_ok ?_ ?_ W
 ·intro p hp
  rw [List.mem_singleton] at hp
  subst hp
  exact hp_ok
 ·intro p hp
  rw [List.mem_singleton] at hp
  subst hp
  exact tmG_ok progOk tabs_closed orcA_ok (by kernel_rfl) lexDAll
theorem orcCC_ok (S : Sig) (W : Wb) : @TabsB S W tabs → @OrcOk S Tryz.prog W orcCC := by
 refine @orcOf3_ok S Tryz.prog tabs anssI [(43, hpT)] [(44, tmG jPlace lexTqC), (246, tmG jLast itemTqC), (72, tmG jLast belowTqC), (26, tmG jLast copiedTqC), (41, tmG jLast isTqC), (36, leftM), (37, depthM), (40, tokM 5), (59, tokM 1), (22, peekM)] anssI_ok ?_ ?_ W
 ·intro p hp
  rw [List.mem_singleton] at hp
  subst hp
  exact hp_ok
 ·intro p hp
  simp only [List.mem_cons, List.mem_nil_iff, or_false] at hp
  rcases hp with rfl | rfl | rfl | rfl | rfl | rfl | rfl | rfl | rfl | rfl
  ·exact tmG_ok progOk tabs_closed orcA_ok (by kernel_rfl) lexCAll
  ·exact tmG_ok progOk tabs_closed orcBC_ok (by kernel_rfl) itemCAll
  ·exact tmG_ok progOk tabs_closed orcA_ok (by kernel_rfl) belowCAll
  ·exact tmG_ok progOk tabs_closed orcA_ok (by kernel_rfl) copiedCAll
  ·exact tmG_ok progOk tabs_closed orcBC_ok (by kernel_rfl) isCAll
  ·exact leftM_ok (by kernel_rfl) left_any
  ·exact depthM_ok (by kernel_rfl) depth_any
  ·exact tokM_ok (by kernel_rfl) punct_calls
  ·exact tokM_ok (by kernel_rfl) name_calls
  ·exact peekM_ok
theorem orcCD_ok (S : Sig) (W : Wb) : @TabsB S W tabs → @OrcOk S Tryz.prog W orcCD := by
 refine @orcOf3_ok S Tryz.prog tabs anssI [(43, hpT)] [(44, tmG jPlace lexTqD), (246, tmG jLast itemTqD), (72, tmG jLast belowTqD), (26, tmG jLast copiedTqD), (41, tmG jLast isTqD), (36, leftM), (37, depthM), (40, tokM 5), (59, tokM 1), (22, peekM)] anssI_ok ?_ ?_ W
 ·intro p hp
  rw [List.mem_singleton] at hp
  subst hp
  exact hp_ok
 ·intro p hp
  simp only [List.mem_cons, List.mem_nil_iff, or_false] at hp
  rcases hp with rfl | rfl | rfl | rfl | rfl | rfl | rfl | rfl | rfl | rfl
  ·exact tmG_ok progOk tabs_closed orcA_ok (by kernel_rfl) lexDAll
  ·exact tmG_ok progOk tabs_closed orcBD_ok (by kernel_rfl) itemDAll
  ·exact tmG_ok progOk tabs_closed orcA_ok (by kernel_rfl) belowDAll
  ·exact tmG_ok progOk tabs_closed orcA_ok (by kernel_rfl) copiedDAll
  ·exact tmG_ok progOk tabs_closed orcBD_ok (by kernel_rfl) isDAll
  ·exact leftM_ok (by kernel_rfl) left_any
  ·exact depthM_ok (by kernel_rfl) depth_any
  ·exact tokM_ok (by kernel_rfl) punct_calls
  ·exact tokM_ok (by kernel_rfl) name_calls
  ·exact peekM_ok
end Go.Proofs.YtgpibpkplhlihaaGreatDoor
namespace Go.Proofs.YtgpibpkplhlihaaGreatDoor
open Go Go.Ev
theorem v00b : ValOk (symVal []) := symVal_ok fun s h => by cases h
theorem isEnd_self (tx : Tx) (h : tx.tail.1 < 32768) : isEnd tx (endI tx) = true := by
 unfold isEnd
 rw [Bool.and_eq_true]
 refine ⟨Nat.ble_eq_true_of_le h, ?_⟩
 generalize endI tx = z
 cases z with
 | ofNat a => exact Nat.beq_refl a
 | negSucc a => exact Nat.beq_refl a
theorem pre_some [Sig] {z : Int} (hd : dec z = (Sig.txt.size : Int)) : ∃ u, cv E00 (.pre z) = some u := by
 simp only [cv]
 rw [hd, if_pos ⟨Int.natCast_nonneg _, Int.le_refl _⟩]
 exact ⟨_, rfl⟩
theorem cv_bool [Sig] (b : Bool) : cv E00 (.bool b) = some (.bool b) := by simp only [cv]
theorem args_z [Sig] {z : Int} {u : Value} (hu : cv E00 (.pre z) = some u) : cvL E00 [.pre z, .bool false] = some [u, .bool false] := by
 simp only [cvL]
 rw [hu, cv_bool]
theorem pre_cv [Sig] {tx : Tx} (hT : TxOk tx) (hon : tx.on = true) (h : tx.tail.1 < 32768) : cv E00 (.pre (endI tx)) = some (.string Sig.txt) := by
 obtain ⟨u, hu⟩ := pre_some (end_val hT hon h)
 rw [← pre_val hT hon (isEnd_self tx h) hu]
 exact hu
theorem node_cv [Sig] {E : Env} {x : AV} {u : Value} (h : isNode x = true) (hu : cv E x = some u) : ∃ (k : Int) (t : ByteArray) (a : Option Addr) (l c : Nat) (f o : Int), u = .agg #[.int .i64 k, .string t, .slice a l c, .int .i64 f, .int .i64 o] := by
 unfold isNode at h
 split at h
 ·rename_i k n t b off len cap ex f o
  cases he : E b with
  | none => simp [cv, cvC, AV.one, he] at hu
  | some e =>
   simp only [cv, cvC, AV.one, he, Option.some.injEq] at hu
   exact ⟨_, _, _, _, _, _, _, hu.symm⟩
 ·simp only [cv, cvC, AV.one, Option.some.injEq] at hu
  exact ⟨_, _, _, _, _, _, _, hu.symm⟩
 ·cases h
theorem pl_cv [Sig] {E : Env} {x : AV} {u : Value} (h : isAns.isPl x = true) (hu : cv E x = some u) : ∃ A : Int, u = .int .i64 A := by
 unfold isAns.isPl at h
 split at h
 ·simp only [cv, Option.some.injEq] at hu
  exact ⟨_, hu.symm⟩
 ·simp only [cv] at hu
  split at hu
  ·split at hu
   ·cases hu; exact ⟨_, rfl⟩
   ·cases hu
  ·cases hu
 ·cases h
theorem isAns_ok {n : Nat} {o : OR} (h : isAns n o = true) : ∃ x p h', o = .val (.tuple [x, p, .int .i64 (.ofNat n)]) h' ∧ isNode x = true ∧ isAns.isPl p = true := by
 unfold isAns at h
 split at h
 ·rename_i x p e h'
  rw [Bool.and_eq_true, Bool.and_eq_true] at h
  obtain ⟨h1, h2, h3⟩ := h
  have h3 := Nat.eq_of_beq_eq_true h3
  subst h3
  exact ⟨x, p, h', rfl, h1, h2⟩
 ·cases h
theorem tup3_cv [Sig] {E : Env} {x p z : AV} {u : Value} (hu : cv E (.tuple [x, p, z]) = some u) : ∃ a b c, cv E x = some a ∧ cv E p = some b ∧ cv E z = some c ∧ u = .tuple #[a, b, c] := by
 simp only [cv, cvL] at hu
 cases h1 : cv E x with
 | none => simp [h1] at hu
 | some a =>
  cases h2 : cv E p with
  | none => simp [h1, h2] at hu
  | some b =>
   cases h3 : cv E z with
   | none => simp [h1, h2, h3] at hu
   | some c =>
    simp only [h1, h2, h3, Option.some.injEq] at hu
    exact ⟨a, b, c, rfl, rfl, rfl, hu.symm⟩
theorem ans_cv [Sig] {E : Env} {x p : AV} {n : Nat} {u : Value} (hx : isNode x = true) (hp : isAns.isPl p = true) (hn : symB (.ofNat n) = false) (hu : cv E (.tuple [x, p, .int .i64 (.ofNat n)]) = some u) :
  ∃ (k : Int) (t : ByteArray) (a : Option Addr) (l c : Nat) (f o : Int) (B : Int), u = .tuple #[.agg #[.int .i64 k, .string t, .slice a l c, .int .i64 f, .int .i64 o], .int .i64 B, .int .i64 n] ∧ cv E x = some (.agg #[.int .i64 k, .string t, .slice a l c, .int .i64 f, .int .i64 o]) := by
 obtain ⟨a1, b1, c1, h1, h2, h3, rfl⟩ := tup3_cv hu
 obtain ⟨k, t, a, l, c, f, o, rfl⟩ := node_cv hx h1
 obtain ⟨B, rfl⟩ := pl_cv hp h2
 simp only [cv, Option.some.injEq] at h3
 rw [dec_of hn] at h3
 subst h3
 exact ⟨k, t, a, l, c, f, o, B, rfl, h1⟩
theorem simKeepsC [Sig] {P : Program} {W0 : Wb} {E : Env} {h : H} {w w' : World} (S : HSim P W0 E h w) (hb : Keeps w w') : HSim P W0 E h w' where
 size := Nat.le_trans S.size hb.size
 base := fun r hr hm => by rw [hb.block r (Nat.lt_of_lt_of_le hr S.size)]; exact S.base r hr hm
 os := hb.os.trans S.os
 out := hb.out.trans S.out
 low := S.low
 glob := S.glob
 dom := S.dom
 top := S.top
 blk := fun b e x he hx => by
  obtain ⟨o, ho, hB⟩ := S.blk b e x he hx
  refine ⟨o, ?_, hB⟩
  have : e.rb < w.heap.size := by
   rcases Nat.lt_or_ge e.rb w.heap.size with h1 | h1
   ·exact h1
   ·rw [Array.getElem?_eq_none h1] at ho; cases ho
  rw [hb.block _ this]; exact ho
 own := S.own
 ronly := S.ronly
 inj := S.inj
 ho := S.ho
theorem allOk_at {f : List (List Nat) → Bool} : ∀ {l : List (List (List Nat))}, allOk f l = true → ∀ q ∈ l, f q = true
 | x :: l, h, q, hq => by
  simp only [allOk] at h
  split at h
  ·rename_i hx
   rcases List.mem_cons.1 hq with rfl | hq
   ·exact hx
   ·exact allOk_at h q hq
  ·cases h
 | [], _, q, hq => by cases hq
theorem fits_C {KS : List Nat} (h12 : ∀ k ∈ KS, k < 12) : (∀ k ∈ KS, k ∈ cA) ∧ (goodM KS = true → Fits (repP cO KS.length) KS) ∧ (goodM KS = false → ∃ q ∈ from1 cP cO cA KS.length, Fits q KS) := by
 have hal : ∀ k ∈ KS, k ∈ cA := fun k hk => by
  rcases kinds12 (h12 k hk) with rfl | rfl | rfl | rfl | rfl | rfl | rfl | rfl | rfl | rfl | rfl | rfl <;> decide
 have hp : ∀ k, k ∈ cA → (!(decide (k < 8))) = true → k ∈ cP := by decide
 have ho : ∀ k, k ∈ cA → (!(decide (k < 8))) = false → k ∈ cO := by decide
 have hg : ∀ l : List Nat, (goodM l = true → cntP (fun k => !(decide (k < 8))) l = 0) ∧ (goodM l = false → 1 ≤ cntP (fun k => !(decide (k < 8))) l) := by
  intro l
  induction l with
  | nil => exact ⟨fun _ => rfl, fun h => by cases h⟩
  | cons k l ih =>
   simp only [goodM, badM, cntP]
   by_cases hk : k < 8
   ·simpa [hk] using ih
   ·simp [hk]
 exact ⟨hal, fun h => fits_0 ho hal ((hg KS).1 h), fun h => fits_1 hp ho hal ((hg KS).2 h)⟩
theorem call_expr [Sig] {w : World} {O : Orc} (hO : OrcOk Tryz.prog w O) (ht : TabsOk w tabs) {tx : Tx} (hT : TxOk tx) (hon : tx.on = true) (htl : tx.tail.1 < 32768) {v : AV} {h1 : H}
  (hc : (fns Tryz.prog O 3000).call 7 [.pre (endI tx), .bool false] (hInitT tabs tx []) = .val v h1) :
  Calls Tryz.prog 7 #[.string Sig.txt, .bool false] w fun e w1 => ∃ E1 u, e = .returned u ∧ HSim Tryz.prog w E1 h1 w1 ∧ cv E1 v = some u := by
 have hR := fns_ok progOk hO 3000
 have ho : Outs ((fns Tryz.prog O 3000).call 7 [.pre (endI tx), .bool false] (hInitT tabs tx [])) := by rw [hc]; trivial
 have hargs := args_z (pre_cv hT hon htl)
 obtain ⟨-, h2⟩ := hR.call E00 (hInitT tabs tx []) w 7 [.pre (endI tx), .bool false] _ (start_simT ht (fun p hp => by cases hp) hT) hargs ho
 rw [callsIn_wide] at h2
 refine h2.mono fun e w1 he => ?_
 rw [hc] at he
 obtain ⟨E1, u1, rfl, -, S1, hv1⟩ := he
 exact ⟨E1, u1, rfl, S1, hv1⟩
theorem chkC_inv {m : Nat} {o : OR} (h : chkC m o = true) : ∃ x h1, o = .val (.tuple [x, .int .i64 (.ofNat 0), .int .i64 (.ofNat 0)]) h1 ∧ isNode x = true ∧ patOk (repP cO m) 0 x h1 = true ∧ allOk (fun q => patOk q 900 x h1) (from1 cP cO cA m) = true := by
 unfold chkC at h
 split at h
 ·rename_i x h1
  rw [Bool.and_eq_true, Bool.and_eq_true] at h
  exact ⟨x, h1, rfl, h.1, h.2.1, h.2.2⟩
 ·cases h
theorem runC_inv {m : Nat} (h : runC m = true) : ∃ x h1, (fns Tryz.prog orcCC 3000).call 7 [.pre (endI (txC (repP cA m))), .bool false] (hInitT tabs (txC (repP cA m)) []) = .val (.tuple [x, .int .i64 (.ofNat 0), .int .i64 (.ofNat 0)]) h1 ∧ isNode x = true ∧ patOk (repP cO m) 0 x h1 = true ∧ allOk (fun q => patOk q 900 x h1) (from1 cP cO cA m) = true := by
 rw [runC, fnsF_eq] at h
 exact chkC_inv h
theorem patOk_inv {q : List (List Nat)} {n : Nat} {x : AV} {h : H} (hp : patOk q n x h = true) : h.tx.on = true ∧ isAns n ((fns Tryz.prog orcCC 3000).call 8 [x] ⟨h.next, h.t, h.asm, [], patTx h.tx q⟩) = true := by
 rw [patOk, fnsF_eq, Bool.and_eq_true] at hp
 exact hp
theorem call_ok [Sig] {w : World} {O : Orc} (hO : OrcOk Tryz.prog w O) {E : Env} {h h3 : H} {w2 : World} {f : FuncId} {x v : AV} {u : Value} (S : HSim Tryz.prog w E h w2) (hu : cv E x = some u) (hc : (fns Tryz.prog O 3000).call f [x] h = .val v h3) :
  Calls Tryz.prog f #[u] w2 fun e w3 => ∃ E3 u3, e = .returned u3 ∧ HSim Tryz.prog w E3 h3 w3 ∧ cv E3 v = some u3 := by
 have hR := fns_ok progOk hO 3000
 have ho : Outs ((fns Tryz.prog O 3000).call f [x] h) := by rw [hc]; trivial
 obtain ⟨-, h4⟩ := hR.call E h w2 f [x] [u] S (by simp only [cvL, hu]) ho
 rw [callsIn_wide] at h4
 refine h4.mono fun e w3 he => ?_
 rw [hc] at he
 obtain ⟨E3, u3, rfl, -, S4, hv3⟩ := he
 exact ⟨E3, u3, rfl, S4, hv3⟩
theorem pat_call [Sig] {w : World} (hO : OrcOk Tryz.prog w orcCC) {E : Env} {h : H} {w2 : World} {x : AV} {u : Value} (S : HSim Tryz.prog w E h w2) (hu : cv E x = some u) {q : List (List Nat)} {n : Nat} (hn : symB (.ofNat n) = false)
  (hf : ∀ i ks, q[i]? = some ks → Sig.kap i ∈ ks) (hp : patOk q n x h = true) :
  Calls Tryz.prog 8 #[u] w2 fun e w3 => Keeps w w3 ∧ ∃ (k : Int) (t : ByteArray) (a : Option Addr) (l c : Nat) (f o : Int) (B : Int),
    e = .returned (.tuple #[.agg #[.int .i64 k, .string t, .slice a l c, .int .i64 f, .int .i64 o], .int .i64 B, .int .i64 n]) := by
 obtain ⟨hon, hp⟩ := patOk_inv hp
 obtain ⟨y, p, h3, hc3, hy, hpl⟩ := isAns_ok hp
 have S3 : HSim Tryz.prog w E ⟨h.next, h.t, h.asm, [], patTx h.tx q⟩ w2 := ⟨S.size, S.base, S.os, S.out, S.low, S.glob, S.dom, S.top, S.blk, S.own, S.ronly, S.inj, ⟨S.ho.1, patTx_ok S.ho.2 hon hf⟩⟩
 refine (call_ok hO S3 hu hc3).mono fun e w3 he => ?_
 obtain ⟨E3, u3, rfl, S4, hv3⟩ := he
 obtain ⟨k', t', a', l', c', f', o', B, rfl, -⟩ := ans_cv hy hpl hn hv3
 exact ⟨S4.keeps, k', t', a', l', c', f', o', B, rfl⟩
section
variable {KS : List Nat} (h12 : ∀ k ∈ KS, k < 12)
include h12
theorem exprC_ok (htlC : (txC (repP cA KS.length)).tail.1 < 32768) (hr : runC KS.length = true) (hn : (txC (repP cA KS.length)).its.length < 65536) (hs : (txtOf (txC (repP cA KS.length)) (fun i => KS.getD i 0)).length < 500000) {W w : World} (hw : Keeps W w) (htS : ∀ S : Sig, @TabsOk S W tabs) :
  ExprC W w ⟨(txtOf (txC (repP cA KS.length)) (fun i => KS.getD i 0)).toArray⟩ (goodM KS) := by
 obtain ⟨hal, hgood, hbad⟩ := fits_C h12
 letI S : Sig := sigT (txC (repP cA KS.length)) (fun i => KS.getD i 0) (symVal []) v00b
 have ht : TabsOk w tabs := (htS S).keeps hw
 have hT : TxOk (txC (repP cA KS.length)) := sigT_ok _ _ _ v00b hn (fits_get (fits_rep hal)) hs (fun h => absurd rfl h)
 obtain ⟨x, h1, hc, hx, hq0, hq1⟩ := runC_inv hr
 refine (call_expr (orcCC_ok S w ht.b) ht hT rfl htlC hc).mono fun e w1 he => ?_
 obtain ⟨E1, u1, rfl, S1, hv1⟩ := he
 obtain ⟨k, t, a, l, c, f, o, A, rfl, hxc⟩ := ans_cv (n := 0) hx (by rfl) rfl hv1
 refine ⟨hw.trans S1.keeps, k, t, a, l, c, f, o, A, rfl, fun w2 hk2 => ?_⟩
 have S2 := simKeepsC S1 hk2
 rcases (show goodM KS = true ∨ goodM KS = false by cases goodM KS <;> simp) with hg | hg
 ·rw [hg]
  refine (pat_call (orcCC_ok S w ht.b) S2 hxc (n := 0) rfl (fits_get (hgood hg)) hq0).mono fun e w3 he => ?_
  exact ⟨hw.trans he.1, he.2⟩
 ·rw [hg]
  obtain ⟨q, h5, h6⟩ := hbad hg
  refine (pat_call (orcCC_ok S w ht.b) S2 hxc (n := 900) rfl (fits_get h6) (allOk_at hq1 q h5)).mono fun e w3 he => ?_
  exact ⟨hw.trans he.1, he.2⟩
theorem exprG_ok (hD : runD KS.length = true) (hE : KS.length ≠ 0 → runE KS.length = true) (hn : (itsOf kindsC (repP cA KS.length)).length < 65536 ∧ (itsOf kindsC (repP cO KS.length)).length < 65536)
  (hO : txtOf (txD (repP cO KS.length) []) (fun i => KS.getD i 0) = txtOf (txD (repP cA KS.length) (from1 cP cO cA KS.length)) (fun i => KS.getD i 0))
  (hs : (txtOf (txD (repP cA KS.length) (from1 cP cO cA KS.length)) (fun i => KS.getD i 0)).length < 500000) {W w : World} (hw : Keeps W w) (htS : ∀ S : Sig, @TabsOk S W tabs) :
  ExprG W w ⟨(txtOf (txD (repP cA KS.length) (from1 cP cO cA KS.length)) (fun i => KS.getD i 0)).toArray⟩ (goodM KS) := by
 obtain ⟨hal, hgood, hbad⟩ := fits_C h12
 have key : ∀ (tx : Tx) (n : Nat), symB (.ofNat n) = false → tx.on = true → tx.tail.1 < 32768 → tx.its.length < 65536 → (∀ i ks, tx.ks[i]? = some ks → KS.getD i 0 ∈ ks) → (txtOf tx (fun i => KS.getD i 0)).length < 500000 → (tx.pats ≠ [] → ∃ q ∈ tx.pats, ∀ i ks, q[i]? = some ks → KS.getD i 0 ∈ ks) →
   isAns n ((fnsF Tryz.prog orcCD 3000).call 7 [.pre (endI tx), .bool false] (hInitT tabs tx [])) = true →
   Calls Tryz.prog 7 #[.string ⟨(txtOf tx (fun i => KS.getD i 0)).toArray⟩, .bool false] w fun e w' => Keeps W w' ∧ ∃ (k : Int) (t : ByteArray) (a : Option Addr) (l c : Nat) (f o : Int) (A : Int),
    e = .returned (.tuple #[.agg #[.int .i64 k, .string t, .slice a l c, .int .i64 f, .int .i64 o], .int .i64 A, .int .i64 n]) := by
  intro tx n hn hon htl hil hks hs hp hr
  letI S : Sig := sigT tx (fun i => KS.getD i 0) (symVal []) v00b
  have ht : TabsOk w tabs := (htS S).keeps hw
  have hT : TxOk tx := sigT_ok _ _ _ v00b hil hks hs hp
  rw [fnsF_eq] at hr
  obtain ⟨y, p, h3, hc3, hy, hpl⟩ := isAns_ok hr
  refine (call_expr (orcCD_ok S w ht.b) ht hT hon htl hc3).mono fun e w1 he => ?_
  obtain ⟨E1, u1, rfl, S1, hv1⟩ := he
  obtain ⟨k, t, a, l, c, f, o, A, rfl, -⟩ := ans_cv hy hpl hn hv1
  exact ⟨hw.trans S1.keeps, k, t, a, l, c, f, o, A, rfl⟩
 rcases (show goodM KS = true ∨ goodM KS = false by cases goodM KS <;> simp) with hg | hg
 ·rw [hg]
  have := key (txD (repP cO KS.length) []) 0 rfl rfl (by show 5 < 32768; omega) hn.2 (fits_get (hgood hg)) (by rw [hO]; exact hs) (fun h => absurd rfl h) hD
  rw [hO] at this
  exact this
 ·rw [hg]
  obtain ⟨q, h5, h6⟩ := hbad hg
  exact key (txD (repP cA KS.length) (from1 cP cO cA KS.length)) 1003 rfl rfl (by show 5 < 32768; omega) hn.1 (fits_get (fits_rep hal)) hs (fun _ => ⟨q, h5, fits_get h6⟩) (hE fun h0 => by
   rw [List.length_eq_zero_iff.1 h0] at hg; cases hg)
end
end Go.Proofs.YtgpibpkplhlihaaGreatDoor
