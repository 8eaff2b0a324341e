/- What the look at the tree says of the tree that lies there in truth. No condition. · All answers of the law ScopeVars are sound; what the closed runs over the texts say of the program itself. No condition. -/
import Derived.Test.YtgpibpkplhlihaaGreatDoorRpV
import Derived.Test.YtgpibpkplhlihaaGreatDoorScopeD
import Derived.Test.YtgpibpkplhlihaaGreatDoorLawV
import Derived.Test.YtgpibpkplhlihaaGreatDoorLeft
import Derived.Test.YtgpibpkplhlihaaGreatDoorDepthD
import Derived.Test.YtgpibpkplhlihaaGreatDoorVqR0
import Derived.Test.YtgpibpkplhlihaaGreatDoorVqR1
import Derived.Test.YtgpibpkplhlihaaGreatDoorVqR2
import Derived.Test.YtgpibpkplhlihaaGreatDoorVqR3
import Derived.Test.YtgpibpkplhlihaaGreatDoorVqR4
import Derived.Test.YtgpibpkplhlihaaGreatDoorVqR5
import Derived.Test.YtgpibpkplhlihaaGreatDoorVqR6
import Derived.Test.YtgpibpkplhlihaaGreatDoorVqR7
import Derived.Test.YtgpibpkplhlihaaGreatDoorVqR8
import Derived.Test.YtgpibpkplhlihaaGreatDoorVqR9
import Derived.Test.YtgpibpkplhlihaaGreatDoorVqR10
import Derived.Test.YtgpibpkplhlihaaGreatDoorVqR11
import Derived.Test.YtgpibpkplhlihaaGreatDoorVqR12
import Derived.Test.YtgpibpkplhlihaaGreatDoorVqR13
import Derived.Test.YtgpibpkplhlihaaGreatDoorVqR14
import Derived.Test.YtgpibpkplhlihaaGreatDoorVqR15
import Derived.Test.YtgpibpkplhlihaaGreatDoorVqR16
import Derived.Test.YtgpibpkplhlihaaGreatDoorVqR17
import Derived.Test.YtgpibpkplhlihaaGreatDoorVqR18
import Derived.Test.YtgpibpkplhlihaaGreatDoorVqR19
namespace Go.Proofs.YtgpibpkplhlihaaGreatDoor
open Go Go.RowKit Go.Proofs Go.Ev
set_option linter.unusedVariables false
set_option linter.unusedSectionVars false
set_option linter.unusedSimpArgs false
variable [Sig]
mutual
def ntOf : AT → NT
 | .node k l c z kids => .node k (strB l c) (dec z) (ntOfL kids)
def ntOfL : List AT → List NT
 | [] => []
 | t :: l => ntOf t :: ntOfL l
end
theorem ntOfL_len : ∀ l : List AT, (ntOfL l).length = l.length
 | [] => rfl
 | t :: l => by rw [ntOfL, List.length_cons, List.length_cons, ntOfL_len l]
variable {P : Program} {W0 : Wb} {E : Env} {h : H} {w : World}
def CAt (E : Env) (w : World) (rb o : Nat) (cs : List AV) : Prop := ∀ (i : Nat) (v : AV), cs[i]? = some v → ∃ u, cv E v = some u ∧ w.cell? ⟨rb, o + i, none⟩ = some u
theorem CAt.drop {rb o n : Nat} {cs : List AV} (H : CAt E w rb o cs) : CAt E w rb (o + n) (cs.drop n) := by
 intro i v hv
 rw [List.getElem?_drop] at hv
 have := H (n + i) v hv
 rwa [← Nat.add_assoc] at this
theorem blk_cat (S : HSim P W0 E h w) {b : Nat} {e : Ev.Loc} {cs : List AV} {el : TypeId} {tl ro : Bool} (he : E b = some e) (hb : h.get b = some (.cells cs el tl ro)) : e.rb < w.heap.size ∧ CAt E w e.rb e.ro cs := by
 obtain ⟨o, ho, C, el', fz, rfl, -, -, hC, -⟩ := S.blk b e _ he hb
 refine ⟨(Array.getElem?_eq_some_iff.1 ho).1, fun i v hv => ?_⟩
 obtain ⟨-, u, h1, h2⟩ := hC _ _ hv
 exact ⟨u, h1, by simp only [World.cell?, ho]; exact h2⟩
theorem slice_cv {b off n cap : Nat} {ex : Bool} {u : Value} (hu : cv E (.slice b off n cap ex) = some u) : ∃ e cp, E b = some e ∧ u = .slice (some ⟨e.rb, e.ro + off, none⟩) n cp := by
 simp only [cv] at hu
 split at hu
 ·rename_i e he
  cases hu
  exact ⟨e, _, he, rfl⟩
 ·cases hu
theorem absL_ok {g : List AV → Option AT} {rb : Nat} (hg : ∀ (xs : List AV) (t : AT) (o : Nat), g xs = some t → CAt E w rb o xs → LiesN w (ntOf t) rb o) : ∀ (n : Nat) (xs : List AV) (l : List AT) (o o0 i : Nat), absL g n xs = some l → o = o0 + i * 5 → CAt E w rb o xs → l.length = n ∧ LiesNL w (ntOfL l) (some ⟨rb, o0, none⟩) i
 | 0, xs, l, o, o0, i, hl, ho, H => by
  simp only [absL, Option.some.injEq] at hl
  subst hl
  exact ⟨rfl, trivial⟩
 | n + 1, xs, l, o, o0, i, hl, ho, H => by
  simp only [absL] at hl
  split at hl
  ·rename_i t l' ht hr
   cases hl
   obtain ⟨h1, h2⟩ := absL_ok hg n _ l' (o + 5) o0 (i + 1) hr (by omega) H.drop
   refine ⟨by rw [List.length_cons, h1], ?_⟩
   rw [ntOfL, LiesNL]
   exact ⟨⟨rb, o0, rfl, by rw [← ho]; exact hg xs t o ht H⟩, h2⟩
  ·cases hl
theorem absT_ok (S : HSim P W0 E h w) {j k : Nat} (hk : Sig.kap j = k) : ∀ (f : Nat) (cs : List AV) (t : AT) (rb o : Nat), rb < w.heap.size → absT h j k f cs = some t → CAt E w rb o cs → LiesN w (ntOf t) rb o
 | 0, cs, t, rb, o, hrb, ht, H => by simp only [absT] at ht; cases ht
 | f + 1, cs, t, rb, o, hrb, ht, H => by
  have hA : AsmOk [(j, k)] := by
   intro p hp
   rw [List.mem_singleton] at hp
   subst hp
   exact hk
  simp only [absT] at ht
  split at ht
  ·rename_i a b c d l
   obtain ⟨u0, a0, b0⟩ := H 0 a rfl
   obtain ⟨u1, a1, b1⟩ := H 1 b rfl
   obtain ⟨u2, a2, b2⟩ := H 2 c rfl
   obtain ⟨u3, a3, b3⟩ := H 3 d rfl
   have a0 := resV_cv hA a0
   have a1 := resV_cv hA a1
   have a2 := resV_cv hA a2
   have a3 := resV_cv hA a3
   split at ht
   ·rename_i kd l2 cd z e0 e1 e3
    rw [e0] at a0
    rw [e1] at a1
    rw [e3] at a3
    split at ht
    ·rename_i hkd
     have hs : symB (.ofNat kd) = false := rfl
     simp only [cv, Option.some.injEq] at a0 a1 a3
     rw [dec_of hs] at a0
     subst a0 a1 a3
     split at ht
     ·cases ht
      rw [‹resV [(j, k)] c = _›] at a2
      simp only [cv, Option.some.injEq] at a2
      subst a2
      rw [ntOf, LiesN]
      exact ⟨hrb, b0, b1, ⟨none, 0, b2, Nat.zero_le _, trivial⟩, b3⟩
     ·rename_i bl off n cap ex e2
      rw [e2] at a2
      obtain ⟨e, cp, he, rfl⟩ := slice_cv a2
      split at ht
      ·rename_i xs el tl ro hb hn
       obtain ⟨h1, h2⟩ := blk_cat S he hb
       split at ht
       ·rename_i kids hkids
        cases ht
        obtain ⟨h3, h4⟩ := absL_ok (rb := e.rb) (fun xs t o hx hc => absT_ok S hk f xs t e.rb o h1 hx hc) n _ kids (e.ro + off) (e.ro + off) 0 hkids (by omega) h2.drop
        have h5 := Nat.le_of_ble_eq_true hn
        rw [ntOf, LiesN]
        refine ⟨hrb, b0, b1, ⟨_, cp, ?_, by rw [ntOfL_len]; omega, h4⟩, b3⟩
        rw [ntOfL_len, h3]
        exact b2
       ·cases ht
      ·cases ht
     ·cases ht
    ·cases ht
   ·cases ht
  ·cases ht
def nmOf (x : NmA) : BN := (strB x.1.1 x.1.2, dec x.2)
theorem memN_mem {k : Nat} : ∀ {l : List Nat}, memN k l = true → k ∈ l := memN_iff.1
theorem catO_parts {g : AT → Option (List NmA)} (hg : ∀ t xs, g t = some xs → VarsOk (ntOf t) (xs.map nmOf)) : ∀ (l : List AT) (xs : List NmA), catO g l = some xs → PartsV (ntOfL l) (xs.map nmOf)
 | [], xs, h => by
  simp only [catO, Option.some.injEq] at h
  subst h
  exact ⟨[], rfl, rfl, fun i x ys hx => by cases hx⟩
 | t :: l, xs, h => by
  simp only [catO] at h
  split at h
  ·rename_i a b ha hb
   cases h
   obtain ⟨yss, h1, h2, h3⟩ := catO_parts hg l b hb
   refine ⟨a.map nmOf :: yss, by rw [ntOfL, List.length_cons, List.length_cons, h1], by rw [List.map_append, h2, List.flatten_cons], fun i x ys hx hys => ?_⟩
   cases i with
   | zero =>
    rw [ntOfL] at hx
    cases hx
    cases hys
    exact hg t a ha
   | succ i =>
    rw [ntOfL] at hx
    exact h3 i x ys hx hys
  ·cases h
theorem var_names (t : ByteArray) (f : Int) (t2 : ByteArray) (f2 : Int) (s : ByteArray) (z : Int) (l1 l2 : List NT) : NamesOk (.node 60 t f [.node 61 t2 f2 (.node 1 s z l1 :: l2)]) [(s, z)] := by
 refine names_many60 t f _ _ ⟨[[(s, z)]], rfl, rfl, fun i x ys hx hys => ?_⟩
 cases i with
 | zero =>
  cases hx
  cases hys
  exact names_first61 t2 f2 _ l2 _ (names_ident s z l1)
 | succ i => cases hx
theorem varsA_ok : ∀ (f : Nat) (t : AT) (xs : List NmA), varsA f t = some xs → VarsOk (ntOf t) (xs.map nmOf)
 | 0, t, xs, h => by simp only [varsA] at h; cases h
 | f + 1, .node kd l c z kids, xs, h => by
  simp only [varsA] at h
  rw [ntOf]
  split at h
  ·rename_i hk
   have hk := Nat.eq_of_beq_eq_true hk
   subst hk
   split at h
   ·rename_i hv
    rw [Bool.and_eq_true] at hv
    obtain ⟨e1, e2⟩ := hv
    have e1 := Nat.eq_of_beq_eq_true e1
    have e2 := Nat.eq_of_beq_eq_true e2
    subst e1 e2
    split at h
    ·cases h
     have e : strB 3 7496054 = ⟨#[118, 97, 114]⟩ := by decide +kernel
     rw [e]
     simp only [ntOfL, ntOf]
     exact vars_var _ _ _ (var_names _ _ _ _ _ _ _ _)
    ·cases h
   ·split at h
    ·rename_i hv
     rw [Bool.and_eq_true] at hv
     obtain ⟨e1, e2⟩ := hv
     have e1 := Nat.eq_of_beq_eq_true e1
     have e2 := Nat.eq_of_beq_eq_true e2
     subst e1 e2
     cases h
     have e : strB 3 7628140 = ⟨#[108, 101, 116]⟩ := by decide +kernel
     rw [e]
     exact vars_let _ _
    ·cases h
  ·split at h
   ·rename_i hm
    have hp := catO_parts (fun t xs ht => varsA_ok f t xs ht) kids xs h
    have hm := memN_mem hm
    simp only [List.mem_cons, List.not_mem_nil, or_false] at hm
    rcases hm with rfl | rfl | rfl | rfl | rfl | rfl | rfl | rfl | rfl
    all_goals exact vars_many _ (by decide) _ _ _ _ hp
   ·split at h
    ·rename_i hm
     cases h
     have hm := memN_mem hm
     simp only [List.mem_cons, List.not_mem_nil, or_false] at hm
     rcases hm with rfl | rfl | rfl | rfl | rfl | rfl
     all_goals exact vars_none _ (by decide) _ _ _
    ·cases h
end Go.Proofs.YtgpibpkplhlihaaGreatDoor
namespace Go.Proofs.YtgpibpkplhlihaaGreatDoor
open Go Go.RowKit Go.Proofs Go.Ev
set_option linter.unusedVariables false
set_option linter.unusedSectionVars false
set_option linter.unusedSimpArgs false
theorem lexRuns : ∀ j, j < 20 → okJ 44 (atV lexV j) = true
 | 0, _ => lexRun0
 | 1, _ => lexRun1
 | 2, _ => lexRun2
 | 3, _ => lexRun3
 | 4, _ => lexRun4
 | 5, _ => lexRun5
 | 6, _ => lexRun6
 | 7, _ => lexRun7
 | 8, _ => lexRun8
 | 9, _ => lexRun9
 | 10, _ => lexRun10
 | 11, _ => lexRun11
 | 12, _ => lexRun12
 | 13, _ => lexRun13
 | 14, _ => lexRun14
 | 15, _ => lexRun15
 | 16, _ => lexRun16
 | 17, _ => lexRun17
 | 18, _ => lexRun18
 | 19, _ => lexRun19
 | j + 20, h => by omega
theorem lexAll : ∀ j, j < 20 → ∀ k, ∀ T ∈ atK2 lexK j k, TqOk Tryz.prog orcA tabs 3000 44 T := fun j hj k T hT => okJ_mem (lexRuns j hj) T (lexK_mem _ _ _ T k hT)
theorem plainRuns : ∀ j, j < 20 → okJ 70 (atV plainV j) = true
 | 0, _ => plainRun0
 | 1, _ => plainRun1
 | 2, _ => plainRun2
 | 3, _ => plainRun3
 | 4, _ => plainRun4
 | 5, _ => plainRun5
 | 6, _ => plainRun6
 | 7, _ => plainRun7
 | 8, _ => plainRun8
 | 9, _ => plainRun9
 | 10, _ => plainRun10
 | 11, _ => plainRun11
 | 12, _ => plainRun12
 | 13, _ => plainRun13
 | 14, _ => plainRun14
 | 15, _ => plainRun15
 | 16, _ => plainRun16
 | 17, _ => plainRun17
 | 18, _ => plainRun18
 | 19, _ => plainRun19
 | j + 20, h => by omega
theorem plainAll : ∀ j, j < 20 → ∀ k, ∀ T ∈ atK2 plainK j k, TqOk Tryz.prog orcA tabs 3000 70 T := fun j hj k T hT => okJ_mem (plainRuns j hj) T (plainK_mem _ _ _ T k hT)
theorem statementRuns : ∀ j, j < 20 → okJ 79 (atV statementV j) = true
 | 0, _ => statementRun0
 | 1, _ => statementRun1
 | 2, _ => statementRun2
 | 3, _ => statementRun3
 | 4, _ => statementRun4
 | 5, _ => statementRun5
 | 6, _ => statementRun6
 | 7, _ => statementRun7
 | 8, _ => statementRun8
 | 9, _ => statementRun9
 | 10, _ => statementRun10
 | 11, _ => statementRun11
 | 12, _ => statementRun12
 | 13, _ => statementRun13
 | 14, _ => statementRun14
 | 15, _ => statementRun15
 | 16, _ => statementRun16
 | 17, _ => statementRun17
 | 18, _ => statementRun18
 | 19, _ => statementRun19
 | j + 20, h => by omega
theorem statementAll : ∀ j, j < 20 → ∀ k, ∀ T ∈ atK2 statementK j k, TqOk Tryz.prog orcA tabs 3000 79 T := fun j hj k T hT => okJ_mem (statementRuns j hj) T (statementK_mem _ _ _ T k hT)
theorem blockRuns : ∀ j, j < 20 → okJ 115 (atV blockV j) = true
 | 0, _ => blockRun0
 | 1, _ => blockRun1
 | 2, _ => blockRun2
 | 3, _ => blockRun3
 | 4, _ => blockRun4
 | 5, _ => blockRun5
 | 6, _ => blockRun6
 | 7, _ => blockRun7
 | 8, _ => blockRun8
 | 9, _ => blockRun9
 | 10, _ => blockRun10
 | 11, _ => blockRun11
 | 12, _ => blockRun12
 | 13, _ => blockRun13
 | 14, _ => blockRun14
 | 15, _ => blockRun15
 | 16, _ => blockRun16
 | 17, _ => blockRun17
 | 18, _ => blockRun18
 | 19, _ => blockRun19
 | j + 20, h => by omega
theorem blockAll : ∀ j, j < 20 → ∀ k, ∀ T ∈ atK2 blockK j k, TqOk Tryz.prog orcA tabs 3000 115 T := fun j hj k T hT => okJ_mem (blockRuns j hj) T (blockK_mem _ _ _ T k hT)
theorem orcV_ok (S : Sig) (W : Wb) : @TabsB S W tabs → @OrcOk S Tryz.prog W orcV := by
 refine @orcOf3_ok S Tryz.prog tabs anssI [(43, hpT)] [(44, tmJ jPlace (atK2 lexK)), (70, tmJ jLast (atK2 plainK)), (79, tmJ jLast (atK2 statementK)), (115, tmJ jLast (atK2 blockK)), (36, leftM), (37, depthM), (40, tokM 5), (59, tokM 1), (22, peekM)] anssI_ok ?_ ?_ W
 ·intro p hp
  rw [List.mem_singleton] at hp
  subst hp
  exact hp_ok
 ·intro p hp
  simp only [List.mem_cons, List.mem_nil_iff, or_false] at hp
  rcases hp with rfl | rfl | rfl | rfl | rfl | rfl | rfl | rfl | rfl
  ·exact tmJ_ok (by kernel_rfl) lexAll
  ·exact tmJ_ok (by kernel_rfl) plainAll
  ·exact tmJ_ok (by kernel_rfl) statementAll
  ·exact tmJ_ok (by kernel_rfl) blockAll
  ·exact leftM_ok (by kernel_rfl) left_any
  ·exact depthM_ok (by kernel_rfl) depth_any
  ·exact tokM_ok (by kernel_rfl) punct_calls
  ·exact tokM_ok (by kernel_rfl) name_calls
  ·exact peekM_ok
theorem v00b : ValOk (symVal []) := symVal_ok fun s h => by cases h
theorem isEnd_self (tx : Tx) (h : tx.tail.1 < 32768) : isEnd tx (endI tx) = true := by
 unfold isEnd
 rw [Bool.and_eq_true]
 refine ⟨Nat.ble_eq_true_of_le h, ?_⟩
 generalize endI tx = z
 cases z with
 | ofNat a => exact Nat.beq_refl a
 | negSucc a => exact Nat.beq_refl a
theorem pre_some [Sig] {z : Int} (hd : dec z = (Sig.txt.size : Int)) : ∃ u, cv E00 (.pre z) = some u := by
 simp only [cv]
 rw [hd, if_pos ⟨Int.natCast_nonneg _, Int.le_refl _⟩]
 exact ⟨_, rfl⟩
theorem cv_bool [Sig] (b : Bool) : cv E00 (.bool b) = some (.bool b) := by simp only [cv]
theorem args_z [Sig] {z : Int} {u : Value} (hu : cv E00 (.pre z) = some u) : cvL E00 [.pre z, .bool false] = some [u, .bool false] := by
 simp only [cvL]
 rw [hu, cv_bool]
theorem pre_cv [Sig] {tx : Tx} (hT : TxOk tx) (hon : tx.on = true) (h : tx.tail.1 < 32768) : cv E00 (.pre (endI tx)) = some (.string Sig.txt) := by
 obtain ⟨u, hu⟩ := pre_some (end_val hT hon h)
 rw [← pre_val hT hon (isEnd_self tx h) hu]
 exact hu
theorem call_prog [Sig] {w : World} {O : Orc} (hO : OrcOk Tryz.prog w O) (ht : TabsOk w tabs) {tx : Tx} (hT : TxOk tx) (hon : tx.on = true) (htl : tx.tail.1 < 32768) {v : AV} {h1 : H}
  (hc : (fns Tryz.prog O 3000).call 12 [.pre (endI tx), .bool false] (hInitT tabs tx []) = .val v h1) :
  Calls Tryz.prog 12 #[.string Sig.txt, .bool false] w fun e w1 => ∃ E1 u, e = .returned u ∧ HSim Tryz.prog w E1 h1 w1 ∧ cv E1 v = some u ∧ h1.tx = tx := by
 have hR := fns_ok progOk hO 3000
 have ho : Outs ((fns Tryz.prog O 3000).call 12 [.pre (endI tx), .bool false] (hInitT tabs tx [])) := by rw [hc]; trivial
 have hargs := args_z (pre_cv hT hon htl)
 obtain ⟨-, h2⟩ := hR.call E00 (hInitT tabs tx []) w 12 [.pre (endI tx), .bool false] _ (start_simT ht (fun p hp => by cases hp) hT) hargs ho
 have hfr : FrO (hInitT tabs tx []) ((fns Tryz.prog O 3000).call 12 [.pre (endI tx), .bool false] (hInitT tabs tx [])) := (fns_fr Tryz.prog O 3000).call _ _ _
 rw [hc] at hfr
 have htx : h1.tx = tx := hfr.tx
 rw [callsIn_wide] at h2
 refine h2.mono fun e w1 he => ?_
 rw [hc] at he
 obtain ⟨E1, u1, rfl, -, S1, hv1⟩ := he
 exact ⟨E1, u1, rfl, S1, hv1, htx⟩
theorem strB_nm : ∀ j, j < 20 → strB (nmV j).1 (nmV j).2 = vB j := by decide +kernel
theorem alt_nm : ∀ j, j < 20 → ∀ k, k < 11 → (match (itV j)[k]? with | some p => bytesOf p.1 p.2 | none => []) = altV (nmB j) k := by decide +kernel
theorem it_some : ∀ j, j < 20 → ∀ k, k < 11 → ((itV j)[k]?).isSome = true := by decide +kernel
theorem itsV_len : ∀ (m j : Nat), (itsV j m).length = m
 | 0, _ => rfl
 | m + 1, j => by rw [itsV, List.length_cons, itsV_len m]
theorem itsV_at : ∀ (m j i : Nat), i < m → (itsV j m)[i]? = some (itV (j + i))
 | m + 1, j, 0, _ => by rw [itsV]; rfl
 | m + 1, j, i + 1, h => by
  rw [itsV, List.getElem?_cons_succ, itsV_at m (j + 1) i (by omega)]
  rw [show j + 1 + i = j + (i + 1) by omega]
theorem repV_at (s : List Nat) : ∀ (m i : Nat) (x : List Nat), (repV s m)[i]? = some x → x = s ∧ i < m
 | 0, i, x, h => by cases h
 | m + 1, 0, x, h => by
  rw [repV] at h
  cases h
  exact ⟨rfl, Nat.succ_pos _⟩
 | m + 1, i + 1, x, h => by
  rw [repV, List.getElem?_cons_succ] at h
  obtain ⟨h1, h2⟩ := repV_at s m i x h
  exact ⟨h1, Nat.succ_lt_succ h2⟩
section
variable {ks : List Nat} (h11 : ∀ k ∈ ks, k < 11) (hl : ks.length ≤ 20)
include h11 hl
theorem alt_is {i k : Nat} (hk : ks[i]? = some k) : (txV ks.length).alt (fun i => ks.getD i 0) i = altV (nmB i) k := by
 have hi : i < ks.length := (List.getElem?_eq_some_iff.1 hk).1
 have h7 : k < 11 := h11 k (List.mem_of_getElem? hk)
 have e : (txV ks.length).its[i]? = some (itV i) := by
  have := itsV_at ks.length 0 i hi
  rwa [Nat.zero_add] at this
 have hg : ks.getD i 0 = k := by rw [List.getD, hk]; rfl
 have h3 := it_some i (by omega) k h7
 unfold Tx.alt
 rw [e]
 cases hl2 : itV i with
 | nil => rw [hl2] at h3; cases h3
 | cons p l =>
  rw [← alt_nm i (by omega) k h7, hl2]
  dsimp only
  rw [hg]
  cases (p :: l)[k]? <;> rfl
theorem from_is : ∀ (n j : Nat), j + n = ks.length → (txV ks.length).fromB (fun i => ks.getD i 0) j n = bodyV j (ks.drop j)
 | 0, j, h => by
  rw [List.drop_of_length_le (by omega)]
  rfl
 | n + 1, j, h => by
  have hj : j < ks.length := by omega
  have hk : ks[j]? = some ks[j] := List.getElem?_eq_getElem hj
  rw [Tx.fromB, from_is n (j + 1) (by omega), List.drop_eq_getElem_cons hj, bodyV, alt_is h11 hl hk]
  rfl
theorem txt_is : txtOf (txV ks.length) (fun i => ks.getD i 0) = bodyV 0 ks := by
 unfold txtOf
 have e1 : (txV ks.length).its.length = ks.length := itsV_len _ _
 rw [e1, from_is h11 hl ks.length 0 (by omega), List.drop_zero]
 rfl
end
def NmsOk (tx : Tx) (kap : Nat → Nat) : Nat → Nat → List BN → Prop
 | _, 0, L => L = []
 | j, n + 1, L => ∃ L', NmsOk tx kap (j + 1) n L' ∧ ((kap j < 8 ∧ ∃ a : Int, (tx.place kap j : Int) ≤ a ∧ a < (tx.place kap (j + 1) : Int) ∧ L = (vB j, a) :: L') ∨ (¬ kap j < 8 ∧ L = L'))
theorem nms_want {tx : Tx} {ks : List Nat} : ∀ (n j : Nat) (L : List BN), j + n = ks.length → NmsOk tx (fun i => ks.getD i 0) j n L → L.map (·.1) = wantV j (ks.drop j)
 | 0, j, L, h, hL => by
  subst hL
  rw [List.drop_of_length_le (by omega)]
  rfl
 | n + 1, j, L, h, ⟨L', h1, h2⟩ => by
  have hj : j < ks.length := by omega
  have hk : ks.getD j 0 = ks[j] := by rw [List.getD, List.getElem?_eq_getElem hj]; rfl
  have ih := nms_want n (j + 1) L' (by omega) h1
  rw [List.drop_eq_getElem_cons hj, wantV]
  rcases h2 with ⟨h8, a, -, -, rfl⟩ | ⟨h8, rfl⟩
  ·rw [← hk, if_pos h8, List.map_cons, ih]
   rfl
  ·rw [← hk, if_neg h8, List.nil_append, ih]
theorem place_mono (tx : Tx) (kap : Nat → Nat) (j : Nat) : tx.place kap j ≤ tx.place kap (j + 1) := by
 rw [Tx.place]; exact Nat.le_add_right _ _
theorem nms_low {tx : Tx} {kap : Nat → Nat} : ∀ (n j : Nat) (L : List BN), NmsOk tx kap j n L → ∀ x ∈ L, (tx.place kap j : Int) ≤ x.2
 | 0, j, L, hL, x, hx => by subst hL; cases hx
 | n + 1, j, L, ⟨L', h1, h2⟩, x, hx => by
  have ih := nms_low n (j + 1) L' h1
  have hm : (tx.place kap j : Int) ≤ (tx.place kap (j + 1) : Int) := by exact_mod_cast place_mono tx kap j
  rcases h2 with ⟨h8, a, ha, hb, rfl⟩ | ⟨h8, rfl⟩
  ·rcases List.mem_cons.1 hx with rfl | hx
   ·exact ha
   ·exact Int.le_trans hm (ih x hx)
  ·exact Int.le_trans hm (ih x hx)
theorem nms_inc {tx : Tx} {kap : Nat → Nat} : ∀ (n j : Nat) (L : List BN), NmsOk tx kap j n L → ∀ i x y, L[i]? = some x → L[i + 1]? = some y → x.2 < y.2
 | 0, j, L, hL, i, x, y, hx, hy => by subst hL; cases hx
 | n + 1, j, L, ⟨L', h1, h2⟩, i, x, y, hx, hy => by
  have ih := nms_inc n (j + 1) L' h1
  have hlow := nms_low n (j + 1) L' h1
  rcases h2 with ⟨h8, a, ha, hb, rfl⟩ | ⟨h8, rfl⟩
  ·cases i with
   | zero =>
    cases hx
    exact Int.lt_of_lt_of_le hb (hlow y (List.mem_of_getElem? hy))
   | succ i => exact ih i x y hx hy
  ·exact ih i x y hx hy
section
variable [Sig]
variable {P : Program} {W0 : Wb} {E : Env} {h : H} {w : World}
theorem inIt_ok {tx : Tx} (ht : TxOk tx) (hon : tx.on = true) {j k : Nat} (hk : Sig.kap j = k) {z : Int} (h : inIt tx j k z = true) : (tx.place Sig.kap j : Int) ≤ dec z ∧ dec z < (tx.place Sig.kap (j + 1) : Int) := by
 unfold inIt at h
 split at h
 ·rename_i i r a hp ha
  simp only [Bool.and_eq_true] at h
  obtain ⟨h1, h2, h3⟩ := h
  have h1 := Nat.eq_of_beq_eq_true h1
  subst h1
  have h2 := Nat.le_of_ble_eq_true h2
  have h3 : r < 32768 + a.1 := Nat.le_of_ble_eq_true h3
  obtain ⟨h4, -⟩ := plOf_val ht hon hp
  have h5 : (tx.alt Sig.kap i).length = a.1 := by rw [alt_len ha hk, bytesOf_length]
  rw [h4]
  unfold plV
  simp only
  rw [Tx.place, h5]
  omega
 ·cases h
theorem chkKs_at {j : Nat} {cs : List AV} {k : Nat} : ∀ {l : List Nat}, chkKs h j cs l = true → k ∈ l → chkI h j k cs = true
 | x :: l, hc, hk => by
  rw [chkKs] at hc
  split at hc
  ·rename_i hx
   rcases List.mem_cons.1 hk with rfl | hk
   ·exact hx
   ·exact chkKs_at hc hk
  ·cases hc
 | [], _, hk => by cases hk
theorem chkI_ok (S : HSim P W0 E h w) (hon : h.tx.on = true) {j k : Nat} (hj : j < 20) (hk : Sig.kap j = k) {cs : List AV} {rb o : Nat} (hrb : rb < w.heap.size) (hc : chkI h j k cs = true) (hC : CAt E w rb o cs) :
  ∃ (t : NT) (xs : List BN), LiesN w t rb o ∧ VarsOk t xs ∧ ((k < 8 ∧ ∃ a : Int, (h.tx.place Sig.kap j : Int) ≤ a ∧ a < (h.tx.place Sig.kap (j + 1) : Int) ∧ xs = [(vB j, a)]) ∨ (¬ k < 8 ∧ xs = [])) := by
 unfold chkI at hc
 split at hc
 ·rename_i t ht
  split at hc
  ·rename_i xs hxs
   refine ⟨ntOf t, _, absT_ok S hk 12 cs t rb o hrb ht hC, varsA_ok 12 t xs hxs, ?_⟩
   split at hc
   ·rename_i h8
    split at hc
    ·rename_i l c z
     rw [Bool.and_eq_true] at hc
     have e := eqP_eq hc.1
     obtain ⟨h1, h2⟩ := inIt_ok S.ho.2 hon hk hc.2
     refine .inl ⟨Nat.le_of_ble_eq_true h8, dec z, h1, h2, ?_⟩
     have e1 : l = (nmV j).1 := congrArg Prod.fst e
     have e2 : c = (nmV j).2 := congrArg Prod.snd e
     rw [← strB_nm j hj, ← e1, ← e2]
     rfl
    ·cases hc
   ·rename_i h8
    split at hc
    ·refine .inr ⟨fun hh => ?_, rfl⟩
     have : Nat.blt k 8 = true := Nat.ble_eq_true_of_le hh
     rw [this] at h8
     cases h8
    ·cases hc
  ·cases hc
 ·cases hc
theorem chkIs_ok (S : HSim P W0 E h w) (hon : h.tx.on = true) {rb o0 : Nat} (hrb : rb < w.heap.size) : ∀ (n j : Nat) (xs : List AV) (o : Nat), chkIs h n j xs = true → o = o0 + j * 5 → CAt E w rb o xs → j + n ≤ 20 → (∀ i, j ≤ i → i < j + n → Sig.kap i ∈ cV) →
  ∃ (nts : List NT) (L : List BN), nts.length = n ∧ LiesNL w nts (some ⟨rb, o0, none⟩) j ∧ PartsV nts L ∧ NmsOk h.tx Sig.kap j n L
 | 0, j, xs, o, _, _, _, _, _ => ⟨[], [], rfl, trivial, ⟨[], rfl, rfl, fun i x ys hx => by cases hx⟩, rfl⟩
 | n + 1, j, xs, o, hc, ho, hC, hj, hk => by
  rw [chkIs] at hc
  split at hc
  ·rename_i hx
   obtain ⟨t, ys, h1, h2, h3⟩ := chkI_ok (j := j) S hon (by omega) rfl hrb (chkKs_at hx (hk j (Nat.le_refl _) (by omega))) hC
   obtain ⟨nts, L, h4, h5, ⟨yss, h6, h7, h8⟩, h9⟩ := chkIs_ok (o0 := o0) S hon hrb n (j + 1) _ (o + 5) hc (by omega) hC.drop (by omega) (fun i hi1 hi2 => hk i (by omega) (by omega))
   refine ⟨t :: nts, ys ++ L, by rw [List.length_cons, h4], ⟨⟨rb, o0, rfl, by rw [← ho]; exact h1⟩, h5⟩, ⟨ys :: yss, by rw [List.length_cons, List.length_cons, h6], by rw [h7, List.flatten_cons], fun i x zs hx hzs => ?_⟩, ⟨L, h9, ?_⟩⟩
   ·cases i with
    | zero => cases hx; cases hzs; exact h2
    | succ i => exact h8 i x zs hx hzs
   ·rcases h3 with ⟨a1, a, a2, a3, rfl⟩ | ⟨a1, rfl⟩
    ·exact .inl ⟨a1, a, a2, a3, rfl⟩
    ·exact .inr ⟨a1, rfl⟩
  ·cases hc
end
mutual
theorem liesN_keeps {w w' : World} (hk : Keeps w w') : ∀ (t : NT) (b off : Nat), LiesN w t b off → LiesN w' t b off
 | .node k t f l, b, off, h => by
  rw [LiesN] at h ⊢
  obtain ⟨h0, h1, h2, ⟨a, cap, h3, h4, h5⟩, h6⟩ := h
  exact ⟨Nat.lt_of_lt_of_le h0 hk.size, (Keeps.cell' hk (p := ⟨b, off, none⟩) h0).trans h1, (Keeps.cell' hk (p := ⟨b, off + 1, none⟩) h0).trans h2, ⟨a, cap, (Keeps.cell' hk (p := ⟨b, off + 2, none⟩) h0).trans h3, h4, liesNL_keeps hk l a 0 h5⟩, (Keeps.cell' hk (p := ⟨b, off + 3, none⟩) h0).trans h6⟩
theorem liesNL_keeps {w w' : World} (hk : Keeps w w') : ∀ (l : List NT) (a : Option Addr) (i : Nat), LiesNL w l a i → LiesNL w' l a i
 | [], _, _, _ => trivial
 | t :: ts, a, i, h => by
  rw [LiesNL] at h ⊢
  obtain ⟨⟨b, off, e, h1⟩, h2⟩ := h
  exact ⟨⟨b, off, e, liesN_keeps hk t b _ h1⟩, liesNL_keeps hk ts a (i + 1) h2⟩
end
theorem chkV_inv {m : Nat} {o : OR} (hc : chkV m o = true) : ∃ (ks : AV) (l c : Nat) (f t : Int) (u : AV) (h1 : H), o = .val (.tuple [.agg [.int .i64 (.ofNat 86), .str l c, ks, .int .i64 f, .int .i64 t], u, .int .i64 (.ofNat 0), .int .i64 (.ofNat 0)]) h1 ∧
  ((∃ b off cap ex xs el tl ro, ks = .slice b off m cap ex ∧ h1.get b = some (.cells xs el tl ro) ∧ chkIs h1 m 0 (xs.drop off) = true) ∨ (ks = .nilslice ∧ m = 0)) := by
 unfold chkV at hc
 split at hc
 ·rename_i l c b off n cap ex f t u h1
  split at hc
  ·rename_i xs el tl ro hn hb
   have hn := Nat.eq_of_beq_eq_true hn
   subst hn
   exact ⟨_, l, c, f, t, u, h1, rfl, .inl ⟨b, off, cap, ex, xs, el, tl, ro, rfl, hb, hc⟩⟩
  ·cases hc
 ·rename_i l c f t u h1
  exact ⟨_, l, c, f, t, u, h1, rfl, .inr ⟨rfl, Nat.eq_of_beq_eq_true hc⟩⟩
 ·cases hc
theorem runV_inv {m : Nat} (h : runV m = true) : chkV m ((fns Tryz.prog orcV 3000).call 12 [.pre (endI (txV m)), .bool false] (hInitT tabs (txV m) [])) = true := by
 rw [runV, fnsF_eq] at h
 exact h
theorem tup_cv [Sig] {E : Env} {x y z q : AV} {u : Value} (hu : cv E (.tuple [x, y, z, q]) = some u) : ∃ a b c d, cv E x = some a ∧ cv E y = some b ∧ cv E z = some c ∧ cv E q = some d ∧ u = .tuple #[a, b, c, d] := by
 simp only [cv, cvL] at hu
 cases h1 : cv E x with
 | none => simp [h1] at hu
 | some a =>
  cases h2 : cv E y with
  | none => simp [h1, h2] at hu
  | some b =>
   cases h3 : cv E z with
   | none => simp [h1, h2, h3] at hu
   | some c =>
    cases h4 : cv E q with
    | none => simp [h1, h2, h3, h4] at hu
    | some d =>
     simp only [h1, h2, h3, h4, Option.some.injEq] at hu
     exact ⟨a, b, c, d, rfl, rfl, rfl, rfl, hu.symm⟩
theorem keeps_of_below {w w' : World} (h : Below w.heap.size w w') : Keeps w w' := ⟨h.os, h.output, h.size, h.block⟩
theorem progV_ok {ks : List Nat} (h11 : ∀ k ∈ ks, k < 11) (hl : ks.length ≤ 20) (hr : runV ks.length = true) {w : World} (htS : ∀ S : Sig, @TabsOk S w tabs) : ProgV w ⟨(bodyV 0 ks).toArray⟩ (wantV 0 ks) := by
 have hbl := bodyV_le ks 0
 letI S : Sig := sigT (txV ks.length) (fun i => ks.getD i 0) (symVal []) v00b
 have ht : TabsOk w tabs := htS S
 have hkap : ∀ i, i < ks.length → ks.getD i 0 ∈ cV := fun i hi => by
  have e : ks.getD i 0 = ks[i] := by rw [List.getD, List.getElem?_eq_getElem hi]; rfl
  have h7 := h11 _ (List.getElem_mem hi)
  rw [e]
  generalize ks[i] = k at h7
  have : ∀ k, k < 11 → k ∈ cV := by decide
  exact this k h7
 have hT : TxOk (txV ks.length) := sigT_ok _ _ _ v00b (by show (itsV 0 ks.length).length < 65536; rw [itsV_len]; omega) (fun i x hx => by
  obtain ⟨rfl, hi⟩ := repV_at cV _ _ _ hx
  exact hkap i hi) (by rw [txt_is h11 hl]; omega) (fun h => absurd rfl h)
 have etx : Sig.txt = ⟨(bodyV 0 ks).toArray⟩ := by
  show (⟨(txtOf (txV ks.length) (fun i => ks.getD i 0)).toArray⟩ : ByteArray) = _
  rw [txt_is h11 hl]
 obtain ⟨kv, lc, cc, ff, tt, uu, h1, hc, hcase⟩ := chkV_inv (runV_inv hr)
 have hcall := call_prog (orcV_ok S w ht.b) ht hT rfl (by show 0 < 32768; omega) hc
 rw [etx] at hcall
 refine hcall.mono fun e w1 he => ?_
 obtain ⟨E1, u1, rfl, S1, hv1, htx⟩ := he
 obtain ⟨a, b, c, d, q1, q2, q3, q4, rfl⟩ := tup_cv hv1
 refine ⟨S1.keeps, ?_⟩
 simp only [cv, Option.some.injEq] at q3 q4
 rw [dec_of (show symB (.ofNat 0) = false from rfl)] at q3 q4
 subst q3 q4
 have hon : h1.tx.on = true := by rw [htx]; rfl
 rcases hcase with ⟨bb, off, cap, ex, xs, el, tl, ro, rfl, hb, hchk⟩ | ⟨rfl, hm⟩
 ·cases he : E1 bb with
  | none => simp [cv, cvC, AV.one, he] at q1
  | some e =>
   simp only [cv, cvC, AV.one, he, Option.some.injEq] at q1
   rw [dec_of (show symB (.ofNat 86) = false from rfl)] at q1
   subst q1
   obtain ⟨hrb, hcat⟩ := blk_cat S1 he hb
   obtain ⟨nts, L, g1, g2, g3, g4⟩ := chkIs_ok S1 hon (o0 := e.ro + off) hrb ks.length 0 _ (e.ro + off) hchk (by omega) hcat.drop (by omega) (fun i _ hi => hkap i (by omega))
   rw [htx] at g4
   have hLn : L.length ≤ 20 := by
    have := nms_want (ks := ks) ks.length 0 L (by omega) g4
    have h2 := congrArg List.length this
    rw [List.length_map, List.drop_zero] at h2
    have h3 := wantV_len ks 0
    omega
   refine ⟨_, _, _, _, _, _, _, rfl, fun w2 hk2 => ?_⟩
   have hV := fun kcap => Vars_ok 0 w2 w2 nts L (some ⟨e.rb, e.ro + off, none⟩) kcap g3 (Below.refl _ _) (liesNL_keeps hk2 nts _ 0 g2) (by omega) (by omega)
   simp only [g1] at hV
   refine (callsIn_wide.1 (hV _)).mono fun e3 w3 he3 => ?_
   obtain ⟨v', rfl, ho, hb3⟩ := he3
   refine ⟨keeps_of_below hb3, v', L, rfl, ho, ?_, nms_inc ks.length 0 L g4⟩
   have := nms_want (ks := ks) ks.length 0 L (by omega) g4
   rwa [List.drop_zero] at this
 ·simp only [cv, cvC, AV.one, Option.some.injEq] at q1
  rw [dec_of (show symB (.ofNat 86) = false from rfl)] at q1
  subst q1
  refine ⟨_, _, _, _, _, _, _, rfl, fun w2 hk2 => ?_⟩
  have hV := Vars_ok 0 w2 w2 [] [] none 0 ⟨[], rfl, rfl, fun i x ys hx => by cases hx⟩ (Below.refl _ _) trivial (by simp) (by simp)
  refine (callsIn_wide.1 hV).mono fun e3 w3 he3 => ?_
  obtain ⟨v', rfl, ho, hb3⟩ := he3
  refine ⟨keeps_of_below hb3, v', [], rfl, ho, ?_, fun j x y hx => by cases hx⟩
  rw [List.length_eq_zero_iff.1 hm]
  rfl
end Go.Proofs.YtgpibpkplhlihaaGreatDoor
