/- What the look at the tree says of the tree that lies there in truth, then and later. No condition. · All answers of the law ScopePatterns are sound; what the closed runs over the texts say of the program itself. No condition. -/
import Derived.Test.YtgpibpkplhlihaaGreatDoorRpPt
import Derived.Test.YtgpibpkplhlihaaGreatDoorLawPt
import Derived.Test.YtgpibpkplhlihaaGreatDoorScopeP
import Derived.Test.YtgpibpkplhlihaaGreatDoorLeft
import Derived.Test.YtgpibpkplhlihaaGreatDoorDepthD
import Derived.Test.YtgpibpkplhlihaaGreatDoorVpR0
import Derived.Test.YtgpibpkplhlihaaGreatDoorVpR1
import Derived.Test.YtgpibpkplhlihaaGreatDoorVpR2
import Derived.Test.YtgpibpkplhlihaaGreatDoorVpR3
import Derived.Test.YtgpibpkplhlihaaGreatDoorVpR4
import Derived.Test.YtgpibpkplhlihaaGreatDoorVpR5
import Derived.Test.YtgpibpkplhlihaaGreatDoorVpR6
import Derived.Test.YtgpibpkplhlihaaGreatDoorVpR7
import Derived.Test.YtgpibpkplhlihaaGreatDoorVpR8
import Derived.Test.YtgpibpkplhlihaaGreatDoorVpR9
import Derived.Test.YtgpibpkplhlihaaGreatDoorVpR10
import Derived.Test.YtgpibpkplhlihaaGreatDoorVpR11
import Derived.Test.YtgpibpkplhlihaaGreatDoorVpR12
import Derived.Test.YtgpibpkplhlihaaGreatDoorVpR13
import Derived.Test.YtgpibpkplhlihaaGreatDoorVpR14
import Derived.Test.YtgpibpkplhlihaaGreatDoorVpR15
import Derived.Test.YtgpibpkplhlihaaGreatDoorVpR16
import Derived.Test.YtgpibpkplhlihaaGreatDoorVpR17
import Derived.Test.YtgpibpkplhlihaaGreatDoorVpR18
import Derived.Test.YtgpibpkplhlihaaGreatDoorVpR19
namespace Go.Proofs.YtgpibpkplhlihaaGreatDoor
open Go Go.RowKit Go.Proofs Go.Ev
set_option linter.unusedVariables false
set_option linter.unusedSectionVars false
set_option linter.unusedSimpArgs false
variable [Sig]
mutual
def ntOf : AT → NT
 | .node k l c z kids => .node k (strB l c) (dec z) (ntOfL kids)
def ntOfL : List AT → List NT
 | [] => []
 | t :: l => ntOf t :: ntOfL l
end
theorem ntOfL_len : ∀ l : List AT, (ntOfL l).length = l.length
 | [] => rfl
 | t :: l => by rw [ntOfL, List.length_cons, List.length_cons, ntOfL_len l]
variable {P : Program} {w0 : World} {E : Env} {h : H} {w v : World}
theorem After.refl (n : Nat) (w : World) : After n w w := ⟨Nat.le_refl _, fun _ _ _ => rfl⟩
def CAt (E : Env) (v : World) (rb o : Nat) (cs : List AV) : Prop := ∀ (i : Nat) (x : AV), cs[i]? = some x → ∃ u, cv E x = some u ∧ v.cell? ⟨rb, o + i, none⟩ = some u
theorem CAt.drop {rb o n : Nat} {cs : List AV} (H : CAt E v rb o cs) : CAt E v rb (o + n) (cs.drop n) := by
 intro i x hx
 rw [List.getElem?_drop] at hx
 have := H (n + i) x hx
 rwa [← Nat.add_assoc] at this
theorem blk_cat (S : HSim P w0 E h w) (hv : After w0.heap.size w v) {b : Nat} {e : Ev.Loc} {cs : List AV} {el : TypeId} {tl : Bool} (he : E b = some e) (hb : h.get b = some (.cells cs el tl false)) : w0.heap.size ≤ e.rb ∧ e.rb < w.heap.size ∧ CAt E v e.rb e.ro cs := by
 obtain ⟨o, ho, C, el', fz, rfl, -, -, hC, -⟩ := S.blk b e _ he hb
 have h1 : w0.heap.size ≤ e.rb := (S.own b e _ he hb rfl).elim id fun hm => absurd hm fun hm => hm
 have h2 : e.rb < w.heap.size := (Array.getElem?_eq_some_iff.1 ho).1
 refine ⟨h1, h2, fun i x hx => ?_⟩
 obtain ⟨-, u, h3, h4⟩ := hC _ _ hx
 exact ⟨u, h3, hv.cell h1 h2 (by simp only [World.cell?, ho]; exact h4)⟩
theorem slice_cv {b off n cap : Nat} {ex : Bool} {u : Value} (hu : cv E (.slice b off n cap ex) = some u) : ∃ e cp, E b = some e ∧ u = .slice (some ⟨e.rb, e.ro + off, none⟩) n cp := by
 simp only [cv] at hu
 split at hu
 ·rename_i e he
  cases hu
  exact ⟨e, _, he, rfl⟩
 ·cases hu
theorem absL_ok {g : List AV → Option AT} {rb : Nat} (hg : ∀ (xs : List AV) (t : AT) (o : Nat), g xs = some t → CAt E v rb o xs → LiesN v (ntOf t) rb o) : ∀ (n : Nat) (xs : List AV) (l : List AT) (o o0 i : Nat), absL g n xs = some l → o = o0 + i * 5 → CAt E v rb o xs → l.length = n ∧ LiesNL v (ntOfL l) (some ⟨rb, o0, none⟩) i
 | 0, xs, l, o, o0, i, hl, ho, H => by
  simp only [absL, Option.some.injEq] at hl
  subst hl
  exact ⟨rfl, trivial⟩
 | n + 1, xs, l, o, o0, i, hl, ho, H => by
  simp only [absL] at hl
  split at hl
  ·rename_i t l' ht hr
   cases hl
   obtain ⟨h1, h2⟩ := absL_ok hg n _ l' (o + 5) o0 (i + 1) hr (by omega) H.drop
   refine ⟨by rw [List.length_cons, h1], ?_⟩
   rw [ntOfL, LiesNL]
   exact ⟨⟨rb, o0, rfl, by rw [← ho]; exact hg xs t o ht H⟩, h2⟩
  ·cases hl
theorem absT_ok (S : HSim P w0 E h w) (hv : After w0.heap.size w v) {j k : Nat} (hk : Sig.kap j = k) : ∀ (f : Nat) (cs : List AV) (t : AT) (rb o : Nat), rb < v.heap.size → absT h j k f cs = some t → CAt E v rb o cs → LiesN v (ntOf t) rb o
 | 0, cs, t, rb, o, hrb, ht, H => by simp only [absT] at ht; cases ht
 | f + 1, cs, t, rb, o, hrb, ht, H => by
  have hA : AsmOk [(j, k)] := by
   intro p hp
   rw [List.mem_singleton] at hp
   subst hp
   exact hk
  simp only [absT] at ht
  split at ht
  ·rename_i a b c d l
   obtain ⟨u0, a0, b0⟩ := H 0 a rfl
   obtain ⟨u1, a1, b1⟩ := H 1 b rfl
   obtain ⟨u2, a2, b2⟩ := H 2 c rfl
   obtain ⟨u3, a3, b3⟩ := H 3 d rfl
   have a0 := resV_cv hA a0
   have a1 := resV_cv hA a1
   have a2 := resV_cv hA a2
   have a3 := resV_cv hA a3
   split at ht
   ·rename_i kd l2 cd z e0 e1 e3
    rw [e0] at a0
    rw [e1] at a1
    rw [e3] at a3
    split at ht
    ·rename_i hkd
     have hs : symB (.ofNat kd) = false := rfl
     simp only [cv, Option.some.injEq] at a0 a1 a3
     rw [dec_of hs] at a0
     subst a0 a1 a3
     split at ht
     ·cases ht
      rw [‹resV [(j, k)] c = _›] at a2
      simp only [cv, Option.some.injEq] at a2
      subst a2
      rw [ntOf, LiesN]
      exact ⟨hrb, b0, b1, ⟨none, 0, b2, Nat.zero_le _, trivial⟩, b3⟩
     ·rename_i bl off n cap ex e2
      rw [e2] at a2
      obtain ⟨e, cp, he, rfl⟩ := slice_cv a2
      split at ht
      ·rename_i xs el tl hb hn
       obtain ⟨-, h1, h2⟩ := blk_cat S hv he hb
       split at ht
       ·rename_i kids hkids
        cases ht
        obtain ⟨h3, h4⟩ := absL_ok (rb := e.rb) (fun xs t o hx hc => absT_ok S hv hk f xs t e.rb o (Nat.lt_of_lt_of_le h1 hv.size) hx hc) n _ kids (e.ro + off) (e.ro + off) 0 hkids (by omega) h2.drop
        have h5 := Nat.le_of_ble_eq_true hn
        rw [ntOf, LiesN]
        refine ⟨hrb, b0, b1, ⟨_, cp, ?_, by rw [ntOfL_len]; omega, h4⟩, b3⟩
        rw [ntOfL_len, h3]
        exact b2
       ·cases ht
      ·cases ht
     ·cases ht
    ·cases ht
   ·cases ht
  ·cases ht
def nmOf (x : NmA) : BN := (strB x.1.1 x.1.2, dec x.2)
theorem catO_parts {g : AT → Option (List NmA)} (hg : ∀ t xs, g t = some xs → NamesOk (ntOf t) (xs.map nmOf)) : ∀ (l : List AT) (xs : List NmA), catO g l = some xs → PartsN (ntOfL l) (xs.map nmOf)
 | [], xs, h => by
  simp only [catO, Option.some.injEq] at h
  subst h
  exact ⟨[], rfl, rfl, fun i x ys hx => by cases hx⟩
 | t :: l, xs, h => by
  simp only [catO] at h
  split at h
  ·rename_i a b ha hb
   cases h
   obtain ⟨yss, h1, h2, h3⟩ := catO_parts hg l b hb
   refine ⟨a.map nmOf :: yss, by rw [ntOfL, List.length_cons, List.length_cons, h1], by rw [List.map_append, h2, List.flatten_cons], fun i x ys hx hys => ?_⟩
   cases i with
   | zero =>
    rw [ntOfL] at hx
    cases hx
    cases hys
    exact hg t a ha
   | succ i =>
    rw [ntOfL] at hx
    exact h3 i x ys hx hys
  ·cases h
theorem lastA_ok : ∀ (l : List AT) (t : AT), lastA l = some t → ∃ kl, ntOfL l = kl ++ [ntOf t]
 | [], t, h => by simp only [lastA] at h; cases h
 | x :: l, t, h => by
  simp only [lastA] at h
  split at h
  ·cases h
   exact ⟨[], rfl⟩
  ·rename_i y l'
   obtain ⟨kl, hkl⟩ := lastA_ok _ t h
   exact ⟨ntOf x :: kl, by rw [ntOfL, hkl, List.cons_append]⟩
theorem bindsA_ok : ∀ (f : Nat) (t : AT) (xs : List NmA), bindsA f t = some xs → NamesOk (ntOf t) (xs.map nmOf)
 | 0, t, xs, h => by simp only [bindsA] at h; cases h
 | f + 1, .node kd l c z kids, xs, h => by
  simp only [bindsA] at h
  rw [ntOf]
  split at h
  ·rename_i hk
   have hk := Nat.eq_of_beq_eq_true hk
   subst hk
   cases h
   exact names_ident _ _ _
  ·split at h
   ·rename_i hk
    have hk := Nat.eq_of_beq_eq_true hk
    subst hk
    cases h
    exact names_hole _ _ _
   ·split at h
    ·rename_i hm
     have hp := catO_parts (fun t xs ht => bindsA_ok f t xs ht) kids xs h
     have hm := memN_iff.1 hm
     simp only [List.mem_cons, List.not_mem_nil, or_false] at hm
     rcases hm with rfl | rfl | rfl
     ·exact names_many42 _ _ _ _ hp
     ·exact names_many43 _ _ _ _ hp
     ·exact names_many46 _ _ _ _ hp
    ·split at h
     ·rename_i hk
      have hk := Nat.eq_of_beq_eq_true hk
      subst hk
      split at h
      ·rename_i t l2
       rw [ntOfL]
       exact names_first45 _ _ _ _ _ (bindsA_ok f t xs h)
      ·cases h
     ·split at h
      ·rename_i hk
       have hk := Nat.eq_of_beq_eq_true hk
       subst hk
       split at h
       ·rename_i t ht
        obtain ⟨kl, hkl⟩ := lastA_ok kids t ht
        rw [hkl]
        exact names_last _ _ _ _ _ (bindsA_ok f t xs h)
       ·cases h
      ·cases h
theorem kidsA_ok (S : HSim P w0 E h w) (hv : After w0.heap.size w v) {cs xs : List AV} {kd n : Nat} {p : Nat × Nat} {z : Int} {rb o : Nat} (hc : kidsA h cs = some (kd, p, z, n, xs)) (H : CAt E v rb o cs) :
  ∃ (kb ko cap : Nat) (to : Int), v.cell? ⟨rb, o, none⟩ = some (.int .i64 (kd : Int)) ∧ v.cell? ⟨rb, o + 1, none⟩ = some (.string (strB p.1 p.2)) ∧ v.cell? ⟨rb, o + 2, none⟩ = some (.slice (some ⟨kb, ko, none⟩) n cap) ∧ n ≤ 1000 ∧
   v.cell? ⟨rb, o + 3, none⟩ = some (.int .i64 (dec z)) ∧ v.cell? ⟨rb, o + 4, none⟩ = some (.int .i64 to) ∧ kb < v.heap.size ∧ CAt E v kb ko xs := by
 unfold kidsA at hc
 split at hc
 ·rename_i kd' l c b off n' cap ex z' z4 rest
  split at hc
  ·rename_i ys el tl hkd hn hb
   cases hc
   obtain ⟨u0, a0, b0⟩ := H 0 _ rfl
   obtain ⟨u1, a1, b1⟩ := H 1 _ rfl
   obtain ⟨u2, a2, b2⟩ := H 2 _ rfl
   obtain ⟨u3, a3, b3⟩ := H 3 _ rfl
   obtain ⟨u4, a4, b4⟩ := H 4 _ rfl
   have hs : symB (.ofNat kd) = false := rfl
   simp only [cv, Option.some.injEq] at a0 a1 a3 a4
   rw [dec_of hs] at a0
   subst a0 a1 a3 a4
   obtain ⟨e, cp, he, rfl⟩ := slice_cv a2
   obtain ⟨-, h1, h2⟩ := blk_cat S hv he hb
   exact ⟨e.rb, e.ro + off, cp, _, b0, b1, b2, Nat.le_of_ble_eq_true hn, b3, b4, Nat.lt_of_lt_of_le h1 hv.size, h2.drop⟩
  ·cases hc
 ·cases hc
end Go.Proofs.YtgpibpkplhlihaaGreatDoor
namespace Go.Proofs.YtgpibpkplhlihaaGreatDoor
open Go Go.RowKit Go.Proofs Go.Ev
set_option linter.unusedVariables false
set_option linter.unusedSectionVars false
set_option linter.unusedSimpArgs false
theorem lexRuns : ∀ j, j < 20 → okJ 44 (atV lexV j) = true
 | 0, _ => lexRun0
 | 1, _ => lexRun1
 | 2, _ => lexRun2
 | 3, _ => lexRun3
 | 4, _ => lexRun4
 | 5, _ => lexRun5
 | 6, _ => lexRun6
 | 7, _ => lexRun7
 | 8, _ => lexRun8
 | 9, _ => lexRun9
 | 10, _ => lexRun10
 | 11, _ => lexRun11
 | 12, _ => lexRun12
 | 13, _ => lexRun13
 | 14, _ => lexRun14
 | 15, _ => lexRun15
 | 16, _ => lexRun16
 | 17, _ => lexRun17
 | 18, _ => lexRun18
 | 19, _ => lexRun19
 | j + 20, h => by omega
theorem lexAll : ∀ j, j < 20 → ∀ k, ∀ T ∈ atK2 lexK j k, TqOk Tryz.prog orcA tabs 3000 44 T := fun j hj k T hT => okJ_mem (lexRuns j hj) T (lexK_mem _ _ _ T k hT)
theorem bindingRuns : ∀ j, j < 20 → okJ 162 (atV bindingV j) = true
 | 0, _ => bindingRun0
 | 1, _ => bindingRun1
 | 2, _ => bindingRun2
 | 3, _ => bindingRun3
 | 4, _ => bindingRun4
 | 5, _ => bindingRun5
 | 6, _ => bindingRun6
 | 7, _ => bindingRun7
 | 8, _ => bindingRun8
 | 9, _ => bindingRun9
 | 10, _ => bindingRun10
 | 11, _ => bindingRun11
 | 12, _ => bindingRun12
 | 13, _ => bindingRun13
 | 14, _ => bindingRun14
 | 15, _ => bindingRun15
 | 16, _ => bindingRun16
 | 17, _ => bindingRun17
 | 18, _ => bindingRun18
 | 19, _ => bindingRun19
 | j + 20, h => by omega
theorem bindingAll : ∀ j, j < 20 → ∀ k, ∀ T ∈ atK2 bindingK j k, TqOk Tryz.prog orcA tabs 3000 162 T := fun j hj k T hT => okJ_mem (bindingRuns j hj) T (bindingK_mem _ _ _ T k hT)
theorem isRuns : ∀ j, j < 20 → okJ 41 (atV isV j) = true
 | 0, _ => isRun0
 | 1, _ => isRun1
 | 2, _ => isRun2
 | 3, _ => isRun3
 | 4, _ => isRun4
 | 5, _ => isRun5
 | 6, _ => isRun6
 | 7, _ => isRun7
 | 8, _ => isRun8
 | 9, _ => isRun9
 | 10, _ => isRun10
 | 11, _ => isRun11
 | 12, _ => isRun12
 | 13, _ => isRun13
 | 14, _ => isRun14
 | 15, _ => isRun15
 | 16, _ => isRun16
 | 17, _ => isRun17
 | 18, _ => isRun18
 | 19, _ => isRun19
 | j + 20, h => by omega
theorem isAll : ∀ j, j < 20 → ∀ k, ∀ T ∈ atK2 isK j k, TqOk Tryz.prog orcA tabs 3000 41 T := fun j hj k T hT => okJ_mem (isRuns j hj) T (isK_mem _ _ _ T k hT)
theorem defaultedRuns : ∀ j, j < 20 → okJ 206 (atV defaultedV j) = true
 | 0, _ => defaultedRun0
 | 1, _ => defaultedRun1
 | 2, _ => defaultedRun2
 | 3, _ => defaultedRun3
 | 4, _ => defaultedRun4
 | 5, _ => defaultedRun5
 | 6, _ => defaultedRun6
 | 7, _ => defaultedRun7
 | 8, _ => defaultedRun8
 | 9, _ => defaultedRun9
 | 10, _ => defaultedRun10
 | 11, _ => defaultedRun11
 | 12, _ => defaultedRun12
 | 13, _ => defaultedRun13
 | 14, _ => defaultedRun14
 | 15, _ => defaultedRun15
 | 16, _ => defaultedRun16
 | 17, _ => defaultedRun17
 | 18, _ => defaultedRun18
 | 19, _ => defaultedRun19
 | j + 20, h => by omega
theorem defaultedAll : ∀ j, j < 20 → ∀ k, ∀ T ∈ atK2 defaultedK j k, TqOk Tryz.prog orcA tabs 3000 206 T := fun j hj k T hT => okJ_mem (defaultedRuns j hj) T (defaultedK_mem _ _ _ T k hT)
theorem orcV_ok (S : Sig) (W : Wb) : @TabsB S W tabs → @OrcOk S Tryz.prog W orcV := by
 refine @orcOf3_ok S Tryz.prog tabs anssI [(43, hpT)] [(44, tmJ jPlace (atK2 lexK)), (162, tmJ jLast (atK2 bindingK)), (41, tmJ jLast (atK2 isK)), (206, tmJ jLast (atK2 defaultedK)), (36, leftM), (37, depthM), (40, tokM 5), (59, tokM 1), (22, peekM)] anssI_ok ?_ ?_ W
 ·intro p hp
  rw [List.mem_singleton] at hp
  subst hp
  exact hp_ok
 ·intro p hp
  simp only [List.mem_cons, List.mem_nil_iff, or_false] at hp
  rcases hp with rfl | rfl | rfl | rfl | rfl | rfl | rfl | rfl | rfl
  ·exact tmJ_ok (by kernel_rfl) lexAll
  ·exact tmJ_ok (by kernel_rfl) bindingAll
  ·exact tmJ_ok (by kernel_rfl) isAll
  ·exact tmJ_ok (by kernel_rfl) defaultedAll
  ·exact leftM_ok (by kernel_rfl) left_any
  ·exact depthM_ok (by kernel_rfl) depth_any
  ·exact tokM_ok (by kernel_rfl) punct_calls
  ·exact tokM_ok (by kernel_rfl) name_calls
  ·exact peekM_ok
theorem v00b : ValOk (symVal []) := symVal_ok fun s h => by cases h
theorem isEnd_self (tx : Tx) (h : tx.tail.1 < 32768) : isEnd tx (endI tx) = true := by
 unfold isEnd
 rw [Bool.and_eq_true]
 refine ⟨Nat.ble_eq_true_of_le h, ?_⟩
 generalize endI tx = z
 cases z with
 | ofNat a => exact Nat.beq_refl a
 | negSucc a => exact Nat.beq_refl a
theorem pre_some [Sig] {z : Int} (hd : dec z = (Sig.txt.size : Int)) : ∃ u, cv E00 (.pre z) = some u := by
 simp only [cv]
 rw [hd, if_pos ⟨Int.natCast_nonneg _, Int.le_refl _⟩]
 exact ⟨_, rfl⟩
theorem cv_bool [Sig] (b : Bool) : cv E00 (.bool b) = some (.bool b) := by simp only [cv]
theorem args_z [Sig] {z : Int} {u : Value} (hu : cv E00 (.pre z) = some u) : cvL E00 [.pre z, .bool false] = some [u, .bool false] := by
 simp only [cvL]
 rw [hu, cv_bool]
theorem pre_cv [Sig] {tx : Tx} (hT : TxOk tx) (hon : tx.on = true) (h : tx.tail.1 < 32768) : cv E00 (.pre (endI tx)) = some (.string Sig.txt) := by
 obtain ⟨u, hu⟩ := pre_some (end_val hT hon h)
 rw [← pre_val hT hon (isEnd_self tx h) hu]
 exact hu
theorem call_prog [Sig] {w : World} {O : Orc} (hO : OrcOk Tryz.prog w O) (ht : TabsOk w tabs) {tx : Tx} (hT : TxOk tx) (hon : tx.on = true) (htl : tx.tail.1 < 32768) {v : AV} {h1 : H}
  (hc : (fns Tryz.prog O 3000).call 12 [.pre (endI tx), .bool false] (hInitT tabs tx []) = .val v h1) :
  Calls Tryz.prog 12 #[.string Sig.txt, .bool false] w fun e w1 => ∃ E1 u, e = .returned u ∧ HSim Tryz.prog w E1 h1 w1 ∧ cv E1 v = some u ∧ h1.tx = tx := by
 have hR := fns_ok progOk hO 3000
 have ho : Outs ((fns Tryz.prog O 3000).call 12 [.pre (endI tx), .bool false] (hInitT tabs tx [])) := by rw [hc]; trivial
 have hargs := args_z (pre_cv hT hon htl)
 obtain ⟨-, h2⟩ := hR.call E00 (hInitT tabs tx []) w 12 [.pre (endI tx), .bool false] _ (start_simT ht (fun p hp => by cases hp) hT) hargs ho
 have hfr : FrO (hInitT tabs tx []) ((fns Tryz.prog O 3000).call 12 [.pre (endI tx), .bool false] (hInitT tabs tx [])) := (fns_fr Tryz.prog O 3000).call _ _ _
 rw [hc] at hfr
 have htx : h1.tx = tx := hfr.tx
 rw [callsIn_wide] at h2
 refine h2.mono fun e w1 he => ?_
 rw [hc] at he
 obtain ⟨E1, u1, rfl, -, S1, hv1⟩ := he
 exact ⟨E1, u1, rfl, S1, hv1, htx⟩
theorem alt_nm : ∀ j, j < 20 → ∀ k, k < 7 → (match (itV j)[k]? with | some p => bytesOf p.1 p.2 | none => []) = altPt (nmB j) k := by decide +kernel
theorem it_some : ∀ j, j < 20 → ∀ k, k < 7 → ((itV j)[k]?).isSome = true := by decide +kernel
theorem want_is : ∀ j, j < 20 → ∀ k, k < 7 → (wantA j k).map (fun p => strB p.1 p.2) = wantI j k := by decide +kernel
theorem itsV_len : ∀ (m j : Nat), (itsV j m).length = m
 | 0, _ => rfl
 | m + 1, j => by rw [itsV, List.length_cons, itsV_len m]
theorem itsV_at : ∀ (m j i : Nat), i < m → (itsV j m)[i]? = some (itV (j + i))
 | m + 1, j, 0, _ => by rw [itsV]; rfl
 | m + 1, j, i + 1, h => by
  rw [itsV, List.getElem?_cons_succ, itsV_at m (j + 1) i (by omega)]
  rw [show j + 1 + i = j + (i + 1) by omega]
theorem repV_at (s : List Nat) : ∀ (m i : Nat) (x : List Nat), (repV s m)[i]? = some x → x = s ∧ i < m
 | 0, i, x, h => by cases h
 | m + 1, 0, x, h => by
  rw [repV] at h
  cases h
  exact ⟨rfl, Nat.succ_pos _⟩
 | m + 1, i + 1, x, h => by
  rw [repV, List.getElem?_cons_succ] at h
  obtain ⟨h1, h2⟩ := repV_at s m i x h
  exact ⟨h1, Nat.succ_lt_succ h2⟩
section
variable {ks : List Nat} (h11 : ∀ k ∈ ks, k < 7) (hl : ks.length ≤ 20)
include h11 hl
theorem alt_is {i k : Nat} (hk : ks[i]? = some k) : (txV ks.length).alt (fun i => ks.getD i 0) i = altPt (nmB i) k := by
 have hi : i < ks.length := (List.getElem?_eq_some_iff.1 hk).1
 have h7 : k < 7 := h11 k (List.mem_of_getElem? hk)
 have e : (txV ks.length).its[i]? = some (itV i) := by
  have := itsV_at ks.length 0 i hi
  rwa [Nat.zero_add] at this
 have hg : ks.getD i 0 = k := by rw [List.getD, hk]; rfl
 have h3 := it_some i (by omega) k h7
 unfold Tx.alt
 rw [e]
 cases hl2 : itV i with
 | nil => rw [hl2] at h3; cases h3
 | cons p l =>
  rw [← alt_nm i (by omega) k h7, hl2]
  dsimp only
  rw [hg]
  cases (p :: l)[k]? <;> rfl
theorem from_is : ∀ (n j : Nat), j + n = ks.length → (txV ks.length).fromB (fun i => ks.getD i 0) j n = bodyP j (ks.drop j) ++ [46, 46, 46, 122, 93, 32, 61, 32, 121]
 | 0, j, h => by
  rw [List.drop_of_length_le (by omega), Tx.fromB, bodyP, List.nil_append]
  show bytesOf 9 2234379081487502683694 = _
  decide +kernel
 | n + 1, j, h => by
  have hj : j < ks.length := by omega
  have hk : ks[j]? = some ks[j] := List.getElem?_eq_getElem hj
  rw [Tx.fromB, from_is n (j + 1) (by omega), List.drop_eq_getElem_cons hj, bodyP, alt_is h11 hl hk, List.append_assoc]
  rfl
theorem txt_is : txtOf (txV ks.length) (fun i => ks.getD i 0) = [108, 101, 116, 32, 91] ++ bodyP 0 ks ++ [46, 46, 46, 122, 93, 32, 61, 32, 121] := by
 unfold txtOf
 have e1 : (txV ks.length).its.length = ks.length := itsV_len _ _
 have e2 : bytesOf (txV ks.length).head.1 (txV ks.length).head.2 = [108, 101, 116, 32, 91] := by
  show bytesOf 5 391386522988 = _
  decide +kernel
 rw [e1, e2, from_is h11 hl ks.length 0 (by omega), List.drop_zero, List.append_assoc]
end
def IncIn : Int → Int → List BN → Prop
 | _, _, [] => True
 | lo, hi, x :: l => lo ≤ x.2 ∧ x.2 < hi ∧ IncIn (x.2 + 1) hi l
def IncF : Int → List BN → Prop
 | _, [] => True
 | lo, x :: l => lo ≤ x.2 ∧ IncF (x.2 + 1) l
theorem incF_mono {lo lo' : Int} (h : lo' ≤ lo) : ∀ {L : List BN}, IncF lo L → IncF lo' L
 | [], _ => trivial
 | x :: l, hL => ⟨Int.le_trans h hL.1, hL.2⟩
theorem incF_app : ∀ (pre : List BN) (lo hi : Int) (L : List BN), IncIn lo hi pre → lo ≤ hi → IncF hi L → IncF lo (pre ++ L)
 | [], lo, hi, L, _, h, hL => incF_mono h hL
 | x :: l, lo, hi, L, ⟨h1, h2, h3⟩, h, hL => ⟨h1, incF_app l (x.2 + 1) hi L h3 (by omega) hL⟩
theorem incF_lt : ∀ (L : List BN) (lo : Int), IncF lo L → ∀ i x y, L[i]? = some x → L[i + 1]? = some y → x.2 < y.2
 | [], lo, _, i, x, y, hx, _ => by cases hx
 | a :: l, lo, ⟨h1, h2⟩, 0, x, y, hx, hy => by
  cases hx
  match l, h2, hy with
  | b :: l', h2, hy =>
   cases hy
   have := h2.1
   omega
  | [], _, hy => cases hy
 | a :: l, lo, ⟨h1, h2⟩, i + 1, x, y, hx, hy => incF_lt l _ h2 i x y hx hy
def NmsP (tx : Tx) (kap : Nat → Nat) : Nat → Nat → List BN → Prop
 | j, 0, L => ∃ a : Int, (tx.place kap j : Int) ≤ a ∧ L = [(⟨#[122]⟩, a)]
 | j, n + 1, L => ∃ pre L', L = pre ++ L' ∧ pre.map (·.1) = wantI j (kap j) ∧ IncIn (tx.place kap j) (tx.place kap (j + 1)) pre ∧ NmsP tx kap (j + 1) n L'
theorem nms_want {tx : Tx} {ks : List Nat} : ∀ (n j : Nat) (L : List BN), j + n = ks.length → NmsP tx (fun i => ks.getD i 0) j n L → L.map (·.1) = wantP j (ks.drop j) ++ [⟨#[122]⟩]
 | 0, j, L, h, hL => by
  obtain ⟨a, -, rfl⟩ := hL
  rw [List.drop_of_length_le (by omega)]
  rfl
 | n + 1, j, L, h, hL => by
  obtain ⟨pre, L', rfl, h1, -, h2⟩ := hL
  have hj : j < ks.length := by omega
  have hk : ks.getD j 0 = ks[j] := by rw [List.getD, List.getElem?_eq_getElem hj]; rfl
  have ih := nms_want n (j + 1) L' (by omega) h2
  rw [List.drop_eq_getElem_cons hj, wantP, List.map_append, h1, ih]
  show wantI j (ks.getD j 0) ++ _ = _
  rw [hk, List.append_assoc]
theorem place_mono (tx : Tx) (kap : Nat → Nat) (j : Nat) : tx.place kap j ≤ tx.place kap (j + 1) := by
 rw [Tx.place]; exact Nat.le_add_right _ _
theorem nms_inc {tx : Tx} {kap : Nat → Nat} : ∀ (n j : Nat) (L : List BN), NmsP tx kap j n L → IncF (tx.place kap j) L
 | 0, j, L, hL => by
  obtain ⟨a, h1, rfl⟩ := hL
  exact ⟨h1, trivial⟩
 | n + 1, j, L, hL => by
  obtain ⟨pre, L', rfl, -, h1, h2⟩ := hL
  exact incF_app pre _ _ L' h1 (by exact_mod_cast place_mono tx kap j) (nms_inc n (j + 1) L' h2)
section
variable [Sig]
variable {P : Program} {w0 : World} {E : Env} {h : H} {w v : World}
theorem chkN_ok {tx : Tx} (ht : TxOk tx) (hon : tx.on = true) {j k : Nat} (hk : Sig.kap j = k) : ∀ (xs : List NmA) (lo : Nat) (ps : List (Nat × Nat)), chkN tx j k lo xs ps = true →
  (xs.map nmOf).map (·.1) = ps.map (fun p => strB p.1 p.2) ∧ IncIn ((tx.place Sig.kap j : Int) + lo - 32768) (tx.place Sig.kap (j + 1)) (xs.map nmOf)
 | [], lo, ps, h => by
  simp only [chkN] at h
  split at h
  ·exact ⟨rfl, trivial⟩
  ·cases h
 | ((l, c), z) :: xs, lo, ps, h => by
  simp only [chkN] at h
  split at h
  ·rename_i p ps i r a hp ha
   split at h
   ·rename_i hc
    rw [Bool.and_eq_true, Bool.and_eq_true, Bool.and_eq_true] at hc
    obtain ⟨e1, e2, e3, e4⟩ := hc
    have e1 := eqP_eq e1
    have e2 := Nat.eq_of_beq_eq_true e2
    subst e2
    have e3 := Nat.le_of_ble_eq_true e3
    have e4 : r < 32768 + a.1 := Nat.le_of_ble_eq_true e4
    obtain ⟨h4, -⟩ := plOf_val ht hon hp
    have h5 : (tx.alt Sig.kap i).length = a.1 := by rw [alt_len ha hk, bytesOf_length]
    obtain ⟨ih1, ih2⟩ := chkN_ok ht hon hk xs (Nat.succ r) ps h
    have h6 : dec z = (tx.place Sig.kap i : Int) + r - 32768 := h4
    have h7 : (tx.place Sig.kap (i + 1) : Int) = (tx.place Sig.kap i : Int) + (a.1 + tx.sep.1 : Nat) := by
     rw [Tx.place, h5]
     push_cast
     rfl
    refine ⟨?_, ?_, ?_, ?_⟩
    ·rw [List.map_cons, List.map_cons, List.map_cons, ih1, ← e1]
     rfl
    ·show _ ≤ dec z
     omega
    ·show dec z < _
     omega
    ·show IncIn (dec z + 1) _ _
     have e : (tx.place Sig.kap i : Int) + (Nat.succ r : Nat) - 32768 = dec z + 1 := by omega
     rw [e] at ih2
     exact ih2
   ·cases h
  ·cases h
theorem chkKs_at {j : Nat} {cs : List AV} {k : Nat} : ∀ {l : List Nat}, chkKs h j cs l = true → k ∈ l → chkI h j k cs = true
 | x :: l, hc, hk => by
  rw [chkKs] at hc
  split at hc
  ·rename_i hx
   rcases List.mem_cons.1 hk with rfl | hk
   ·exact hx
   ·exact chkKs_at hc hk
  ·cases hc
 | [], _, hk => by cases hk
theorem chkI_ok (S : HSim P w0 E h w) (hv : After w0.heap.size w v) (hon : h.tx.on = true) {j k : Nat} (hj : j < 20) (hk : Sig.kap j = k) (hk7 : k < 7) {cs : List AV} {rb o : Nat} (hrb : rb < v.heap.size) (hc : chkI h j k cs = true) (hC : CAt E v rb o cs) :
  ∃ (t : NT) (xs : List BN), LiesN v t rb o ∧ NamesOk t xs ∧ xs.map (·.1) = wantI j k ∧ IncIn (h.tx.place Sig.kap j) (h.tx.place Sig.kap (j + 1)) xs := by
 unfold chkI at hc
 split at hc
 ·rename_i t ht
  split at hc
  ·rename_i xs hxs
   obtain ⟨h1, h2⟩ := chkN_ok S.ho.2 hon hk xs 32768 _ hc
   refine ⟨ntOf t, _, absT_ok S hv hk 12 cs t rb o hrb ht hC, bindsA_ok 12 t xs hxs, h1.trans (want_is j hj k hk7), ?_⟩
   have e : (h.tx.place Sig.kap j : Int) + (32768 : Nat) - 32768 = (h.tx.place Sig.kap j : Int) := by omega
   rw [e] at h2
   exact h2
  ·cases hc
 ·cases hc
theorem chkZ_ok (S : HSim P w0 E h w) (hv : After w0.heap.size w v) (hon : h.tx.on = true) {m : Nat} (hk : Sig.kap m = 0) {cs : List AV} {rb o : Nat} (hrb : rb < v.heap.size) (hc : chkZ h m cs = true) (hC : CAt E v rb o cs) :
  ∃ (t : NT) (a : Int), LiesN v t rb o ∧ NamesOk t [(⟨#[122]⟩, a)] ∧ (h.tx.place Sig.kap m : Int) ≤ a := by
 unfold chkZ at hc
 split at hc
 ·rename_i t ht
  split at hc
  ·rename_i p z hxs
   split at hc
   ·rename_i i r hp
    rw [Bool.and_eq_true, Bool.and_eq_true] at hc
    obtain ⟨e1, e2, e3⟩ := hc
    have e1 := eqP_eq e1
    have e2 := Nat.eq_of_beq_eq_true e2
    subst e2
    have e3 := Nat.le_of_ble_eq_true e3
    obtain ⟨h4, -⟩ := plOf_val S.ho.2 hon hp
    have h6 : dec z = (h.tx.place Sig.kap i : Int) + r - 32768 := h4
    refine ⟨ntOf t, dec z, absT_ok S hv hk 12 cs t rb o hrb ht hC, ?_, by omega⟩
    have hn := bindsA_ok 12 t _ hxs
    rw [e1] at hn
    have e : strB 1 122 = ⟨#[122]⟩ := by decide +kernel
    simp only [List.map_cons, List.map_nil, nmOf, e] at hn
    exact hn
   ·cases hc
  ·cases hc
 ·cases hc
theorem chkIs_ok (S : HSim P w0 E h w) (hv : After w0.heap.size w v) (hon : h.tx.on = true) {rb o0 : Nat} (hrb : rb < v.heap.size) : ∀ (n j : Nat) (xs : List AV) (o : Nat), chkIs h n j xs = true → o = o0 + j * 5 → CAt E v rb o xs → j + n ≤ 20 → (∀ i, j ≤ i → i < j + n → Sig.kap i ∈ cV) → Sig.kap (j + n) = 0 →
  ∃ (nts : List NT) (L : List BN), nts.length = n + 1 ∧ LiesNL v nts (some ⟨rb, o0, none⟩) j ∧ PartsN nts L ∧ NmsP h.tx Sig.kap j n L
 | 0, j, xs, o, hc, ho, hC, _, _, hz => by
  rw [chkIs] at hc
  obtain ⟨t, a, h1, h2, h3⟩ := chkZ_ok S hv hon hz hrb hc hC
  refine ⟨[t], _, rfl, ⟨⟨rb, o0, rfl, by rw [← ho]; exact h1⟩, trivial⟩, ⟨[[(⟨#[122]⟩, a)]], rfl, rfl, fun i x ys hx hys => ?_⟩, a, h3, rfl⟩
  cases i with
  | zero => cases hx; cases hys; exact h2
  | succ i => cases hx
 | n + 1, j, xs, o, hc, ho, hC, hj, hk, hz => by
  rw [chkIs] at hc
  split at hc
  ·rename_i hx
   have hkj := hk j (Nat.le_refl _) (by omega)
   have hk7 : ∀ k ∈ cV, k < 7 := by decide
   obtain ⟨t, ys, h1, h2, h3, h3'⟩ := chkI_ok (j := j) S hv hon (by omega) rfl (hk7 _ hkj) hrb (chkKs_at hx hkj) hC
   obtain ⟨nts, L, h4, h5, ⟨yss, h6, h7, h8⟩, h9⟩ := chkIs_ok S hv hon (o0 := o0) hrb n (j + 1) _ (o + 5) hc (by omega) hC.drop (by omega) (fun i hi1 hi2 => hk i (by omega) (by omega)) (by rw [← hz]; congr 1; omega)
   refine ⟨t :: nts, ys ++ L, by rw [List.length_cons, h4], ⟨⟨rb, o0, rfl, by rw [← ho]; exact h1⟩, h5⟩, ⟨ys :: yss, by rw [List.length_cons, List.length_cons, h6], by rw [h7, List.flatten_cons], fun i x zs hx hzs => ?_⟩, ys, L, rfl, h3, h3', h9⟩
   cases i with
   | zero => cases hx; cases hzs; exact h2
   | succ i => exact h8 i x zs hx hzs
  ·cases hc
theorem chkD_ok (S : HSim P w0 E h w) (hv : After w0.heap.size w v) (hon : h.tx.on = true) {m : Nat} (hm : m ≤ 20) (hk : ∀ i, i < m → Sig.kap i ∈ cV) (hz : Sig.kap m = 0) {cs : List AV} {rb o : Nat} (hc : chkD m h cs = true) (hC : CAt E v rb o cs) :
  ∃ (x : NT) (L : List BN) (kb ko cap : Nat) (f to : Int), v.cell? ⟨rb, o, none⟩ = some (.int .i64 60) ∧ v.cell? ⟨rb, o + 1, none⟩ = some (.string ⟨#[108, 101, 116]⟩) ∧ v.cell? ⟨rb, o + 2, none⟩ = some (.slice (some ⟨kb, ko, none⟩) 1 cap) ∧
   v.cell? ⟨rb, o + 3, none⟩ = some (.int .i64 f) ∧ v.cell? ⟨rb, o + 4, none⟩ = some (.int .i64 to) ∧ LiesNL v [x] (some ⟨kb, ko, none⟩) 0 ∧ NamesOk (.node 60 ⟨#[108, 101, 116]⟩ f [x]) L ∧ NmsP h.tx Sig.kap 0 m L := by
 unfold chkD at hc
 split at hc
 rotate_left
 ·cases hc
 rename_i p z x1 hk1
 rw [Bool.and_eq_true] at hc
 obtain ⟨hp, hc⟩ := hc
 have hp := eqP_eq hp
 subst hp
 obtain ⟨kb, ko, cap, to, c0, c1, c2, -, c3, c4, hkb, hC1⟩ := kidsA_ok S hv hk1 hC
 split at hc
 rotate_left
 ·cases hc
 rename_i p2 z2 x2 hk2
 obtain ⟨kb2, ko2, cap2, to2, d0, d1, d2, -, d3, d4, hkb2, hC2⟩ := kidsA_ok S hv hk2 hC1
 split at hc
 rotate_left
 ·cases hc
 rename_i p3 z3 n x3 ty hk3 hty
 obtain ⟨kb3, ko3, cap3, to3, e0, e1, e2, e5, e3, e4, hkb3, hC3⟩ := kidsA_ok S hv hk3 hC2
 rw [Bool.and_eq_true] at hc
 obtain ⟨hn, hc⟩ := hc
 have hn := Nat.eq_of_beq_eq_true hn
 subst hn
 have hLy := absT_ok S hv hz 12 _ ty kb2 (ko2 + 5) hkb2 hty hC2.drop
 obtain ⟨nts, L, g1, g2, g3, g4⟩ := chkIs_ok S hv hon (o0 := ko3) hkb3 m 0 x3 ko3 hc (by omega) hC3 (by omega) (fun i _ hi => hk i (by omega)) (by rw [Nat.zero_add]; exact hz)
 have l42 : LiesN v (.node 42 (strB p3.1 p3.2) (dec z3) nts) kb2 ko2 := by
  rw [LiesN]
  exact ⟨hkb2, e0, e1, ⟨_, cap3, by rw [g1]; exact e2, by rw [g1]; exact e5, g2⟩, e3⟩
 have l61 : LiesN v (.node 61 (strB p2.1 p2.2) (dec z2) [.node 42 (strB p3.1 p3.2) (dec z3) nts, ntOf ty]) kb ko := by
  rw [LiesN]
  refine ⟨hkb, d0, d1, ⟨_, cap2, d2, by simp, ?_⟩, d3⟩
  exact ⟨⟨kb2, ko2, rfl, by rw [Nat.zero_mul, Nat.add_zero]; exact l42⟩, ⟨kb2, ko2, rfl, by rw [Nat.zero_add, Nat.one_mul]; exact hLy⟩, trivial⟩
 have e : strB 3 7628140 = ⟨#[108, 101, 116]⟩ := by decide +kernel
 simp only [e] at c1
 refine ⟨_, L, kb, ko, cap, dec z, to, c0, c1, c2, c3, c4, ⟨⟨kb, ko, rfl, by rw [Nat.zero_mul, Nat.add_zero]; exact l61⟩, trivial⟩, ?_, g4⟩
 refine names_many60 _ _ _ _ ⟨[L], rfl, by simp, fun i x ys hx hys => ?_⟩
 cases i with
 | zero =>
  cases hx
  cases hys
  exact names_first61 _ _ _ _ _ (names_many42 _ _ _ _ g3)
 | succ i => cases hx
end
theorem chkP_inv {m : Nat} {o : OR} (hc : chkP m o = true) : ∃ (l c b off cap : Nat) (ex : Bool) (f t : Int) (u : AV) (h1 : H) (xs : List AV) (el : TypeId) (tl : Bool), o = .val (.tuple [.agg [.int .i64 (.ofNat 86), .str l c, .slice b off 1 cap ex, .int .i64 f, .int .i64 t], u, .int .i64 (.ofNat 0), .int .i64 (.ofNat 0)]) h1 ∧
  h1.get b = some (.cells xs el tl false) ∧ chkD m h1 (xs.drop off) = true := by
 unfold chkP at hc
 split at hc
 ·rename_i l c b off cap ex f t u h1
  split at hc
  ·rename_i xs el tl hb
   exact ⟨l, c, b, off, cap, ex, f, t, u, h1, xs, el, tl, rfl, hb, hc⟩
  ·cases hc
 ·cases hc
theorem runP_inv {m : Nat} (h : runP m = true) : chkP m ((fns Tryz.prog orcV 3000).call 12 [.pre (endI (txV m)), .bool false] (hInitT tabs (txV m) [])) = true := by
 rw [runP, fnsF_eq] at h
 exact h
theorem tup_cv [Sig] {E : Env} {x y z q : AV} {u : Value} (hu : cv E (.tuple [x, y, z, q]) = some u) : ∃ a b c d, cv E x = some a ∧ cv E y = some b ∧ cv E z = some c ∧ cv E q = some d ∧ u = .tuple #[a, b, c, d] := by
 simp only [cv, cvL] at hu
 cases h1 : cv E x with
 | none => simp [h1] at hu
 | some a =>
  cases h2 : cv E y with
  | none => simp [h1, h2] at hu
  | some b =>
   cases h3 : cv E z with
   | none => simp [h1, h2, h3] at hu
   | some c =>
    cases h4 : cv E q with
    | none => simp [h1, h2, h3, h4] at hu
    | some d =>
     simp only [h1, h2, h3, h4, Option.some.injEq] at hu
     exact ⟨a, b, c, d, rfl, rfl, rfl, rfl, hu.symm⟩
theorem keeps_of_below {w w' : World} (h : Below w.heap.size w w') : Keeps w w' := ⟨h.os, h.output, h.size, h.block⟩
theorem slice_eq {a a' : Option Addr} {n n' c c' : Nat} {v : World} {p : Addr} (h : v.cell? p = some (.slice a n c)) (h' : v.cell? p = some (.slice a' n' c')) : a = a' ∧ c = c' := by
 have := Option.some.inj (h.symm.trans h')
 cases this
 exact ⟨rfl, rfl⟩
theorem int_eq {a a' : Int} {v : World} {p : Addr} (h : v.cell? p = some (.int .i64 a)) (h' : v.cell? p = some (.int .i64 a')) : a = a' := by
 have := Option.some.inj (h.symm.trans h')
 cases this
 rfl
theorem resP_of {w2 : World} {want : List ByteArray} {L : List BN} (hw : L.map (·.1) = want) (hi : ∀ j x y, L[j]? = some x → L[j + 1]? = some y → x.2 < y.2) {e : Ending} {w3 : World} (h : ∃ v', e = .returned v' ∧ Owned w2.heap.size v' L w3 ∧ Below w2.heap.size w2 w3) : ResP w2 want e w3 := by
 obtain ⟨v', h1, h2, h3⟩ := h
 exact ⟨keeps_of_below h3, v', L, h1, h2, hw, hi⟩
theorem progP_ok {ks : List Nat} (h11 : ∀ k ∈ ks, k < 7) (hl : ks.length ≤ 20) (hr : runP ks.length = true) {w : World} (htS : ∀ S : Sig, @TabsOk S w tabs) : ProgP w (textP ks) (wantZ ks) := by
 have hbl := bodyP_le ks 0
 letI S : Sig := sigT (txV ks.length) (fun i => ks.getD i 0) (symVal []) v00b
 have ht : TabsOk w tabs := htS S
 have hkap : ∀ i, i < ks.length → ks.getD i 0 ∈ cV := fun i hi => by
  have e : ks.getD i 0 = ks[i] := by rw [List.getD, List.getElem?_eq_getElem hi]; rfl
  have h7 := h11 _ (List.getElem_mem hi)
  rw [e]
  generalize ks[i] = k at h7
  have : ∀ k, k < 7 → k ∈ cV := by decide
  exact this k h7
 have hk0 : ks.getD ks.length 0 = 0 := by rw [List.getD, List.getElem?_eq_none (Nat.le_refl _)]; rfl
 have hT : TxOk (txV ks.length) := sigT_ok _ _ _ v00b (by show (itsV 0 ks.length).length < 65536; rw [itsV_len]; omega) (fun i x hx => by
  obtain ⟨rfl, hi⟩ := repV_at cV _ _ _ hx
  exact hkap i hi) (by rw [txt_is h11 hl]; simp only [List.length_append, List.length_cons, List.length_nil]; omega) (fun h => absurd rfl h)
 have etx : Sig.txt = textP ks := by
  show (⟨(txtOf (txV ks.length) (fun i => ks.getD i 0)).toArray⟩ : ByteArray) = _
  rw [txt_is h11 hl]
  rfl
 obtain ⟨lc, cc, bb, off, cap, ex, ff, tt, uu, h1, xs, el, tl, hc, hb, hchk⟩ := chkP_inv (runP_inv hr)
 have hcall := call_prog (orcV_ok S w ht.b) ht hT rfl (by show 9 < 32768; omega) hc
 rw [etx] at hcall
 refine hcall.mono fun e w1 he => ?_
 obtain ⟨E1, u1, rfl, S1, hv1, htx⟩ := he
 obtain ⟨a, b, c, d, q1, q2, q3, q4, rfl⟩ := tup_cv hv1
 refine ⟨S1.keeps, ?_⟩
 simp only [cv, Option.some.injEq] at q3 q4
 rw [dec_of (show symB (.ofNat 0) = false from rfl)] at q3 q4
 subst q3 q4
 have hon : h1.tx.on = true := by rw [htx]; rfl
 cases he : E1 bb with
 | none => simp [cv, cvC, AV.one, he] at q1
 | some e =>
  simp only [cv, cvC, AV.one, he, Option.some.injEq] at q1
  rw [dec_of (show symB (.ofNat 86) = false from rfl)] at q1
  subst q1
  have key : ∀ v, After w.heap.size w1 v → _ := fun v hv => chkD_ok S1 hv hon hl hkap hk0 hchk (blk_cat S1 hv he hb).2.2.drop
  obtain ⟨hb1, hb2, -⟩ := blk_cat S1 (After.refl _ _) he hb
  obtain ⟨x, L, kb, ko, kc, f, to, y0, y1, y2, y3, y4, -, -, -⟩ := key w1 (After.refl _ _)
  have key2 : ∀ v, After w.heap.size w1 v → ∃ (x : NT) (L : List BN), LiesNL v [x] (some ⟨kb, ko, none⟩) 0 ∧ LiesN v (.node 60 ⟨#[108, 101, 116]⟩ f [x]) e.rb (e.ro + off) ∧ NamesOk (.node 60 ⟨#[108, 101, 116]⟩ f [x]) L ∧ L.map (·.1) = wantZ ks ∧ (∀ j x y, L[j]? = some x → L[j + 1]? = some y → x.2 < y.2) ∧ L.length ≤ 1000 := by
   intro v hv
   obtain ⟨x', L', kb', ko', kc', f', to', z0, z1, z2, z3, z4, g1, g2, g3⟩ := key v hv
   obtain ⟨e1, e2⟩ := slice_eq z2 (hv.cell hb1 hb2 y2)
   cases e1
   subst e2
   have e3 := int_eq z3 (hv.cell hb1 hb2 y3)
   subst e3
   rw [htx] at g3
   have hw := nms_want (ks := ks) ks.length 0 L' (by omega) g3
   rw [List.drop_zero] at hw
   refine ⟨x', L', g1, ?_, g2, hw, incF_lt L' _ (nms_inc ks.length 0 L' g3), ?_⟩
   ·rw [LiesN]
    exact ⟨Nat.lt_of_lt_of_le hb2 hv.size, z0, z1, ⟨_, _, z2, by simp, g1⟩, z3⟩
   ·have h2 := congrArg List.length hw
    rw [List.length_map, List.length_append] at h2
    have h3 := wantP_len ks 0
    simp only [List.length_cons, List.length_nil] at h2
    omega
  refine ⟨_, e.rb, e.ro + off, _, _, _, _, ⟨#[108, 101, 116]⟩, some ⟨kb, ko, none⟩, 1, kc, f, to, rfl, hb1, hb2, y0, y1, y2, y3, y4, fun w2 hv => ?_, fun w2 hv => ?_, fun w2 hv => ?_⟩
  ·obtain ⟨x, L, g1, g2, g3, g4, g5, g6⟩ := key2 w2 hv
   exact (callsIn_wide.1 (Bound_ok 0 w2 60 ⟨#[108, 101, 116]⟩ f to (some ⟨kb, ko, none⟩) kc [x] L g3 g1 (by simp) g6)).mono fun e3 w3 he3 => resP_of g4 g5 he3
  ·obtain ⟨x, L, g1, g2, g3, g4, g5, g6⟩ := key2 w2 hv
   refine (callsIn_wide.1 (Lexical_ok 0 w2 w2 [.node 60 ⟨#[108, 101, 116]⟩ f [x]] L (some ⟨e.rb, e.ro + off, none⟩) _ ⟨[L], rfl, by simp, fun i y ys hy hys => ?_⟩ (Below.refl _ _) ⟨⟨e.rb, e.ro + off, rfl, by rw [Nat.zero_mul, Nat.add_zero]; exact g2⟩, trivial⟩ (by simp) g6)).mono fun e3 w3 he3 => resP_of g4 g5 he3
   cases i with
   | zero =>
    cases hy
    cases hys
    exact ⟨g3, f, [x], rfl⟩
   | succ i => cases hy
  ·obtain ⟨x, L, g1, g2, g3, g4, g5, g6⟩ := key2 w2 hv
   refine (callsIn_wide.1 (Vars_ok 0 w2 w2 [.node 60 ⟨#[108, 101, 116]⟩ f [x]] [] (some ⟨e.rb, e.ro + off, none⟩) _ ⟨[[]], rfl, rfl, fun i y ys hy hys => ?_⟩ (Below.refl _ _) ⟨⟨e.rb, e.ro + off, rfl, by rw [Nat.zero_mul, Nat.add_zero]; exact g2⟩, trivial⟩ (by simp) (by simp))).mono fun e3 w3 he3 => resP_of rfl (fun j x y hx => by cases hx) he3
   cases i with
   | zero =>
    cases hy
    cases hys
    exact vars_let _ _
   | succ i => cases hy
end Go.Proofs.YtgpibpkplhlihaaGreatDoor
