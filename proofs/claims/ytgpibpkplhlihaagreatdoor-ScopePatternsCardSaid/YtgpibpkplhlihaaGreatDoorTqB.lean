/- strings.IndexByte by the shelf's contract, as an answer that is known beforehand. No condition. · The parser's looks at a token that is there already, as answers: is it that sign, that word; the token itself. No condition. · Answers for calls over a text. No condition. -/
import Derived.Test.YtgpibpkplhlihaaGreatDoorTab
import Derived.Test.YtgpibpkplhlihaaGreatDoorEvTmG
import Derived.Shelf.Strings.Search1
import Derived.Ground.NamesProg
import Derived.WalkSmall
import Derived.WalkLawsBesides
import Derived.ChangeArms
import Derived.DataReads
import Derived.IntWalk
import Derived.Laws.Rows
namespace Go.Proofs
open Go.Shelf
def Tryz.lays217_ren : Go.Shelf.Ren := ⟨fun | 217 => 147 | 266 => 180 | n => n, fun | 9 => 9 | 5 => 5 | 3 => 3 | n => n, fun | n => n⟩
theorem Tryz.lays217 : Go.Proofs.Lays.n217 Tryz.prog Tryz.lays217_ren := {
 mixed := by kernel_rfl
 f217 := Tryz.func147.trans (congrArg some (by kernel_rfl))
 f266 := Tryz.func180.trans (congrArg some (by kernel_rfl))
 t3 := Tryz.underlying3
 a3 := Tryz.isAgg3
 z3 := Tryz.sizeOf3
 v3 := Tryz.zeroValue3
 t5 := Tryz.underlying5
 a5 := Tryz.isAgg5
 z5 := Tryz.sizeOf5
 v5 := Tryz.zeroValue5
 t9 := Tryz.underlying9
 a9 := Tryz.isAgg9
 z9 := Tryz.sizeOf9
 v9 := Tryz.zeroValue9 }
end Go.Proofs
namespace Go.Proofs.YtgpibpkplhlihaaGreatDoor
open Go Go.Ev Go.Shelf Go.RowKit
set_option linter.unusedSectionVars false
theorem fIdx : Tryz.lays217_ren.f 217 = 147 := by kernel_rfl
theorem idx_calls (s : ByteArray) (c : Int) (w : World) : Calls Tryz.prog 147 #[.string s, .int .u8 c] w fun e w' => e = .returned (.int .i64 (Lib.indexByte s.data.toList c.toNat.toUInt8)) ∧ w' = w := by
 have h := Any.stringslite_IndexByte Tryz.lays217 s c w
 rw [fIdx] at h
 exact h
variable [Sig]
noncomputable def anssI : List (Nat × Ansr) := [(147, idxG)] ++ anss
theorem anssI_ok : AnssOk Tryz.prog tabs anssI := by
 intro p hp
 rcases List.mem_cons.1 hp with rfl | hp
 ·exact idxG_ok (by kernel_rfl) idx_calls
 exact anss_ok p hp
end Go.Proofs.YtgpibpkplhlihaaGreatDoor
namespace Go.Proofs.YtgpibpkplhlihaaGreatDoor
open Go Go.RowKit Go.Proofs Go.Ev
set_option linter.unusedVariables false
set_option linter.unusedSectionVars false
set_option linter.unusedSimpArgs false
def eqC (n c n2 c2 : Nat) : Bool := Nat.beq n n2 && Nat.beq (Nat.mod c (Nat.pow 256 n)) (Nat.mod c2 (Nat.pow 256 n))
noncomputable def tokM (kd : Nat) : AnsM := fun args _ => match args with
 | [.agg [.int .i64 (.ofNat k), .str n c, .int .i64 _, .int .i64 _, .bool _], .str n2 c2] => some (.val (.bool (Nat.beq k kd && eqC n c n2 c2)))
 | _ => none
noncomputable def peekM : AnsM := fun args h => match args with
 | [.ptr b off, .int .i64 (.ofNat g)] => (match h.get b with
  | some (.cells cs _ _ _) => (match resL h.asm (cs.drop (off + 2)) with
   | .int .i64 k :: .str n c :: .int .i64 f :: .int .i64 t :: .bool l :: _ :: .int .i64 (.ofNat q) :: _ => (match !(Nat.beq q 0) && (Nat.beq q g || (Nat.ble g 2 && (Nat.ble q 2 && !(Nat.ble 1 n && Nat.beq (Nat.mod c 256) 47)))) with
    | true => some (.val (.agg [.int .i64 k, .str n c, .int .i64 f, .int .i64 t, .bool l]))
    | false => none)
   | _ => none)
  | _ => none)
 | _ => none
theorem punct_calls (k : Nat) (s p : ByteArray) (f t : Int) (l : Bool) (w : World) : Calls Tryz.prog 40 #[.agg #[.int .i64 k, .string s, .int .i64 f, .int .i64 t, .bool l], .string p] w fun e w' => e = .returned (.bool (Nat.beq k 5 && (s.toList == p.toList))) ∧ Keeps w w' := by
 by_cases hk : k = 5
 ·subst hk
  go_enter Tryz.func40, Tryz.ntmps40
  go_wp2
  go_ret
  exact ⟨rfl, Keeps.alloc _ _⟩
 ·have hk2 : ¬ ((k : Int) = 5) := by omega
  have hb : Nat.beq k 5 = false := by
   cases h : Nat.beq k 5 with
   | false => rfl
   | true => exact absurd (Nat.eq_of_beq_eq_true h) hk
  rw [hb]
  go_enter Tryz.func40, Tryz.ntmps40
  go_wp2
  go_ret
  exact ⟨rfl, Keeps.alloc _ _⟩
theorem name_calls (k : Nat) (s p : ByteArray) (f t : Int) (l : Bool) (w : World) : Calls Tryz.prog 59 #[.agg #[.int .i64 k, .string s, .int .i64 f, .int .i64 t, .bool l], .string p] w fun e w' => e = .returned (.bool (Nat.beq k 1 && (s.toList == p.toList))) ∧ Keeps w w' := by
 by_cases hk : k = 1
 ·subst hk
  go_enter Tryz.func59, Tryz.ntmps59
  go_wp2
  go_ret
  exact ⟨rfl, Keeps.alloc _ _⟩
 ·have hk2 : ¬ ((k : Int) = 1) := by omega
  have hb : Nat.beq k 1 = false := by
   cases h : Nat.beq k 1 with
   | false => rfl
   | true => exact absurd (Nat.eq_of_beq_eq_true h) hk
  rw [hb]
  go_enter Tryz.func59, Tryz.ntmps59
  go_wp2
  go_ret
  exact ⟨rfl, Keeps.alloc _ _⟩
theorem peek_calls {w : World} {b o : Nat} {q g : Nat} {k f t : Int} {s : ByteArray} {l : Bool} (h0 : w.cell? ⟨b, o + 2, none⟩ = some (.int .i64 k)) (h1 : w.cell? ⟨b, o + 2 + 1, none⟩ = some (.string s)) (h2 : w.cell? ⟨b, o + 2 + 2, none⟩ = some (.int .i64 f))
  (h3 : w.cell? ⟨b, o + 2 + 3, none⟩ = some (.int .i64 t)) (h4 : w.cell? ⟨b, o + 2 + 4, none⟩ = some (.bool l)) (h6 : w.cell? ⟨b, o + 8, none⟩ = some (.int .i64 q)) (hq : q ≠ 0)
  (hc : q = g ∨ (g ≤ 2 ∧ q ≤ 2 ∧ Lib.hasPrefix s.data.toList [47] = false)) :
  Calls Tryz.prog 22 #[.pointer (some ⟨b, o, none⟩), .int .i64 g] w fun e w' => e = .returned (.agg #[.int .i64 k, .string s, .int .i64 f, .int .i64 t, .bool l]) ∧ Keeps w w' := by
 have hq0 : ¬ ((q : Int) = 0) := by omega
 have hlt : b < w.heap.size := by
  unfold World.cell? at h6
  split at h6
  ·rename_i hb; exact (Array.getElem?_eq_some_iff.1 hb).1
  ·cases h6
 have hal : ∀ (x : Nat) (ob : Obj), (w.alloc ob).cell? ⟨b, x, none⟩ = w.cell? ⟨b, x, none⟩ := fun x ob => World.cell?_of_block (w := w) ((Keeps.alloc w ob).block b hlt)
 have g0 : ∀ ob, (w.alloc ob).cell? ⟨b, o + 2, none⟩ = some (.int .i64 k) := fun ob => (hal _ ob).trans h0
 have g1 : ∀ ob, (w.alloc ob).cell? ⟨b, o + 2 + 1, none⟩ = some (.string s) := fun ob => (hal _ ob).trans h1
 have g2 : ∀ ob, (w.alloc ob).cell? ⟨b, o + 2 + 2, none⟩ = some (.int .i64 f) := fun ob => (hal _ ob).trans h2
 have g3 : ∀ ob, (w.alloc ob).cell? ⟨b, o + 2 + 3, none⟩ = some (.int .i64 t) := fun ob => (hal _ ob).trans h3
 have g4 : ∀ ob, (w.alloc ob).cell? ⟨b, o + 2 + 4, none⟩ = some (.bool l) := fun ob => (hal _ ob).trans h4
 have g6 : ∀ ob, (w.alloc ob).cell? ⟨b, o + 8, none⟩ = some (.int .i64 q) := fun ob => (hal _ ob).trans h6
 clear hal h0 h1 h2 h3 h4 h6
 rcases hc with rfl | ⟨hg2, hq2, hp⟩
 ·go_enter Tryz.func22, Tryz.ntmps22
  go_wp2
  refine bodyPost_ret (results_cell_row rfl _ _ w.heap.size 49 _ (0, 0) _ rfl (heap_alloc_new w _) Tryz.underlying49 rfl (by kernel_rfl)) rfl ?_
  exact ⟨rfl, Keeps.alloc _ _⟩
 ·by_cases hqg : q = g
  ·subst hqg
   go_enter Tryz.func22, Tryz.ntmps22
   go_wp2
   refine bodyPost_ret (results_cell_row rfl _ _ w.heap.size 49 _ (0, 0) _ rfl (heap_alloc_new w _) Tryz.underlying49 rfl (by kernel_rfl)) rfl ?_
   exact ⟨rfl, Keeps.alloc _ _⟩
  ·have hqg2 : ¬ ((q : Int) = (g : Int)) := by omega
   have hg3 : (g : Int) ≤ 2 := by omega
   have hq3 : (q : Int) ≤ 2 := by omega
   go_enter Tryz.func22, Tryz.ntmps22
   go_wp2_with (first | (go_at_call 43; refine (hp_calls s ⟨#[47]⟩ _).mono ?_; rintro e w2 ⟨rfl, rfl⟩; simp only [hp]))
   all_goals refine bodyPost_ret (results_cell_row rfl _ _ w.heap.size 49 _ (0, 0) _ rfl (heap_alloc_new w _) Tryz.underlying49 rfl (by kernel_rfl)) rfl ?_
   all_goals exact ⟨rfl, Keeps.alloc _ _⟩
theorem simKeepsH [Sig] {P : Program} {W0 : Wb} {E : Env} {h : H} {w w' : World} (S : HSim P W0 E h w) (hb : Keeps w w') : HSim P W0 E h w' where
 size := Nat.le_trans S.size hb.size
 base := fun r hr hm => by rw [hb.block r (Nat.lt_of_lt_of_le hr S.size)]; exact S.base r hr hm
 os := hb.os.trans S.os
 out := hb.out.trans S.out
 low := S.low
 glob := S.glob
 dom := S.dom
 top := S.top
 blk := fun b e x he hx => by
  obtain ⟨o, ho, hB⟩ := S.blk b e x he hx
  refine ⟨o, ?_, hB⟩
  have : e.rb < w.heap.size := by
   rcases Nat.lt_or_ge e.rb w.heap.size with h1 | h1
   ·exact h1
   ·rw [Array.getElem?_eq_none h1] at ho; cases ho
  rw [hb.block _ this]; exact ho
 own := S.own
 ronly := S.ronly
 inj := S.inj
 ho := S.ho
theorem eqC_ok (n c n2 c2 : Nat) : eqC n c n2 c2 = ((strB n c).toList == (strB n2 c2).toList) := by
 rw [Lib.toList_data, Lib.toList_data, strB_toList, strB_toList]
 unfold eqC
 by_cases hn : n = n2
 ·subst hn
  rw [Nat.beq_refl, Bool.true_and, Bool.eq_iff_iff, beq_iff_eq, bytesOf_eq_iff]
  exact ⟨Nat.eq_of_beq_eq_true, fun h => by show Nat.beq (c % 256 ^ n) (c2 % 256 ^ n) = true; rw [h]; exact Nat.beq_refl _⟩
 ·have h1 : Nat.beq n n2 = false := by
   cases h : Nat.beq n n2 with
   | false => rfl
   | true => exact absurd (Nat.eq_of_beq_eq_true h) hn
  rw [h1, Bool.false_and]
  cases h : (bytesOf n c == bytesOf n2 c2) with
  | false => rfl
  | true =>
   have := congrArg List.length (beq_iff_eq.1 h)
   rw [bytesOf_length, bytesOf_length] at this
   exact absurd this hn
theorem tokM_ok [Sig] {F kd : Nat} (hb : (fnOf Tryz.prog F).isSome = true)
  (H : ∀ (k : Nat) (s p : ByteArray) (f t : Int) (l : Bool) (w : World), Calls Tryz.prog F #[.agg #[.int .i64 k, .string s, .int .i64 f, .int .i64 t, .bool l], .string p] w fun e w' => e = .returned (.bool (Nat.beq k kd && (s.toList == p.toList))) ∧ Keeps w w') : AnsMOk Tryz.prog tabs F (tokM kd) := by
 refine ⟨hasBody_of hb, fun W0 ht E h w args us ans S hc hg ho => ?_⟩
 unfold tokM at hg
 split at hg
 ·rename_i k n c f t l n2 c2
  cases hg
  have hd : dec (.ofNat k) = .ofNat k := dec_of rfl
  simp only [cvL, cv, cvC, AV.one, hd, Option.some.injEq] at hc
  subst hc
  have hcall := H k (strB n c) (strB n2 c2) (dec f) (dec t) l w
  rw [← callsIn_wide] at hcall
  refine hcall.mono fun ev w' hh => ?_
  obtain ⟨rfl, hk⟩ := hh
  exact ⟨E, _, rfl, .refl _ _, simKeepsH S hk, by simp only [cv, eqC_ok]⟩
 ·cases hg
theorem resL_get (aa : List (Nat × Nat)) : ∀ (vs : List AV) (i : Nat), (resL aa vs)[i]? = (vs[i]?).map (resV aa)
 | [], i => by simp [resL]
 | v :: vs, 0 => by simp [resL]
 | v :: vs, i + 1 => by
  simp only [resL, List.getElem?_cons_succ]
  exact resL_get aa vs i
theorem start_code {n c : Nat} (h : (Nat.ble 1 n && Nat.beq (Nat.mod c 256) 47) = false) : Lib.hasPrefix (strB n c).data.toList [47] = false := by
 rw [strB_toList]
 cases n with
 | zero => rfl
 | succ n =>
  have h1 : Nat.beq (Nat.mod c 256) 47 = false := h
  show Lib.hasPrefix (UInt8.ofNat (c % 256) :: bytesOf n (c / 256)) [47] = false
  cases hp : Lib.hasPrefix (UInt8.ofNat (c % 256) :: bytesOf n (c / 256)) [47] with
  | false => rfl
  | true =>
   exfalso
   simp [Lib.hasPrefix] at hp
   have h2 := congrArg UInt8.toNat hp
   have h3 : c % 256 < 256 := Nat.mod_lt _ (by decide)
   simp at h2
   have h4 : c % 256 = 47 := h2.symm
   have h5 : Nat.beq (c % 256) 47 = false := h1
   rw [h4] at h5
   exact absurd h5 (by decide)
theorem peekM_ok [Sig] : AnsMOk Tryz.prog tabs 22 peekM := by
 refine ⟨hasBody_of (by kernel_rfl), fun W0 ht E h w args us ans S hc hg ho => ?_⟩
 unfold peekM at hg
 split at hg
 ·rename_i b off g
  split at hg
  ·rename_i cs el tl ro hb
   split at hg
   ·rename_i k n c f t l y q rest hres
    split at hg
    ·rename_i hcond
     cases hg
     have hdg : dec (.ofNat g) = .ofNat g := dec_of rfl
     have hdq : dec (.ofNat q) = .ofNat q := dec_of rfl
     simp only [cvL, cv, hdg] at hc
     split at hc
     ·rename_i u1 r1 hu1 hr1
      cases hc
      cases hr1
      split at hu1
      ·rename_i e he
       cases hu1
       obtain ⟨o, ho2, C, el', fz, rfl, -, -, hC, -⟩ := S.blk b e _ he hb
       have cell : ∀ (i : Nat) (v : AV), (AV.int .i64 k :: .str n c :: .int .i64 f :: .int .i64 t :: .bool l :: y :: .int .i64 (.ofNat q) :: rest)[i]? = some v → ∃ u, cv E v = some u ∧ w.cell? ⟨e.rb, e.ro + off + 2 + i, none⟩ = some u := by
        intro i v hv
        rw [← hres, resL_get, List.getElem?_drop] at hv
        cases hx : cs[off + 2 + i]? with
        | none => rw [hx] at hv; cases hv
        | some v0 =>
         rw [hx] at hv
         cases hv
         obtain ⟨-, u, h1, h2⟩ := hC _ _ hx
         exact ⟨u, resV_cv S.ho.1 h1, by rw [cell_of ho2, show e.ro + off + 2 + i = e.ro + (off + 2 + i) by omega]; exact h2⟩
       obtain ⟨_, a0, c0⟩ := cell 0 _ rfl
       obtain ⟨_, a1, c1⟩ := cell 1 _ rfl
       obtain ⟨_, a2, c2⟩ := cell 2 _ rfl
       obtain ⟨_, a3, c3⟩ := cell 3 _ rfl
       obtain ⟨_, a4, c4⟩ := cell 4 _ rfl
       obtain ⟨_, a6, c6⟩ := cell 6 _ rfl
       simp only [cv, Option.some.injEq] at a0 a1 a2 a3 a4 a6
       rw [hdq] at a6
       subst a0 a1 a2 a3 a4 a6
       rw [Bool.and_eq_true] at hcond
       have hq0 : q ≠ 0 := fun h0 => by rw [h0] at hcond; simp at hcond
       have hcall := peek_calls (w := w) (b := e.rb) (o := e.ro + off) (q := q) (g := g) c0 c1 c2 c3 c4 c6 hq0 (by
        rcases Bool.or_eq_true .. ▸ hcond.2 with h1 | h1
        ·exact .inl (Nat.eq_of_beq_eq_true h1)
        ·rw [Bool.and_eq_true, Bool.and_eq_true] at h1
         exact .inr ⟨Nat.le_of_ble_eq_true h1.1, Nat.le_of_ble_eq_true h1.2.1, start_code (by
          cases hz : (Nat.ble 1 n && Nat.beq (Nat.mod c 256) 47) with
          | false => rfl
          | true => have h9 := h1.2.2; rw [hz] at h9; cases h9)⟩)
       rw [← callsIn_wide] at hcall
       refine hcall.mono fun ev w' hh => ?_
       obtain ⟨rfl, hk⟩ := hh
       exact ⟨E, _, rfl, .refl _ _, simKeepsH S hk, by simp only [cv, cvC, AV.one]⟩
      ·cases hu1
     ·cases hc
    ·cases hg
   ·cases hg
  ·cases hg
 ·cases hg
end Go.Proofs.YtgpibpkplhlihaaGreatDoor
namespace Go.Proofs.YtgpibpkplhlihaaGreatDoor
open Go Go.Ev
set_option linter.unusedSectionVars false
abbrev pl (ix r : Nat) : Int := symC 6 ix 0 r
theorem and_of {a b : Bool} (h : (a && b) = true) : a = true ∧ b = true := by cases a <;> cases b <;> first | exact ⟨rfl, rfl⟩ | cases h
theorem tabs_closed : tabsClosed tabs = true := by kernel_rfl
noncomputable def orcA : Orc := orcOf3 (trOf anssI) (trT [(43, hpT)]) (trM [])
theorem hp_ok [Sig] : AnsTOk Tryz.prog tabs 43 hpT := hpT_ok (by kernel_rfl) hp_calls
theorem orcA_ok (S : Sig) (W : Wb) : @TabsB S W tabs → @OrcOk S Tryz.prog W orcA := by
 refine @orcOf3_ok S Tryz.prog tabs anssI [(43, hpT)] [] anssI_ok ?_ (fun p hp => by cases hp) W
 intro p hp
 rw [List.mem_singleton] at hp
 subst hp
 exact hp_ok
end Go.Proofs.YtgpibpkplhlihaaGreatDoor
