/- The parser's look for a property with a default alone: over a tree that has none it returns, and leaves all that was there. The tree has 4,194,304 nodes at most. -/
import Derived.Test.YtmlhldohlfghaaaGreatDoorStk
import Derived.Deep.QuietTactic
import Derived.BigQuiet
import Derived.IntWalk
namespace Go.Proofs.YtmlhldohlfghaaaGreatDoor
open Go Go.RowKit Go.Proofs Go.Ev
set_option linter.unusedVariables false
set_option linter.unusedSimpArgs false
/-- what is on the stack -/
def LStk (w W : World) (v : Value) (k : Nat) : Prop := ∃ l : List Pl, W.ownsRow w.heap.size 50 1 v l.length (l.map Pl.ptr) ∧ (∀ p ∈ l, Lies w p.t p.b p.off ∧ p.t.ok) ∧ szS l = k ∧ k ≤ 4194304 ∧ Below w.heap.size w W
theorem own_top {W : World} {base e n g cap : Nat} {xs : List Value} {x : Value} (h : W.ownsRow base e 1 (.slice (some ⟨g, 0, none⟩) (n + 1) cap) (n + 1) (xs ++ [x])) (hx : xs.length = n) : W.cell? ⟨g, n, none⟩ = some x ∧ base ≤ g := by
  obtain ⟨_, h2⟩ := h
  rcases h2 with ⟨h0, _⟩ | ⟨g', cap', cur, hv, hg, hh, hn, hcap, hsz, htake⟩
  · cases h0
  · cases hv
    refine ⟨?_, hg⟩
    simp only [World.cell?, hh]
    have : (cur.toList.take ((n + 1) * 1))[n]? = some x := by
      rw [htake, List.getElem?_append_right (by omega), hx]
      simp
    rw [List.getElem?_take] at this
    split at this
    · simpa using this
    · cases this
theorem own_succ {W : World} {base : Nat} {e : TypeId} {size : Nat} {v : Value} {k : Nat} {xs : List Value} (h : W.ownsRow base e size v (k + 1) xs) : ∃ g cap, v = .slice (some ⟨g, 0, none⟩) (k + 1) cap := by
  rcases h.2 with ⟨_, h0⟩ | ⟨g, cap, _, rfl, _⟩
  · omega
  · exact ⟨g, cap, rfl⟩
theorem len_leT : ∀ l : List Tree, l.length ≤ Tree.szL l
  | [] => Nat.le_refl _
  | p :: l => by
    have := len_leT l
    have h2 := sz_pos p
    rw [Tree.szL, List.length_cons]
    omega
def intOf : Value → Int
  | .int _ n => n
  | _ => 0
set_option maxHeartbeats 4000000 in
set_option maxRecDepth 1000000 in
theorem left_any (t : Tree) (u : Value) (b off : Nat) (w : World) (hL : Lies w t b off) (hs : t.sz ≤ 4194304) (ho : t.ok) : Calls Tryz.prog 17 #[u, .pointer (some ⟨b, off, none⟩)] w fun e w' => e = .returned (.tuple #[]) ∧ Below w.heap.size w w' := by
  go_enter Tryz.func17, Tryz.ntmps17
  go_wp2
  go_loopw [4] (fun v wr => ∃ k, LStk w wr v k) (fun v wr => leastOf (LStk w wr v))
  case atStart =>
    refine ⟨t.sz, [⟨b, off, t⟩], ?_, ?_, szS_one _, hs, (Below.refl _ _).alloc (Nat.le_refl _) _⟩
    · exact World.ownsRow_lit _ _ _ (Nat.le_refl _) (by decide) rfl
    · intro p hp
      rw [List.mem_singleton] at hp
      subst hp
      exact ⟨hL, ho⟩
  case round =>
    obtain ⟨⟨l, hown, hall, hsz, hk, hB⟩, hmin⟩ := leastOf_spec hrel
    rcases List.eq_nil_or_concat l with rfl | ⟨rest, p, rfl⟩
    · obtain ⟨a, cap, rfl⟩ : ∃ a cap, u4 = .slice a 0 cap := by
        rcases hown.2 with ⟨e1, -⟩ | ⟨g, cap, cur, e1, -⟩
        · exact ⟨_, _, e1⟩
        · exact ⟨_, _, e1⟩
      go_wp2
      go_end0
      exact ⟨rfl, hB⟩
    · rw [List.concat_eq_append] at hown hall hsz
      have hn1 : (rest ++ [p]).length = rest.length + 1 := by simp
      rw [hn1, List.map_append] at hown
      obtain ⟨g, cap, rfl⟩ := own_succ hown
      obtain ⟨hcell, hgb⟩ := own_top hown (by simp)
      have hpop : wr.ownsRow w.heap.size 50 1 (.slice (some ⟨g, 0, none⟩) rest.length cap) rest.length (rest.map Pl.ptr) := ownsRow_pop (by simp) hown
      rw [szS_app, szS_one] at hsz
      have hlen : rest.length ≤ 4194304 := by have := len_le rest; omega
      obtain ⟨hLp, hop⟩ := hall p (by simp)
      have hLw : Lies wr p.t p.b p.off := lies_below hB (Nat.le_refl _) _ _ _ hLp
      have hpb : p.b < w.heap.size := by cases hpt : p.t; rw [hpt, Lies] at hLp; exact hLp.1
      obtain ⟨pb, po, pt⟩ := p
      cases pt with
      | node k kids =>
      rw [Lies] at hLw
      obtain ⟨-, c0, -, ⟨ka, kcap, c2, hkids⟩, -, -⟩ := hLw
      simp only at c0 c2 hkids
      have i1 : (rest.length : Int) < ((rest.length + 1 : Nat) : Int) := by omega
      simp only [Pl.ptr, List.map_cons, List.map_nil] at hcell
      have j1 : IntKind.i64.wrap (rest.length : Int) = (rest.length : Int) := IntWalk.i64_in _ (by omega)
      have j4 : (rest.length : Int) < (rest.length : Int) + 1 := by omega
      have hcap : rest.length + 1 ≤ cap := by
        rcases hown.2 with ⟨e1, -⟩ | ⟨g', cap', cur, e1, -, -, e2, -⟩
        · cases e1
        · cases e1; exact e2
      have j5 : (rest.length : Int) ≤ (cap : Int) := by omega
      have j6 : rest.length ≤ cap := by omega
      have j2 : (0 : Int) ≤ (rest.length : Int) := by omega
      have j3 : ((rest.length : Int)).toNat = rest.length := by omega
      go_wp2
      go_quiet (fail)
      have hBq : Below w.heap.size w (wr.drewN nq) := below_drewN hB nq
      have hownq : (wr.drewN nq).ownsRow w.heap.size 50 1 (.slice (some ⟨g, 0, none⟩) rest.length cap) rest.length (rest.map Pl.ptr) := hpop
      clear hcell hown hpop c0 c2 hkids
      generalize wr.drewN nq = W at hBq hownq ⊢
      rw [Tree.ok] at hop
      obtain ⟨hbad, hokl⟩ := hop
      rw [Tree.sz] at hsz
      rw [Lies] at hLp
      obtain ⟨h0, c0, -, ⟨ka, kcap, c2, hkids⟩, -, -⟩ := hLp
      have hkl : kids.length ≤ 4194304 := by have := len_leT kids; omega
      have e0 : W.cell? ⟨pb, po, none⟩ = _ := (hBq.cell (p := ⟨pb, po, none⟩) h0).trans c0
      have e2 : W.cell? ⟨pb, po + 2, none⟩ = _ := (hBq.cell (p := ⟨pb, po + 2, none⟩) h0).trans c2
      obtain ⟨M, hM⟩ : ∃ M, M = szS rest + Tree.szL kids := ⟨_, rfl⟩
      have k1 : IntKind.i64.wrap ((kids.length : Int) - 1) = (kids.length : Int) - 1 := IntWalk.i64_in _ (by omega)
      have hcase : (¬ (k = 13)) ∨ (k = 13 ∧ ¬ ((kids.length : Int) = 1)) ∨ (k = 13 ∧ (kids.length : Int) = 1 ∧ ∃ (tb to : Nat) (k1 : Int), ka = some ⟨tb, to, none⟩ ∧ W.cell? ⟨tb, to, none⟩ = some (.int .i64 k1) ∧ (k1 == 45) = false) := by
        by_cases hk : k = 13
        · by_cases hl : kids.length = 1
          · obtain ⟨t1, ht1⟩ : ∃ t1, kids[0]? = some t1 := ⟨_, List.getElem?_eq_getElem (by omega)⟩
            have hkind : ¬ (t1.kind = 45) := fun e => hbad ⟨hk, t1, by
              obtain ⟨t3, rfl⟩ := List.length_eq_one_iff.1 hl
              simpa using ht1, e⟩
            cases t1 with
            | node k1 l1 =>
            obtain ⟨tb, to, hka, hkid1⟩ := liesL_at hkids ht1
            rw [Lies] at hkid1
            obtain ⟨h01, d0, -⟩ := hkid1
            rw [show (0 + 0) * 5 = 0 from rfl, Nat.add_zero] at d0
            exact .inr (.inr ⟨hk, by omega, tb, to, k1, hka, (hBq.cell (p := ⟨tb, to, none⟩) (by simpa using h01)).trans d0, beq_false_of_ne hkind⟩)
          · exact .inr (.inl ⟨hk, by omega⟩)
        · exact .inl hk
      have hl3 : (kids.length : Int) = 1 → (0 : Int) < (kids.length : Int) := by omega
      rcases hcase with hk | ⟨rfl, hl⟩ | ⟨rfl, hl, tb, to, k1, rfl, d0, hk1⟩
      all_goals try (have hl3 := hl3 hl)
      all_goals go_wp2
      all_goals
        go_loopw [4, 5] (fun v x wq => ∃ (j : Nat) (l : List Pl), j ≤ kids.length ∧ x = .int .i64 ((j : Int) - 1) ∧ wq.ownsRow w.heap.size 50 1 v l.length (l.map Pl.ptr) ∧ (∀ p ∈ l, Lies w p.t p.b p.off ∧ p.t.ok) ∧ szS l + Tree.szL (kids.take j) = M ∧ Below w.heap.size w wq) (fun v x _ => (intOf x + 1).toNat)
        case atStart =>
          refine ⟨kids.length, rest, Nat.le_refl _, congrArg (Value.int .i64) (by omega), ?_, fun p hp => hall p (List.mem_append_left _ hp), ?_, hBq⟩
          · exact hownq
          · rw [List.take_length]; exact hM.symm
        case round =>
          obtain ⟨j, l, hj, rfl, hown2, hall2, hsz2, hB2⟩ := hrel
          have f2 := (hB2.cell (p := ⟨pb, po + 2, none⟩) h0).trans c2
          have hln : l.length ≤ 4194304 := by have := len_le l; omega
          cases j with
          | zero =>
            go_wp2
            rw [List.take_zero, Tree.szL] at hsz2
            have hh : LStk w _ _ M := ⟨l, hown2, hall2, hsz2, by omega, hB2⟩
            exact ⟨⟨M, hh⟩, Nat.lt_of_le_of_lt ((leastOf_spec ⟨M, hh⟩).2 M hh) (by omega)⟩
          | succ j =>
            have e1 : ((j + 1 : Nat) : Int) - 1 = (j : Int) := by omega
            rw [e1]
            obtain ⟨t2, ht2⟩ : ∃ t2, kids[j]? = some t2 := ⟨_, List.getElem?_eq_getElem hj⟩
            obtain ⟨kb, ko, hka, hLt⟩ := liesL_at hkids ht2
            obtain ⟨q, hq⟩ : ∃ q : Pl, q = ⟨kb, ko + j * 5, t2⟩ := ⟨_, rfl⟩
            cases hka
            have g1 : (j : Int) < (kids.length : Int) := by omega
            have g2 : (0 : Int) ≤ (j : Int) := by omega
            have g4 : (j : Int).toNat = j := by omega
            have g3 : IntKind.i64.wrap ((j : Int) - 1) = (j : Int) - 1 := IntWalk.i64_in _ (by omega)
            go_wp2_with (refine wpList_appX 72 50 1 8 rfl rfl (by kernel_rfl) (by kernel_rfl) (by kernel_rfl) hown2 rfl rfl rfl rfl (by omega) hB2.size ?_; intro g' cap' w' hown' hB' hsz')
            have h1 := okL_at hokl ht2
            rw [Nat.zero_add] at hLt
            have hA : ∃ (j1 : Nat) (l1 : List Pl), j1 ≤ kids.length ∧ Value.int .i64 ((j : Int) - 1) = .int .i64 ((j1 : Int) - 1) ∧ w'.ownsRow w.heap.size 50 1 (.slice (some ⟨g', 0, none⟩) (l.length + 1) cap') l1.length (l1.map Pl.ptr) ∧ (∀ p ∈ l1, Lies w p.t p.b p.off ∧ p.t.ok) ∧ szS l1 + Tree.szL (kids.take j1) = M ∧ Below w.heap.size w w' := by
              refine ⟨j, l ++ [q], by omega, rfl, ?_, ?_, ?_, hB2.trans hB'⟩
              · rw [List.length_append, List.map_append, hq]; exact hown'
              · intro p hp
                rcases List.mem_append.1 hp with hp | hp
                · exact hall2 p hp
                · rw [List.mem_singleton] at hp; rw [hp, hq]; exact ⟨hLt, h1⟩
              · rw [szS_app, szS_one, hq]; have := szL_take kids j t2 ht2; show _ + t2.sz + _ = _; omega
            exact ⟨hA, by simp only [intOf]; omega⟩
end Go.Proofs.YtmlhldohlfghaaaGreatDoor
