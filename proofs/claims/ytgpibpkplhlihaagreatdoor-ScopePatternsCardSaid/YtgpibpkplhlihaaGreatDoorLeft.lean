/- A stack of trees' places that a call keeps in a slice of its own: what is on it, one more, one less; a least number. No condition. · The parser's look for a property with a default alone: over a tree that has none it returns, and leaves all that was there. The tree has 4,194,304 nodes at most. -/
import Derived.Test.YtgpibpkplhlihaaGreatDoorProg
import Derived.Test.YtgpibpkplhlihaaGreatDoorEvTmG
import Derived.Below
import Derived.WalkKit
import Derived.WalkSmall
import Derived.Laws.Cells
import Derived.Laws.OwnMore
import Derived.Deep.AppendLies
import Derived.ChangeArms
import Derived.DataReads
import Derived.ChangeOld
import Derived.Deep.QuietTactic
import Derived.BigQuiet
import Derived.IntWalk
namespace Go.Proofs.YtgpibpkplhlihaaGreatDoor
open Go Go.RowKit Go.Proofs Go.Ev
set_option linter.unusedVariables false
set_option linter.unusedSimpArgs false
theorem least {p : Nat → Prop} : ∀ (k : Nat), p k → ∃ m, p m ∧ ∀ j, p j → m ≤ j := by
 intro k
 induction k using Nat.strongRecOn with
 | _ k ih =>
  intro hk
  by_cases h : ∃ j, p j ∧ j < k
  ·obtain ⟨j, hj, hlt⟩ := h
   exact ih j hlt hj
  ·exact ⟨k, hk, fun j hj => by
    rcases Nat.lt_or_ge j k with h1 | h1
    ·exact absurd ⟨j, hj, h1⟩ h
    ·exact h1⟩
open Classical in
noncomputable def leastOf (p : Nat → Prop) : Nat := if h : ∃ k, p k then Classical.choose (least (Classical.choose h) (Classical.choose_spec h)) else 0
theorem leastOf_spec {p : Nat → Prop} (h : ∃ k, p k) : p (leastOf p) ∧ ∀ j, p j → leastOf p ≤ j := by
 unfold leastOf
 rw [dif_pos h]
 exact Classical.choose_spec (least (Classical.choose h) (Classical.choose_spec h))
theorem lies_below {w w' : World} {m : Nat} (hB : Below m w w') (hm : w.heap.size ≤ m) : (∀ t b off, Lies w t b off → Lies w' t b off) := by
 have key : ∀ n : Nat, (∀ t b off, t.sz ≤ n → Lies w t b off → Lies w' t b off) ∧ (∀ l a i, Tree.szL l ≤ n → LiesL w l a i → LiesL w' l a i) := by
  intro n
  induction n using Nat.strongRecOn with
  | _ n ih =>
   have h1 : ∀ t b off, t.sz ≤ n → Lies w t b off → Lies w' t b off := by
    intro t b off hs h
    cases t with
    | node k l =>
     rw [Tree.sz] at hs
     rw [Lies] at h ⊢
     obtain ⟨h0, h1, ⟨x1, h2⟩, ⟨a, cap, h3, h4⟩, ⟨x3, h5⟩, ⟨x4, h6⟩⟩ := h
     have c : ∀ i, w'.cell? ⟨b, i, none⟩ = w.cell? ⟨b, i, none⟩ := fun i => hB.cell (p := ⟨b, i, none⟩) (Nat.lt_of_lt_of_le h0 hm)
     rw [c, c, c, c, c]
     exact ⟨Nat.lt_of_lt_of_le h0 hB.size, h1, ⟨x1, h2⟩, ⟨a, cap, h3, (ih (Tree.szL l) (by omega)).2 l a 0 (Nat.le_refl _) h4⟩, ⟨x3, h5⟩, ⟨x4, h6⟩⟩
   refine ⟨h1, ?_⟩
   intro l
   induction l with
   | nil => intro a i _ _; rw [LiesL]; trivial
   | cons t ts ih2 =>
    intro a i hs h
    rw [Tree.szL] at hs
    rw [LiesL] at h ⊢
    obtain ⟨⟨b, off, hb, ht⟩, hl⟩ := h
    exact ⟨⟨b, off, hb, h1 _ _ _ (by omega) ht⟩, ih2 _ _ (by omega) hl⟩
 exact fun t b off h => (key t.sz).1 t b off (Nat.le_refl _) h
theorem liesL_at {w : World} : ∀ {l : List Tree} {a : Option Addr} {i j : Nat} {t : Tree}, LiesL w l a i → l[j]? = some t → ∃ b off, a = some ⟨b, off, none⟩ ∧ Lies w t b (off + (i + j) * 5)
 | [], a, i, j, t, _, h => by simp at h
 | x :: xs, a, i, j, t, hL, h => by
  rw [LiesL] at hL
  obtain ⟨⟨b, off, hb, ht⟩, hl⟩ := hL
  match j with
  | 0 =>
   simp only [List.getElem?_cons_zero, Option.some.injEq] at h
   subst h
   exact ⟨b, off, hb, ht⟩
  | j + 1 =>
   rw [List.getElem?_cons_succ] at h
   obtain ⟨b', off', hb', ht'⟩ := liesL_at hl h
   exact ⟨b', off', hb', by rw [show i + (j + 1) = i + 1 + j by omega]; exact ht'⟩
theorem okL_at : ∀ {l : List Tree} {j : Nat} {t : Tree}, Tree.okL l → l[j]? = some t → t.ok
 | [], j, t, _, h => by simp at h
 | x :: xs, j, t, ho, h => by
  rw [Tree.okL] at ho
  match j with
  | 0 => simp only [List.getElem?_cons_zero, Option.some.injEq] at h; subst h; exact ho.1
  | j + 1 => rw [List.getElem?_cons_succ] at h; exact okL_at ho.2 h
theorem szL_take : ∀ (l : List Tree) (j : Nat) (t : Tree), l[j]? = some t → Tree.szL (l.take (j + 1)) = Tree.szL (l.take j) + t.sz
 | [], j, t, h => by simp at h
 | x :: xs, 0, t, h => by
  simp only [List.getElem?_cons_zero, Option.some.injEq] at h
  subst h
  simp [Tree.szL]
 | x :: xs, j + 1, t, h => by
  rw [List.getElem?_cons_succ] at h
  have := szL_take xs j t h
  rw [List.take_succ_cons, List.take_succ_cons, Tree.szL, Tree.szL, this]
  omega
theorem dpL_at : ∀ {l : List Tree} {j : Nat} {t : Tree}, l[j]? = some t → t.dp ≤ Tree.dpL l
 | [], j, t, h => by simp at h
 | x :: xs, 0, t, h => by
  simp only [List.getElem?_cons_zero, Option.some.injEq] at h
  subst h
  rw [Tree.dpL]; exact Nat.le_max_left _ _
 | x :: xs, j + 1, t, h => by
  rw [List.getElem?_cons_succ] at h
  rw [Tree.dpL]
  exact Nat.le_trans (dpL_at h) (Nat.le_max_right _ _)
theorem sz_pos : ∀ (t : Tree), 1 ≤ t.sz
 | .node k l => by rw [Tree.sz]; omega
structure Pl where
 b : Nat
 off : Nat
 t : Tree
def szS (l : List Pl) : Nat := (l.map fun p => p.t.sz).sum
theorem szS_app (l m : List Pl) : szS (l ++ m) = szS l + szS m := by simp [szS]
theorem szS_one (p : Pl) : szS [p] = p.t.sz := by simp [szS]
theorem len_le : ∀ l : List Pl, l.length ≤ szS l
 | [] => Nat.le_refl _
 | p :: l => by
  have := len_le l
  have h2 := sz_pos p.t
  simp only [szS, List.map_cons, List.sum_cons, List.length_cons] at this ⊢
  omega
def Pl.ptr (p : Pl) : Value := .pointer (some ⟨p.b, p.off, none⟩)
theorem wpList_appX {P : Program} {ops : Array Oper} {rest : List Oper} {o : Oper} {a : Act} {Q : Exit → Act → World → Prop} {w : World} {cs : List Value} {T : TypeId} (t e size bytes : Nat) (hg : Region.wanted o (yielded ops a.tmps) = true) {s x : Operand}
  (ho : o.op = .call { callee := .builtin .append, args := #[s, x], argTypes := #[t, t] })
  (ht : P.underlying t = some (.slice e)) (hi : (P.info? e).map (fun i => (i.zero.map (·.cells.size), i.size, i.bytes)) = some (some size, size, bytes)) (hsz : (Nat.blt 0 size && Nat.ble bytes 10000) = true)
  {base : Nat} {v : Value} {n : Nat} {xs : List Value} (how : w.ownsRow base e size v n xs) (hs : a.eval s = v) (hx : a.eval x = .slice (some ⟨w.heap.size, 0, none⟩) 1 1) (hc : cs.length = size) (h1 : cs.all (fun u => u.oneCell') = true)
  (hn : n ≤ 1000000000) (hbase : base ≤ w.heap.size)
  (h : ∀ g cap w', w'.ownsRow base e size (.slice (some ⟨g, 0, none⟩) (n + 1) cap) (n + 1) (xs ++ cs) → Below base w w' → w.heap.size ≤ w'.heap.size → wpList P ops Q rest (a.put o.dst (.slice (some ⟨g, 0, none⟩) (n + 1) cap)) w') :
  wpList P ops Q (o :: rest) a (w.alloc (.cells cs.toArray T)) := by
 simp only [Bool.and_eq_true, Nat.blt_eq, Nat.ble_eq] at hsz
 cases hie : P.info? e with
 | none => simp [hie] at hi
 | some ie =>
  simp only [hie, Option.map_some, Option.some.injEq, Prod.mk.injEq] at hi
  obtain ⟨hz0, hsize, hby⟩ := hi
  cases hz : ie.zero with
  | none => simp [hz] at hz0
  | some z =>
   simp only [hz, Option.map_some, Option.some.injEq] at hz0
   have hmul : (n + 1) * bytes ≤ 1000000001 * 10000 := Nat.mul_le_mul (by omega) hsz.2
   refine wpList_step fun K hK => ?_
   rw [if_pos hg]
   refine wp_append_lies _ s x t ho base e ie z size bytes ht hie hz hsize hby hz0 hsz.1 v n xs hs (how.alloc _) ⟨w.heap.size, 0, none⟩ 1 1 cs hx (by rw [Nat.one_mul]; exact hc)
    (fun j u hj => by rw [Addr.add_lit, Nat.zero_add]; simpa using hj) (fun u hu => List.all_eq_true.1 h1 u hu) (by decide)
    (by have : maxLen = 9223372036854775807 := rfl; omega) (by omega) (by simp; omega) _ rfl (fun g' cap w' h2 h3 h4 h5 => hK _ _ (h g' cap w' h2 ?_ ?_))
   ·exact ((Below.refl _ w).alloc hbase _).trans (Below.grown (Below.refl _ _) h3 (by simp; omega) (fun k hk => ((how.alloc (.cells cs.toArray T)).lt k hk).1))
   ·have := h3.size
    simp at this
    omega
end Go.Proofs.YtgpibpkplhlihaaGreatDoor
namespace Go.Proofs.YtgpibpkplhlihaaGreatDoor
open Go Go.RowKit Go.Proofs Go.Ev
set_option linter.unusedVariables false
set_option linter.unusedSimpArgs false
def LStk (w W : World) (v : Value) (k : Nat) : Prop := ∃ l : List Pl, W.ownsRow w.heap.size 68 1 v l.length (l.map Pl.ptr) ∧ (∀ p ∈ l, Lies w p.t p.b p.off ∧ p.t.ok) ∧ szS l = k ∧ k ≤ 4194304 ∧ Below w.heap.size w W
theorem own_top {W : World} {base e n g cap : Nat} {xs : List Value} {x : Value} (h : W.ownsRow base e 1 (.slice (some ⟨g, 0, none⟩) (n + 1) cap) (n + 1) (xs ++ [x])) (hx : xs.length = n) : W.cell? ⟨g, n, none⟩ = some x ∧ base ≤ g := by
 obtain ⟨_, h2⟩ := h
 rcases h2 with ⟨h0, _⟩ | ⟨g', cap', cur, hv, hg, hh, hn, hcap, hsz, htake⟩
 ·cases h0
 ·cases hv
  refine ⟨?_, hg⟩
  simp only [World.cell?, hh]
  have : (cur.toList.take ((n + 1) * 1))[n]? = some x := by
   rw [htake, List.getElem?_append_right (by omega), hx]
   simp
  rw [List.getElem?_take] at this
  split at this
  ·simpa using this
  ·cases this
theorem own_succ {W : World} {base : Nat} {e : TypeId} {size : Nat} {v : Value} {k : Nat} {xs : List Value} (h : W.ownsRow base e size v (k + 1) xs) : ∃ g cap, v = .slice (some ⟨g, 0, none⟩) (k + 1) cap := by
 rcases h.2 with ⟨_, h0⟩ | ⟨g, cap, _, rfl, _⟩
 ·omega
 ·exact ⟨g, cap, rfl⟩
theorem len_leT : ∀ l : List Tree, l.length ≤ Tree.szL l
 | [] => Nat.le_refl _
 | p :: l => by
  have := len_leT l
  have h2 := sz_pos p
  rw [Tree.szL, List.length_cons]
  omega
def intOf : Value → Int
 | .int _ n => n
 | _ => 0
set_option maxHeartbeats 4000000 in
set_option maxRecDepth 1000000 in
theorem left_any (t : Tree) (u : Value) (b off : Nat) (w : World) (hL : Lies w t b off) (hs : t.sz ≤ 4194304) (ho : t.ok) : Calls Tryz.prog 36 #[u, .pointer (some ⟨b, off, none⟩)] w fun e w' => e = .returned (.tuple #[]) ∧ Below w.heap.size w w' := by
 go_enter Tryz.func36, Tryz.ntmps36
 go_wp2
 go_loopw [4] (fun v wr => ∃ k, LStk w wr v k) (fun v wr => leastOf (LStk w wr v))
 case atStart =>
  refine ⟨t.sz, [⟨b, off, t⟩], ?_, ?_, szS_one _, hs, (Below.refl _ _).alloc (Nat.le_refl _) _⟩
  ·exact World.ownsRow_lit _ _ _ (Nat.le_refl _) (by decide) rfl
  ·intro p hp
   rw [List.mem_singleton] at hp
   subst hp
   exact ⟨hL, ho⟩
 case round =>
  obtain ⟨⟨l, hown, hall, hsz, hk, hB⟩, hmin⟩ := leastOf_spec hrel
  rcases List.eq_nil_or_concat l with rfl | ⟨rest, p, rfl⟩
  ·obtain ⟨a, cap, rfl⟩ : ∃ a cap, u4 = .slice a 0 cap := by
    rcases hown.2 with ⟨e1, -⟩ | ⟨g, cap, cur, e1, -⟩
    ·exact ⟨_, _, e1⟩
    ·exact ⟨_, _, e1⟩
   go_wp2
   go_end0
   exact ⟨rfl, hB⟩
  ·rw [List.concat_eq_append] at hown hall hsz
   have hn1 : (rest ++ [p]).length = rest.length + 1 := by simp
   rw [hn1, List.map_append] at hown
   obtain ⟨g, cap, rfl⟩ := own_succ hown
   obtain ⟨hcell, hgb⟩ := own_top hown (by simp)
   have hpop : wr.ownsRow w.heap.size 68 1 (.slice (some ⟨g, 0, none⟩) rest.length cap) rest.length (rest.map Pl.ptr) := ownsRow_pop (by simp) hown
   rw [szS_app, szS_one] at hsz
   have hlen : rest.length ≤ 4194304 := by have := len_le rest; omega
   obtain ⟨hLp, hop⟩ := hall p (by simp)
   have hLw : Lies wr p.t p.b p.off := lies_below hB (Nat.le_refl _) _ _ _ hLp
   have hpb : p.b < w.heap.size := by cases hpt : p.t; rw [hpt, Lies] at hLp; exact hLp.1
   obtain ⟨pb, po, pt⟩ := p
   cases pt with
   | node k kids =>
   rw [Lies] at hLw
   obtain ⟨-, c0, -, ⟨ka, kcap, c2, hkids⟩, -, -⟩ := hLw
   simp only at c0 c2 hkids
   have i1 : (rest.length : Int) < ((rest.length + 1 : Nat) : Int) := by omega
   simp only [Pl.ptr, List.map_cons, List.map_nil] at hcell
   have j1 : IntKind.i64.wrap (rest.length : Int) = (rest.length : Int) := IntWalk.i64_in _ (by omega)
   have j4 : (rest.length : Int) < (rest.length : Int) + 1 := by omega
   have hcap : rest.length + 1 ≤ cap := by
    rcases hown.2 with ⟨e1, -⟩ | ⟨g', cap', cur, e1, -, -, e2, -⟩
    ·cases e1
    ·cases e1; exact e2
   have j5 : (rest.length : Int) ≤ (cap : Int) := by omega
   have j6 : rest.length ≤ cap := by omega
   have j2 : (0 : Int) ≤ (rest.length : Int) := by omega
   have j3 : ((rest.length : Int)).toNat = rest.length := by omega
   go_wp2
   go_quiet (fail)
   have hBq : Below w.heap.size w (wr.drewN nq) := below_drewN hB nq
   have hownq : (wr.drewN nq).ownsRow w.heap.size 68 1 (.slice (some ⟨g, 0, none⟩) rest.length cap) rest.length (rest.map Pl.ptr) := hpop
   clear hcell hown hpop c0 c2 hkids
   generalize wr.drewN nq = W at hBq hownq ⊢
   rw [Tree.ok] at hop
   obtain ⟨hbad, hokl⟩ := hop
   rw [Tree.sz] at hsz
   rw [Lies] at hLp
   obtain ⟨h0, c0, -, ⟨ka, kcap, c2, hkids⟩, -, -⟩ := hLp
   have hkl : kids.length ≤ 4194304 := by have := len_leT kids; omega
   have e0 : W.cell? ⟨pb, po, none⟩ = _ := (hBq.cell (p := ⟨pb, po, none⟩) h0).trans c0
   have e2 : W.cell? ⟨pb, po + 2, none⟩ = _ := (hBq.cell (p := ⟨pb, po + 2, none⟩) h0).trans c2
   obtain ⟨M, hM⟩ : ∃ M, M = szS rest + Tree.szL kids := ⟨_, rfl⟩
   have k1 : IntKind.i64.wrap ((kids.length : Int) - 1) = (kids.length : Int) - 1 := IntWalk.i64_in _ (by omega)
   have hcase : (¬ (k = 13)) ∨ (k = 13 ∧ ¬ ((kids.length : Int) = 1)) ∨ (k = 13 ∧ (kids.length : Int) = 1 ∧ ∃ (tb to : Nat) (k1 : Int), ka = some ⟨tb, to, none⟩ ∧ W.cell? ⟨tb, to, none⟩ = some (.int .i64 k1) ∧ (k1 == 45) = false) := by
    by_cases hk : k = 13
    ·by_cases hl : kids.length = 1
     ·obtain ⟨t1, ht1⟩ : ∃ t1, kids[0]? = some t1 := ⟨_, List.getElem?_eq_getElem (by omega)⟩
      have hkind : ¬ (t1.kind = 45) := fun e => hbad ⟨hk, t1, by
       obtain ⟨t3, rfl⟩ := List.length_eq_one_iff.1 hl
       simpa using ht1, e⟩
      cases t1 with
      | node k1 l1 =>
      obtain ⟨tb, to, hka, hkid1⟩ := liesL_at hkids ht1
      rw [Lies] at hkid1
      obtain ⟨h01, d0, -⟩ := hkid1
      rw [show (0 + 0) * 5 = 0 from rfl, Nat.add_zero] at d0
      exact .inr (.inr ⟨hk, by omega, tb, to, k1, hka, (hBq.cell (p := ⟨tb, to, none⟩) (by simpa using h01)).trans d0, beq_false_of_ne hkind⟩)
     ·exact .inr (.inl ⟨hk, by omega⟩)
    ·exact .inl hk
   have hl3 : (kids.length : Int) = 1 → (0 : Int) < (kids.length : Int) := by omega
   rcases hcase with hk | ⟨rfl, hl⟩ | ⟨rfl, hl, tb, to, k1, rfl, d0, hk1⟩
   all_goals try (have hl3 := hl3 hl)
   all_goals go_wp2
   all_goals
    go_loopw [4, 5] (fun v x wq => ∃ (j : Nat) (l : List Pl), j ≤ kids.length ∧ x = .int .i64 ((j : Int) - 1) ∧ wq.ownsRow w.heap.size 68 1 v l.length (l.map Pl.ptr) ∧ (∀ p ∈ l, Lies w p.t p.b p.off ∧ p.t.ok) ∧ szS l + Tree.szL (kids.take j) = M ∧ Below w.heap.size w wq) (fun v x _ => (intOf x + 1).toNat)
    case atStart =>
     refine ⟨kids.length, rest, Nat.le_refl _, congrArg (Value.int .i64) (by omega), ?_, fun p hp => hall p (List.mem_append_left _ hp), ?_, hBq⟩
     ·exact hownq
     ·rw [List.take_length]; exact hM.symm
    case round =>
     obtain ⟨j, l, hj, rfl, hown2, hall2, hsz2, hB2⟩ := hrel
     have f2 := (hB2.cell (p := ⟨pb, po + 2, none⟩) h0).trans c2
     have hln : l.length ≤ 4194304 := by have := len_le l; omega
     cases j with
     | zero =>
      go_wp2
      rw [List.take_zero, Tree.szL] at hsz2
      have hh : LStk w _ _ M := ⟨l, hown2, hall2, hsz2, by omega, hB2⟩
      exact ⟨⟨M, hh⟩, Nat.lt_of_le_of_lt ((leastOf_spec ⟨M, hh⟩).2 M hh) (by omega)⟩
     | succ j =>
      have e1 : ((j + 1 : Nat) : Int) - 1 = (j : Int) := by omega
      rw [e1]
      obtain ⟨t2, ht2⟩ : ∃ t2, kids[j]? = some t2 := ⟨_, List.getElem?_eq_getElem hj⟩
      obtain ⟨kb, ko, hka, hLt⟩ := liesL_at hkids ht2
      obtain ⟨q, hq⟩ : ∃ q : Pl, q = ⟨kb, ko + j * 5, t2⟩ := ⟨_, rfl⟩
      cases hka
      have g1 : (j : Int) < (kids.length : Int) := by omega
      have g2 : (0 : Int) ≤ (j : Int) := by omega
      have g4 : (j : Int).toNat = j := by omega
      have g3 : IntKind.i64.wrap ((j : Int) - 1) = (j : Int) - 1 := IntWalk.i64_in _ (by omega)
      go_wp2_with (refine wpList_appX 106 68 1 8 rfl rfl (by kernel_rfl) (by kernel_rfl) (by kernel_rfl) hown2 rfl rfl rfl rfl (by omega) hB2.size ?_; intro g' cap' w' hown' hB' hsz')
      have h1 := okL_at hokl ht2
      rw [Nat.zero_add] at hLt
      have hA : ∃ (j1 : Nat) (l1 : List Pl), j1 ≤ kids.length ∧ Value.int .i64 ((j : Int) - 1) = .int .i64 ((j1 : Int) - 1) ∧ w'.ownsRow w.heap.size 68 1 (.slice (some ⟨g', 0, none⟩) (l.length + 1) cap') l1.length (l1.map Pl.ptr) ∧ (∀ p ∈ l1, Lies w p.t p.b p.off ∧ p.t.ok) ∧ szS l1 + Tree.szL (kids.take j1) = M ∧ Below w.heap.size w w' := by
       refine ⟨j, l ++ [q], by omega, rfl, ?_, ?_, ?_, hB2.trans hB'⟩
       ·rw [List.length_append, List.map_append, hq]; exact hown'
       ·intro p hp
        rcases List.mem_append.1 hp with hp | hp
        ·exact hall2 p hp
        ·rw [List.mem_singleton] at hp; rw [hp, hq]; exact ⟨hLt, h1⟩
       ·rw [szS_app, szS_one, hq]; have := szL_take kids j t2 ht2; show _ + t2.sz + _ = _; omega
      exact ⟨hA, by simp only [intOf]; omega⟩
end Go.Proofs.YtgpibpkplhlihaaGreatDoor
