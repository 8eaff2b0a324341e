/- A stack of trees' places that a call keeps in a slice of its own: what is on it, one more, one less; a least number. No condition. -/
import Derived.Test.YtmlhldohlfghaaaGreatDoorProg
import Derived.Test.YtmlhldohlfghaaaGreatDoorEvTmG
import Derived.Below
import Derived.WalkKit
import Derived.WalkSmall
import Derived.Laws.Cells
import Derived.Laws.OwnMore
import Derived.Deep.AppendLies
import Derived.ChangeArms
import Derived.DataReads
import Derived.ChangeOld
namespace Go.Proofs.YtmlhldohlfghaaaGreatDoor
open Go Go.RowKit Go.Proofs Go.Ev
set_option linter.unusedVariables false
set_option linter.unusedSimpArgs false

theorem least {p : Nat → Prop} : ∀ (k : Nat), p k → ∃ m, p m ∧ ∀ j, p j → m ≤ j := by
  intro k
  induction k using Nat.strongRecOn with
  | _ k ih =>
    intro hk
    by_cases h : ∃ j, p j ∧ j < k
    · obtain ⟨j, hj, hlt⟩ := h
      exact ih j hlt hj
    · exact ⟨k, hk, fun j hj => by
        rcases Nat.lt_or_ge j k with h1 | h1
        · exact absurd ⟨j, hj, h1⟩ h
        · exact h1⟩
open Classical in
/-- the least number that will do -/
noncomputable def leastOf (p : Nat → Prop) : Nat := if h : ∃ k, p k then Classical.choose (least (Classical.choose h) (Classical.choose_spec h)) else 0
theorem leastOf_spec {p : Nat → Prop} (h : ∃ k, p k) : p (leastOf p) ∧ ∀ j, p j → leastOf p ≤ j := by
  unfold leastOf
  rw [dif_pos h]
  exact Classical.choose_spec (least (Classical.choose h) (Classical.choose_spec h))

theorem lies_below {w w' : World} {m : Nat} (hB : Below m w w') (hm : w.heap.size ≤ m) : (∀ t b off, Lies w t b off → Lies w' t b off) := by
  have key : ∀ n : Nat, (∀ t b off, t.sz ≤ n → Lies w t b off → Lies w' t b off) ∧ (∀ l a i, Tree.szL l ≤ n → LiesL w l a i → LiesL w' l a i) := by
    intro n
    induction n using Nat.strongRecOn with
    | _ n ih =>
      have h1 : ∀ t b off, t.sz ≤ n → Lies w t b off → Lies w' t b off := by
        intro t b off hs h
        cases t with
        | node k l =>
          rw [Tree.sz] at hs
          rw [Lies] at h ⊢
          obtain ⟨h0, h1, ⟨x1, h2⟩, ⟨a, cap, h3, h4⟩, ⟨x3, h5⟩, ⟨x4, h6⟩⟩ := h
          have c : ∀ i, w'.cell? ⟨b, i, none⟩ = w.cell? ⟨b, i, none⟩ := fun i => hB.cell (p := ⟨b, i, none⟩) (Nat.lt_of_lt_of_le h0 hm)
          rw [c, c, c, c, c]
          exact ⟨Nat.lt_of_lt_of_le h0 hB.size, h1, ⟨x1, h2⟩, ⟨a, cap, h3, (ih (Tree.szL l) (by omega)).2 l a 0 (Nat.le_refl _) h4⟩, ⟨x3, h5⟩, ⟨x4, h6⟩⟩
      refine ⟨h1, ?_⟩
      intro l
      induction l with
      | nil => intro a i _ _; rw [LiesL]; trivial
      | cons t ts ih2 =>
        intro a i hs h
        rw [Tree.szL] at hs
        rw [LiesL] at h ⊢
        obtain ⟨⟨b, off, hb, ht⟩, hl⟩ := h
        exact ⟨⟨b, off, hb, h1 _ _ _ (by omega) ht⟩, ih2 _ _ (by omega) hl⟩
  exact fun t b off h => (key t.sz).1 t b off (Nat.le_refl _) h
theorem liesL_at {w : World} : ∀ {l : List Tree} {a : Option Addr} {i j : Nat} {t : Tree}, LiesL w l a i → l[j]? = some t → ∃ b off, a = some ⟨b, off, none⟩ ∧ Lies w t b (off + (i + j) * 5)
  | [], a, i, j, t, _, h => by simp at h
  | x :: xs, a, i, j, t, hL, h => by
    rw [LiesL] at hL
    obtain ⟨⟨b, off, hb, ht⟩, hl⟩ := hL
    match j with
    | 0 =>
      simp only [List.getElem?_cons_zero, Option.some.injEq] at h
      subst h
      exact ⟨b, off, hb, ht⟩
    | j + 1 =>
      rw [List.getElem?_cons_succ] at h
      obtain ⟨b', off', hb', ht'⟩ := liesL_at hl h
      exact ⟨b', off', hb', by rw [show i + (j + 1) = i + 1 + j by omega]; exact ht'⟩
theorem okL_at : ∀ {l : List Tree} {j : Nat} {t : Tree}, Tree.okL l → l[j]? = some t → t.ok
  | [], j, t, _, h => by simp at h
  | x :: xs, j, t, ho, h => by
    rw [Tree.okL] at ho
    match j with
    | 0 => simp only [List.getElem?_cons_zero, Option.some.injEq] at h; subst h; exact ho.1
    | j + 1 => rw [List.getElem?_cons_succ] at h; exact okL_at ho.2 h
theorem szL_take : ∀ (l : List Tree) (j : Nat) (t : Tree), l[j]? = some t → Tree.szL (l.take (j + 1)) = Tree.szL (l.take j) + t.sz
  | [], j, t, h => by simp at h
  | x :: xs, 0, t, h => by
    simp only [List.getElem?_cons_zero, Option.some.injEq] at h
    subst h
    simp [Tree.szL]
  | x :: xs, j + 1, t, h => by
    rw [List.getElem?_cons_succ] at h
    have := szL_take xs j t h
    rw [List.take_succ_cons, List.take_succ_cons, Tree.szL, Tree.szL, this]
    omega
theorem dpL_at : ∀ {l : List Tree} {j : Nat} {t : Tree}, l[j]? = some t → t.dp ≤ Tree.dpL l
  | [], j, t, h => by simp at h
  | x :: xs, 0, t, h => by
    simp only [List.getElem?_cons_zero, Option.some.injEq] at h
    subst h
    rw [Tree.dpL]; exact Nat.le_max_left _ _
  | x :: xs, j + 1, t, h => by
    rw [List.getElem?_cons_succ] at h
    rw [Tree.dpL]
    exact Nat.le_trans (dpL_at h) (Nat.le_max_right _ _)
theorem sz_pos : ∀ (t : Tree), 1 ≤ t.sz
  | .node k l => by rw [Tree.sz]; omega

/-- a tree's place -/
structure Pl where
  b : Nat
  off : Nat
  t : Tree
/-- how many nodes the places have -/
def szS (l : List Pl) : Nat := (l.map fun p => p.t.sz).sum
theorem szS_app (l m : List Pl) : szS (l ++ m) = szS l + szS m := by simp [szS]
theorem szS_one (p : Pl) : szS [p] = p.t.sz := by simp [szS]
theorem len_le : ∀ l : List Pl, l.length ≤ szS l
  | [] => Nat.le_refl _
  | p :: l => by
    have := len_le l
    have h2 := sz_pos p.t
    simp only [szS, List.map_cons, List.sum_cons, List.length_cons] at this ⊢
    omega
def Pl.ptr (p : Pl) : Value := .pointer (some ⟨p.b, p.off, none⟩)

/-- one element more, whose cells have just been laid -/
theorem wpList_appX {P : Program} {ops : Array Oper} {rest : List Oper} {o : Oper} {a : Act} {Q : Exit → Act → World → Prop} {w : World} {cs : List Value} {T : TypeId} (t e size bytes : Nat) (hg : Region.wanted o (yielded ops a.tmps) = true) {s x : Operand}
    (ho : o.op = .call { callee := .builtin .append, args := #[s, x], argTypes := #[t, t] })
    (ht : P.underlying t = some (.slice e)) (hi : (P.info? e).map (fun i => (i.zero.map (·.cells.size), i.size, i.bytes)) = some (some size, size, bytes)) (hsz : (Nat.blt 0 size && Nat.ble bytes 10000) = true)
    {base : Nat} {v : Value} {n : Nat} {xs : List Value} (how : w.ownsRow base e size v n xs) (hs : a.eval s = v) (hx : a.eval x = .slice (some ⟨w.heap.size, 0, none⟩) 1 1) (hc : cs.length = size) (h1 : cs.all (fun u => u.oneCell') = true)
    (hn : n ≤ 1000000000) (hbase : base ≤ w.heap.size)
    (h : ∀ g cap w', w'.ownsRow base e size (.slice (some ⟨g, 0, none⟩) (n + 1) cap) (n + 1) (xs ++ cs) → Below base w w' → w.heap.size ≤ w'.heap.size → wpList P ops Q rest (a.put o.dst (.slice (some ⟨g, 0, none⟩) (n + 1) cap)) w') :
    wpList P ops Q (o :: rest) a (w.alloc (.cells cs.toArray T)) := by
  simp only [Bool.and_eq_true, Nat.blt_eq, Nat.ble_eq] at hsz
  cases hie : P.info? e with
  | none => simp [hie] at hi
  | some ie =>
    simp only [hie, Option.map_some, Option.some.injEq, Prod.mk.injEq] at hi
    obtain ⟨hz0, hsize, hby⟩ := hi
    cases hz : ie.zero with
    | none => simp [hz] at hz0
    | some z =>
      simp only [hz, Option.map_some, Option.some.injEq] at hz0
      have hmul : (n + 1) * bytes ≤ 1000000001 * 10000 := Nat.mul_le_mul (by omega) hsz.2
      refine wpList_step fun K hK => ?_
      rw [if_pos hg]
      refine wp_append_lies _ s x t ho base e ie z size bytes ht hie hz hsize hby hz0 hsz.1 v n xs hs (how.alloc _) ⟨w.heap.size, 0, none⟩ 1 1 cs hx (by rw [Nat.one_mul]; exact hc)
        (fun j u hj => by rw [Addr.add_lit, Nat.zero_add]; simpa using hj) (fun u hu => List.all_eq_true.1 h1 u hu) (by decide)
        (by have : maxLen = 9223372036854775807 := rfl; omega) (by omega) (by simp; omega) _ rfl (fun g' cap w' h2 h3 h4 h5 => hK _ _ (h g' cap w' h2 ?_ ?_))
      · exact ((Below.refl _ w).alloc hbase _).trans (Below.grown (Below.refl _ _) h3 (by simp; omega) (fun k hk => ((how.alloc (.cells cs.toArray T)).lt k hk).1))
      · have := h3.size
        simp at this
        omega
end Go.Proofs.YtmlhldohlfghaaaGreatDoor
