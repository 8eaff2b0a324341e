/- Lemmas on the evaluator's own data: tries, logs, lists of cells, strings as numbers, and what an abstract value stands for. -/
import Derived.Test.YtbflihggpacblaaGreatDoorEvDef
set_option linter.unusedVariables false
set_option linter.unusedSimpArgs false
namespace Go.Ev

/-! ### tries -/
theorem Tr.get_nil {α : Type} (n : Nat) : (Tr.nil : Tr α).get n = none := rfl
theorem Tr.get_node_zero {α : Type} (l r : Tr α) (v : Option α) : (Tr.node l v r).get 0 = v := rfl
theorem Tr.get_node_succ {α : Type} (l r : Tr α) (v : Option α) (m : Nat) :
    (Tr.node l v r).get (m + 1) = if m % 2 = 0 then l.get (m / 2) else r.get (m / 2) := by
  show Bool.rec (motive := fun _ => Option α) (r.get (m / 2)) (l.get (m / 2)) (Nat.beq (m % 2) 0) = _
  by_cases h : m % 2 = 0
  · rw [if_pos h, h]; rfl
  · rw [if_neg h]
    have : Nat.beq (m % 2) 0 = false := by
      cases hb : Nat.beq (m % 2) 0 with
      | false => rfl
      | true => exact absurd (Nat.eq_of_beq_eq_true hb) h
    rw [this]
theorem Tr.put_nil {α : Type} (n : Nat) (x : α) : (Tr.nil : Tr α).put n x = Tr.oneF x (n + 1) n := rfl
theorem Tr.put_node_zero {α : Type} (l r : Tr α) (v : Option α) (x : α) : (Tr.node l v r).put 0 x = .node l (some x) r := rfl
theorem Tr.put_node_succ {α : Type} (l r : Tr α) (v : Option α) (m : Nat) (x : α) :
    (Tr.node l v r).put (m + 1) x = if m % 2 = 0 then .node (l.put (m / 2) x) v r else .node l v (r.put (m / 2) x) := by
  show Bool.rec (motive := fun _ => Tr α) (.node l v (r.put (m / 2) x)) (.node (l.put (m / 2) x) v r) (Nat.beq (m % 2) 0) = _
  by_cases h : m % 2 = 0
  · rw [if_pos h, h]; rfl
  · rw [if_neg h]
    have : Nat.beq (m % 2) 0 = false := by
      cases hb : Nat.beq (m % 2) 0 with
      | false => rfl
      | true => exact absurd (Nat.eq_of_beq_eq_true hb) h
    rw [this]
theorem Tr.get_oneF {α : Type} (x : α) : ∀ (f n m : Nat), n < f → (Tr.oneF x f n).get m = if m = n then some x else none
  | 0, _, _, h => absurd h (Nat.not_lt_zero _)
  | f + 1, n, m, h => by
    cases n with
    | zero =>
      cases m with
      | zero => rfl
      | succ m => rw [Tr.oneF, Tr.get_node_succ]; simp [Tr.get_nil]
    | succ n =>
      have hlt : n / 2 < f := by omega
      rw [Tr.oneF]
      by_cases hb : n % 2 = 0
      · have : Nat.beq (Nat.mod n 2) 0 = true := by show Nat.beq (n % 2) 0 = true; rw [hb]; rfl
        rw [this]
        cases m with
        | zero => simp [Tr.get_node_zero]
        | succ m =>
          simp only [Tr.get_node_succ, Tr.get_nil]
          have ih := Tr.get_oneF x f (n / 2) (m / 2) hlt
          by_cases hm : m % 2 = 0
          · rw [if_pos hm]
            show (Tr.oneF x f (n / 2)).get (m / 2) = _
            rw [ih]
            by_cases he : m = n
            · subst he; simp
            · rw [if_neg (by omega), if_neg (by omega)]
          · rw [if_neg hm, if_neg (by omega)]
      · have : Nat.beq (Nat.mod n 2) 0 = false := by
          show Nat.beq (n % 2) 0 = false
          cases hb' : Nat.beq (n % 2) 0 with
          | false => rfl
          | true => exact absurd (Nat.eq_of_beq_eq_true hb') hb
        rw [this]
        cases m with
        | zero => simp [Tr.get_node_zero]
        | succ m =>
          simp only [Tr.get_node_succ, Tr.get_nil]
          have ih := Tr.get_oneF x f (n / 2) (m / 2) hlt
          by_cases hm : m % 2 = 0
          · rw [if_pos hm, if_neg (by omega)]
          · rw [if_neg hm]
            show (Tr.oneF x f (n / 2)).get (m / 2) = _
            rw [ih]
            by_cases he : m = n
            · subst he; simp
            · rw [if_neg (by omega), if_neg (by omega)]
theorem Tr.get_put {α : Type} (t : Tr α) : ∀ (n m : Nat) (x : α), (t.put n x).get m = if m = n then some x else t.get m := by
  induction t with
  | nil => intro n m x; rw [Tr.put_nil, Tr.get_oneF x _ _ _ (Nat.lt_succ_self n), Tr.get_nil]
  | node l v r ihl ihr =>
    intro n m x
    cases n with
    | zero =>
      rw [Tr.put_node_zero]
      cases m with
      | zero => rfl
      | succ m => rw [Tr.get_node_succ, Tr.get_node_succ]; simp
    | succ n =>
      rw [Tr.put_node_succ]
      by_cases hn : n % 2 = 0
      · rw [if_pos hn]
        cases m with
        | zero => simp [Tr.get_node_zero]
        | succ m =>
          rw [Tr.get_node_succ, Tr.get_node_succ, ihl]
          by_cases hm : m % 2 = 0
          · simp only [if_pos hm]
            by_cases he : m = n
            · subst he; simp
            · rw [if_neg (by omega), if_neg (by omega)]
          · simp only [if_neg hm]; rw [if_neg (by omega)]
      · rw [if_neg hn]
        cases m with
        | zero => simp [Tr.get_node_zero]
        | succ m =>
          rw [Tr.get_node_succ, Tr.get_node_succ, ihr]
          by_cases hm : m % 2 = 0
          · simp only [if_pos hm]; rw [if_neg (by omega)]
          · simp only [if_neg hm]
            by_cases he : m = n
            · subst he; simp
            · rw [if_neg (by omega), if_neg (by omega)]

theorem H.get_put (h : H) (b c : Nat) (x : Blk) : (h.put b x).get c = if c = b then some x else h.get c := Tr.get_put h.t b c x
theorem H.next_put (h : H) (b : Nat) (x : Blk) : (h.put b x).next = h.next := rfl
theorem H.get_new (h : H) (c : Nat) (x : Blk) : (h.new x).get c = if c = h.next then some x else h.get c := by
  obtain ⟨n, t⟩ := h
  cases n with
  | zero => exact Tr.get_put t 0 c x
  | succ n => exact Tr.get_put t (n + 1) c x
theorem H.next_new (h : H) (x : Blk) : (h.new x).next = h.next + 1 := by
  obtain ⟨n, t⟩ := h
  cases n <;> rfl

/-! ### the log -/
theorem findLog_nil (t : Nat) : findLog t [] = none := rfl
theorem findLog_cons (t u : Nat) (v : AV) (l : List (Nat × AV)) : findLog t ((u, v) :: l) = if u = t then some v else findLog t l := by
  show Bool.rec (motive := fun _ => Option AV) (findLog t l) (some v) (Nat.beq u t) = _
  by_cases h : u = t
  · subst h; simp
  · have : Nat.beq u t = false := by
      cases hb : Nat.beq u t with
      | false => rfl
      | true => exact absurd (Nat.eq_of_beq_eq_true hb) h
    rw [this, if_neg h]

/-! ### lists -/
theorem nthV_eq (l : List AV) : ∀ n, nthV l n = l[n]? := by
  induction l with
  | nil => intro n; rfl
  | cons x l ih =>
    intro n
    cases n with
    | zero => rfl
    | succ n => show nthV l n = _; rw [ih]; rfl
theorem lenL_eq (l : List AV) : lenL l = l.length := by
  induction l with
  | nil => rfl
  | cons x l ih => show Nat.succ (lenL l) = _; rw [ih]; rfl
theorem takeL_some : ∀ (n : Nat) (l r : List AV), takeL n l = some r → n ≤ l.length ∧ r = l.take n
  | 0, l, r, h => by cases h; simp
  | n + 1, [], r, h => by cases h
  | n + 1, x :: l, r, h => by
    simp only [takeL] at h
    split at h
    · rename_i r' h'
      cases h
      obtain ⟨h1, h2⟩ := takeL_some n l r' h'
      subst h2
      simp [h1]
    · cases h
theorem dropL_some : ∀ (n : Nat) (l r : List AV), dropL n l = some r → n ≤ l.length ∧ r = l.drop n
  | 0, l, r, h => by cases h; simp
  | n + 1, [], r, h => by cases h
  | n + 1, x :: l, r, h => by
    obtain ⟨h1, h2⟩ := dropL_some n l r h
    subst h2
    simp [h1]
theorem overL_some : ∀ (vs l r : List AV), overL vs l = some r → vs.length ≤ l.length ∧ r = vs ++ l.drop vs.length
  | [], l, r, h => by cases h; simp
  | v :: vs, [], r, h => by cases h
  | v :: vs, x :: l, r, h => by
    simp only [overL] at h
    split at h
    · rename_i r' h'
      cases h
      obtain ⟨h1, h2⟩ := overL_some vs l r' h'
      subst h2
      simp [h1]
    · cases h
theorem writeL_some : ∀ (n : Nat) (vs l r : List AV), writeL n vs l = some r → n + vs.length ≤ l.length ∧ r = l.take n ++ (vs ++ l.drop (n + vs.length))
  | 0, vs, l, r, h => by
    obtain ⟨h1, h2⟩ := overL_some vs l r h
    subst h2
    simp [h1]
  | n + 1, vs, [], r, h => by cases h
  | n + 1, vs, x :: l, r, h => by
    simp only [writeL] at h
    split at h
    · rename_i r' h'
      cases h
      obtain ⟨h1, h2⟩ := writeL_some n vs l r' h'
      subst h2
      refine ⟨by simp; omega, ?_⟩
      have : n + 1 + vs.length = (n + vs.length) + 1 := by omega
      rw [this]
      simp
    · cases h
/-- what stands at a place behind a write -/
theorem writeL_get {n : Nat} {vs l r : List AV} (h : writeL n vs l = some r) (i : Nat) :
    r[i]? = if n ≤ i ∧ i < n + vs.length then vs[i - n]? else l[i]? := by
  obtain ⟨h1, h2⟩ := writeL_some n vs l r h
  subst h2
  rw [List.getElem?_append, List.getElem?_append]
  have hl : (l.take n).length = n := by simp; omega
  rw [hl]
  by_cases ha : i < n
  · rw [if_pos ha, if_neg (by omega), List.getElem?_take, if_pos ha]
  · rw [if_neg ha]
    by_cases hb : i - n < vs.length
    · rw [if_pos hb, if_pos (by omega)]
    · rw [if_neg hb, if_neg (by omega), List.getElem?_drop]
      congr 1
      omega
theorem writeL_length {n : Nat} {vs l r : List AV} (h : writeL n vs l = some r) : r.length = l.length := by
  obtain ⟨h1, h2⟩ := writeL_some n vs l r h
  subst h2
  simp
  omega

end Go.Ev
