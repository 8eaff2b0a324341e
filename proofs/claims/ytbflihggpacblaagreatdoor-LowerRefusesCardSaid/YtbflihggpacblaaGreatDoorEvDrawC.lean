/- Drawn regions: whatever order is drawn, what comes out is what the evaluator got. -/
import Derived.Test.YtbflihggpacblaaGreatDoorEvDrawU
import Derived.OrdersIn
set_option linter.unusedVariables false
set_option linter.unusedSimpArgs false
namespace Go.Ev
set_option linter.unusedSectionVars false
variable [Sig]

theorem ieq_sound {a b : Int} (h : ieq a b = true) : a = b := by
  cases a <;> cases b <;> simp only [ieq] at h <;> first | (cases h; done) | (rw [Nat.eq_of_beq_eq_true h])
mutual
theorem AV.beq_eq : ∀ (v u : AV), AV.beq v u = true → v = u
  | .bool a, u, h => by cases u <;> simp [AV.beq] at h ⊢ <;> exact h
  | .int j a, u, h => by
    cases u <;> simp only [AV.beq, Bool.and_eq_true] at h <;> try (cases h; done)
    obtain ⟨h1, h2⟩ := h
    have := ikeq_eq h1; subst this
    have : a = _ := ieq_sound h2
    rw [this]
  | .str l c, u, h => by
    cases u <;> simp only [AV.beq, Bool.and_eq_true] at h <;> try (cases h; done)
    rw [Nat.eq_of_beq_eq_true h.1, Nat.eq_of_beq_eq_true h.2]
  | .ptr l c, u, h => by
    cases u <;> simp only [AV.beq, Bool.and_eq_true] at h <;> try (cases h; done)
    rw [Nat.eq_of_beq_eq_true h.1, Nat.eq_of_beq_eq_true h.2]
  | .nilptr, u, h => by cases u <;> simp only [AV.beq] at h <;> first | rfl | cases h
  | .nilslice, u, h => by cases u <;> simp only [AV.beq] at h <;> first | rfl | cases h
  | .nilmap, u, h => by cases u <;> simp only [AV.beq] at h <;> first | rfl | cases h
  | .nilfunc, u, h => by cases u <;> simp only [AV.beq] at h <;> first | rfl | cases h
  | .niliface, u, h => by cases u <;> simp only [AV.beq] at h <;> first | rfl | cases h
  | .slice a b c d e, u, h => by
    cases u <;> simp only [AV.beq, Bool.and_eq_true] at h <;> try (cases h; done)
    obtain ⟨⟨⟨⟨h1, h2⟩, h3⟩, h4⟩, h5⟩ := h
    rw [Nat.eq_of_beq_eq_true h1, Nat.eq_of_beq_eq_true h2, Nat.eq_of_beq_eq_true h3, Nat.eq_of_beq_eq_true h4, beq_iff_eq.1 h5]
  | .map a, u, h => by
    cases u <;> simp only [AV.beq] at h <;> try (cases h; done)
    rw [Nat.eq_of_beq_eq_true h]
  | .yield a, u, h => by
    cases u <;> simp only [AV.beq] at h <;> try (cases h; done)
    rw [Nat.eq_of_beq_eq_true h]
  | .iface t v, u, h => by
    cases u <;> simp only [AV.beq, Bool.and_eq_true] at h <;> try (cases h; done)
    rw [Nat.eq_of_beq_eq_true h.1, AV.beq_eq v _ h.2]
  | .agg a, u, h => by
    cases u <;> simp only [AV.beq] at h <;> try (cases h; done)
    rw [AV.beqL_eq a _ h]
  | .tuple a, u, h => by
    cases u <;> simp only [AV.beq] at h <;> try (cases h; done)
    rw [AV.beqL_eq a _ h]
  | .func f a b, u, h => by
    cases f with
    | func f =>
      cases u with
      | func g c d =>
        cases g with
        | func g =>
          simp only [AV.beq, Bool.and_eq_true] at h
          rw [Nat.eq_of_beq_eq_true h.1.1, AV.beqL_eq a _ h.1.2, AV.beqL_eq b _ h.2]
        | _ => simp [AV.beq] at h
      | _ => simp [AV.beq] at h
    | _ => cases u <;> simp [AV.beq] at h
theorem AV.beqL_eq : ∀ (v u : List AV), AV.beqL v u = true → v = u
  | [], u, h => by cases u <;> simp only [AV.beqL] at h <;> first | rfl | cases h
  | x :: xs, u, h => by
    cases u <;> simp only [AV.beqL, Bool.and_eq_true] at h <;> try (cases h; done)
    rw [AV.beq_eq x _ h.1, AV.beqL_eq xs _ h.2]
end

theorem recheck_mem {r : Rec} {a : A} {h : H} : ∀ {l : List XOper}, recheck r a h l = true → ∀ o ∈ l, wantedX o.guard a = some true → ∃ v h' , runOp o.op r a h = .val v h' ∧ getD o.dst a = some v
  | [], _, o, ho, _ => by cases ho
  | p :: l, hh, o, ho, hw => by
    simp only [recheck, Bool.and_eq_true] at hh
    rcases List.mem_cons.1 ho with rfl | ho
    · have h1 := hh.1
      rw [hw] at h1
      simp only at h1
      split at h1
      · rename_i v h' u hr hg
        have := AV.beq_eq _ _ h1
        subst this
        exact ⟨v, h', hr, hg⟩
      · cases h1
    · exact recheck_mem hh.2 o ho hw

theorem Tr.get_del {α : Type} : ∀ (t : Tr α) (n m : Nat), (t.del n).get m = if m = n then none else t.get m
  | .nil, n, m => by simp [Tr.del, Tr.get_nil]
  | .node l v r, 0, m => by
    cases m with
    | zero => simp [Tr.del, Tr.get_node_zero]
    | succ m => simp [Tr.del, Tr.get_node_succ]
  | .node l v r, n + 1, m => by
    have ihl := Tr.get_del l (n / 2)
    have ihr := Tr.get_del r (n / 2)
    have hdel : (Tr.node l v r).del (n + 1) = if n % 2 = 0 then .node (l.del (n / 2)) v r else .node l v (r.del (n / 2)) := by
      simp only [Tr.del]
      split
      · rename_i hb; have hb' : n % 2 = 0 := Nat.eq_of_beq_eq_true hb; rw [if_pos hb']; rfl
      · rename_i hb
        have hb' : ¬ n % 2 = 0 := fun he => by
          have : Nat.beq (n % 2) 0 = true := by rw [he]; rfl
          have hb2 : Nat.beq (n % 2) 0 = false := hb
          rw [this] at hb2; cases hb2
        rw [if_neg hb']; rfl
    rw [hdel]
    cases m with
    | zero => split <;> simp [Tr.get_node_zero]
    | succ m =>
      by_cases hn : n % 2 = 0
      · rw [if_pos hn, Tr.get_node_succ, Tr.get_node_succ]
        by_cases hm : m % 2 = 0
        · rw [if_pos hm, if_pos hm, ihl]
          by_cases he : m = n
          · rw [if_pos (by omega), if_pos (by omega)]
          · rw [if_neg (by omega), if_neg (by omega)]
        · rw [if_neg hm, if_neg hm, if_neg (by omega)]
      · rw [if_neg hn, Tr.get_node_succ, Tr.get_node_succ]
        by_cases hm : m % 2 = 0
        · rw [if_pos hm, if_pos hm, if_neg (by omega)]
        · rw [if_neg hm, if_neg hm, ihr]
          by_cases he : m = n
          · rw [if_pos (by omega), if_pos (by omega)]
          · rw [if_neg (by omega), if_neg (by omega)]
theorem delAll_get : ∀ (qs : List Nat) (t : Tr AV) (k : Nat) (v : AV), (delAll qs t).get k = some v → k ∉ qs ∧ t.get k = some v
  | [], t, k, v, h => ⟨by simp, h⟩
  | q :: qs, t, k, v, h => by
    obtain ⟨h1, h2⟩ := delAll_get qs (t.del q) k v h
    rw [Tr.get_del] at h2
    split at h2
    · cases h2
    · rename_i hne; exact ⟨by simp [h1, hne], h2⟩

theorem sameD_symm {d e : XD} (h : sameD d e = false) : sameD e d = false := by
  cases d <;> cases e <;> simp only [sameD] at h ⊢
  · rename_i t u; cases hb : Nat.beq u t with
    | false => rfl
    | true => have := Nat.eq_of_beq_eq_true hb; subst this; rw [Nat.beq_refl] at h; cases h
  · rename_i t u; cases hb : Nat.beq u t with
    | false => rfl
    | true => have := Nat.eq_of_beq_eq_true hb; subst this; rw [Nat.beq_refl] at h; cases h

/-! ### what has been placed -/
section
variable {u : Bool} {P : Program} {n vm : Nat} {ops : List Oper}
inductive Placed (u : Bool) (P : Program) (n vm : Nat) (ops : List Oper) : List Pl → Prop
  | nil : Placed u P n vm ops []
  | cons {ps : List Pl} {p : Pl} (h : PlOk u P n vm ops ps p) (t : Placed u P n vm ops ps) : Placed u P n vm ops (p :: ps)
theorem Placed.good : ∀ {ps : List Pl}, Placed u P n vm ops ps → ∀ s ∈ ps, GoodPl ops s
  | [], _, s, hs => by cases hs
  | p :: ps, .cons h t, s, hs => by
    rcases List.mem_cons.1 hs with rfl | hs
    · exact h.good t.good
    · exact t.good s hs
theorem Placed.oper : ∀ {ps : List Pl}, Placed u P n vm ops ps → ∀ s ∈ ps, (∃ o, ops[s.i]? = some o ∧ s.q = isQuietU u o.op ∧ s.x = cOper P n vm ops o) ∧ (s.q = true → xquietU u s.x.op = true ∧ hits s.x.dst (xreadsO s.x) = false)
  | [], _, s, hs => by cases hs
  | p :: ps, .cons h t, s, hs => by
    rcases List.mem_cons.1 hs with rfl | hs
    · obtain ⟨o, h1, h2, h3, -⟩ := h.op; exact ⟨⟨o, h1, h2, h3⟩, h.quiet⟩
    · exact t.oper s hs
theorem Placed.conflict : ∀ {ps : List Pl}, Placed u P n vm ops ps → ∀ s ∈ ps, ∀ t ∈ ps, s.q = true → s.i ≠ t.i → hits s.x.dst (xreadsO t.x) = true → bit t.m s.i = true
  | [], _, s, hs, _, _, _, _, _ => by cases hs
  | p :: ps, .cons h tl, s, hs, t, ht, hq, hne, hh => by
    rcases List.mem_cons.1 hs with rfl | _
    · rcases List.mem_cons.1 ht with rfl | ht
      · exact absurd rfl hne
      · have := (pairsOk_mem h.pairs t ht).2.1 hq
        rw [this] at hh; cases hh
    · rename_i hs'
      rcases List.mem_cons.1 ht with rfl | ht
      · exact (pairsOk_mem h.pairs s hs').2.2.1 hh
      · exact tl.conflict s hs' t ht hq hne hh
theorem Placed.same : ∀ {ps : List Pl}, Placed u P n vm ops ps → ∀ s ∈ ps, ∀ t ∈ ps, s.i ≠ t.i → sameD s.x.dst t.x.dst = false
  | [], _, s, hs, _, _, _ => by cases hs
  | p :: ps, .cons h tl, s, hs, t, ht, hne => by
    rcases List.mem_cons.1 hs with rfl | _
    · rcases List.mem_cons.1 ht with rfl | ht
      · exact absurd rfl hne
      · exact sameD_symm (pairsOk_mem h.pairs t ht).1
    · rename_i hs'
      rcases List.mem_cons.1 ht with rfl | ht
      · exact (pairsOk_mem h.pairs s hs').1
      · exact tl.same s hs' t ht hne
theorem Placed.all {L : Nat → Prop} (hL : ∀ i o, ops[i]? = some o → (∀ e ∈ o.after.toList, Region.binds .any e = true → L e.on) → L i) : ∀ {ps : List Pl}, Placed u P n vm ops ps → ∀ s ∈ ps, L s.i
  | [], _, s, hs => by cases hs
  | p :: ps, .cons h t, s, hs => by
    have ih := t.all hL
    rcases List.mem_cons.1 hs with rfl | hs
    · obtain ⟨o, h1, h2, h3, h4⟩ := h.op
      exact hL _ o h1 fun e he hb => by
        obtain ⟨q, hq, hqi⟩ := predMask_found h4 e he hb
        rw [← hqi]; exact ih q hq
    · exact ih s hs
theorem Plan.notin : ∀ {is : List Nat} {l : List XDr} {ps : List Pl}, Plan u P n vm ops is l ps → ∀ j ∈ is, ∀ s ∈ ps, s.i ≠ j := by
  intro is l ps hp
  induction hp with
  | nil => intro j hj; cases hj
  | quiet h hq t ih =>
    intro j hj s hs
    rcases List.mem_cons.1 hj with rfl | hj
    · exact h.new s hs
    · exact ih j hj s (by simp [hs])
  | eff h hq hag later t ih =>
    intro j hj s hs
    rcases List.mem_cons.1 hj with rfl | hj
    · exact h.new s hs
    · exact ih j hj s (by simp [hs])
  | two hu h h' t1 t2 hl hl' hq hq' hx hx' htwo ih1 ih2 =>
    intro j hj s hs
    simp only [List.mem_cons, List.not_mem_nil, or_false] at hj
    rcases hj with rfl | rfl
    · exact h.new s hs
    · exact h'.new s hs
end

/-! ### the state on the way -/
structure Ent where
  p : Pl
  v : AV
  b : Option Nat
  /-- the entry that has come into a map -/
  kv : Option (Nat × (AV × AV × Nat)) := none

def Pend (u : Bool) (r : Rec) (E : Env) (a : A) (h : H) (t : Ent) : Prop :=
  (∀ k, hitX t.p.x.dst k = true → getX k a = some t.v) ∧
  ((wantedX t.p.x.guard a = some false ∧ t.v = .undef ∧ t.b = none ∧ t.kv = none) ∨
   (wantedX t.p.x.guard a = some true ∧ t.b = none ∧ t.kv = none ∧ xalloc t.p.x.op = false ∧ insX t.p.x.op = false ∧ runOp t.p.x.op r a h = .val t.v h) ∨
   (wantedX t.p.x.guard a = some true ∧ t.kv = none ∧ xalloc t.p.x.op = true ∧ ∃ (mk : Nat → AV) (blk : Blk) (b : Nat), t.b = some b ∧ t.v = mk b ∧ blk.wr = true ∧
      (∀ h2, runOpU u t.p.x.op r a h2 = .val (mk h2.next) (h2.new blk)) ∧ E b = none ∧ b < h.next ∧ h.get b = some blk) ∨
   (u = true ∧ wantedX t.p.x.guard a = some true ∧ t.b = none ∧ t.v = .undef ∧ ∃ (kt : KT) (xm xk xv : XO) (M : Nat) (key val : AV), t.p.x.op = .ins kt xm xk xv ∧ getX xm a = some (.map M) ∧ getX xk a = some key ∧ getX xv a = some val ∧
      plainKey kt key = true ∧ kt ≠ .two ∧ t.kv = some (M, (key, val, 0))))

theorem ins_reads {o : XOper} {kt : KT} {xm xk xv : XO} (h : o.op = .ins kt xm xk xv) : xm ∈ xreadsO o ∧ xk ∈ xreadsO o ∧ xv ∈ xreadsO o := by
  refine ⟨op_reads ?_, op_reads ?_, op_reads ?_⟩ <;> rw [h] <;> simp [xreads]
theorem Pend.mono {u : Bool} {r : Rec} {E E1 : Env} {a a1 : A} {h h1 : H} {t : Ent} (hp : Pend u r E a h t) (hr : ∀ k ∈ xreadsO t.p.x, getX k a1 = getX k a) (hd : ∀ k, hitX t.p.x.dst k = true → getX k a1 = getX k a)
    (hn : h.next ≤ h1.next) (hb : ∀ b, t.b = some b → E b = none → b < h.next → h1.get b = h.get b ∧ E1 b = none)
    (hrun : xalloc t.p.x.op = false → insX t.p.x.op = false → wantedX t.p.x.guard a = some true → runOp t.p.x.op r a h = .val t.v h → runOp t.p.x.op r a h1 = .val t.v h1) : Pend u r E1 a1 h1 t := by
  obtain ⟨c1, c2⟩ := operU_congr (u := u) hr
  obtain ⟨-, c3⟩ := oper_congr hr
  obtain ⟨h1', h2'⟩ := hp
  refine ⟨fun k hk => by rw [hd k hk]; exact h1' k hk, ?_⟩
  rw [c1]
  rcases h2' with h2' | ⟨q1, q2, q0, q3, q3', q4⟩ | ⟨q1, q0, q2, mk, blk, b, q3, q4, q5, q6, q7, q8, q9⟩ | ⟨q1, q2, q3, q4, kt, xm, xk, xv, M, key, val, q5, q6, q7, q8, q9, q10, q11⟩
  · exact .inl h2'
  · exact .inr (.inl ⟨q1, q2, q0, q3, q3', by rw [c3]; exact hrun q3 q3' q1 q4⟩)
  · obtain ⟨z1, z2⟩ := hb b q3 q7 q8
    exact .inr (.inr (.inl ⟨q1, q0, q2, mk, blk, b, q3, q4, q5, fun h2 => by rw [c2]; exact q6 h2, z2, by omega, by rw [z1]; exact q9⟩))
  · obtain ⟨r1, r2, r3⟩ := ins_reads q5
    exact .inr (.inr (.inr ⟨q1, q2, q3, q4, kt, xm, xk, xv, M, key, val, q5, by rw [hr _ r1]; exact q6, by rw [hr _ r2]; exact q7, by rw [hr _ r3]; exact q8, q9, q10, q11⟩))

/-- the real map: what has come in so far -/
def MapAt (E : Env) (w : World) (M : Nat) (L : List (AV × AV × Nat)) : Prop :=
  (E M = none ∧ L = []) ∨ ∃ e xs ck es, E M = some e ∧ w.heap[e.rb]? = some (.map xs ck) ∧ es.Perm L ∧ EntsR E es xs.toList
def entsOf (l : List Ent) : List (AV × AV × Nat) := l.filterMap fun t => t.kv.map (·.2)
def UOk (acc : UA) (listed : Array Bool) (done : List Ent) (h0 h : H) (E : Env) (w : World) : Prop := match acc with
  | none => ∀ t ∈ done, t.kv = none
  | some (M, l) => l = entsOf done ∧ (∀ t ∈ done, ∀ q, t.kv = some q → q.1 = M) ∧ h.get M = some (.mapU [] false) ∧ h0.next ≤ M ∧
    (∀ s ∈ done, ∀ t ∈ done, s.p.i ≠ t.p.i → ∀ q q', s.kv = some q → t.kv = some q' → keyEq q.2.1 q'.2.1 = some false) ∧
    (∀ t ∈ done, ∀ q, t.kv = some q → simpleK q.2.1) ∧ MapAt E w M (entsOf (done.filter fun t => listed.getD t.p.i false))

structure Inv (u : Bool) (P : Program) (W0 : World) (n vm : Nat) (r : Rec) (ops : Array Oper) (qs : List Nat) (Q : Exit → Act → World → Prop) (E0 : Env) (h0 : H)
    (listed : Array Bool) (done : List Ent) (is : List Nat) (l : List XDr) (acc : UA) (a a' : A) (h : H) (E : Env) (x : Act) (w : World) : Prop where
  S : HSim P W0 E h w
  hA : ASim E n vm a' x
  defs : a'.defers = a.defers
  tr : Trans E0 h0 E h
  ne : runDraw r qs u l acc a h ≠ .fail
  q : ∀ e x' w', CROk P W0 E0 h0 n vm (runDraw r qs u l acc a h) e x' w' → Q e x' w'
  size : listed.size = ops.size
  closed : Closed ops.toList fun j => listed.getD j false = true
  plan : Plan u P n vm ops.toList is l (done.map (·.p))
  placed : Placed u P n vm ops.toList (done.map (·.p))
  rest : ∀ i ∈ is, listed.getD i true = false
  eff : ∀ t ∈ done, t.p.q = false → listed.getD t.p.i false = true
  cover : ∀ j, j < ops.size → (∃ t ∈ done, t.p.i = j) ∨ j ∈ is
  agree : ∀ k, (∀ t ∈ done, listed.getD t.p.i true = false → hitX t.p.x.dst k = false) → getX k a' = getX k a
  pend : ∀ t ∈ done, listed.getD t.p.i true = false → Pend u r E a h t
  un : UOk acc listed done h0 h E w
  uf : u = false → acc = none
  dist : ∀ s ∈ done, ∀ t ∈ done, ∀ b, s.b = some b → t.b = some b → s.p.i = t.p.i
  bnd : ∀ t ∈ done, ∀ b, t.b = some b → h0.next ≤ b ∧ b < h.next
  dq : ∀ t ∈ done, t.p.q = true → ∀ u, t.p.x.dst = .v u → u ∈ qs
  lq : ∀ d ∈ l, d.quiet = true → ∀ u, d.o.dst = .v u → u ∈ qs

def AtCheck (l : List XDr) : Prop := l = [] ∨ ∃ d ds, l = d :: ds ∧ d.quiet = false

theorem un_lt {listed : Array Bool} {i : Nat} (h : listed.getD i true = false) : i < listed.size := by
  rcases Nat.lt_or_ge i listed.size with h1 | h1
  · exact h1
  · simp [Array.getElem?_eq_none h1, Array.getD_eq_getD_getElem?] at h
theorem un_ls {listed : Array Bool} {i : Nat} (h : listed.getD i true = false) (h' : listed.getD i false = true) : False := by
  have := un_lt h
  simp [Array.getD_eq_getD_getElem?, this] at h h'
  rw [h] at h'; cases h'
theorem not_un {listed : Array Bool} {i : Nat} (hi : i < listed.size) (h : ¬ listed.getD i true = false) : listed.getD i false = true := by
  simp [Array.getD_eq_getD_getElem?, hi] at h ⊢
  exact h
theorem not_ls {listed : Array Bool} {i : Nat} (hi : i < listed.size) (h : ¬ listed.getD i false = true) : listed.getD i true = false := by
  simp [Array.getD_eq_getD_getElem?, hi] at h ⊢
  exact h
theorem ls_set {listed : Array Bool} {i j : Nat} (h : (listed.setIfInBounds i true).getD j false = true) : j = i ∨ listed.getD j false = true := by
  by_cases hij : i = j
  · exact .inl hij.symm
  · exact .inr (by rw [getD_set_ne false hij] at h; exact h)
theorem un_set {listed : Array Bool} {i j : Nat} (h : (listed.setIfInBounds i true).getD j true = false) : j ≠ i ∧ listed.getD j true = false := by
  by_cases hij : i = j
  · subst hij
    have h1 := un_lt h
    simp only [Array.size_setIfInBounds] at h1
    simp [Array.getD_eq_getD_getElem?, h1] at h
  · exact ⟨fun he => hij he.symm, by rw [getD_set_ne true hij] at h; exact h⟩
theorem un_set' {listed : Array Bool} {i j : Nat} (hne : j ≠ i) (h : listed.getD j true = false) : (listed.setIfInBounds i true).getD j true = false := by
  rw [getD_set_ne true (fun he => hne he.symm)]; exact h
theorem ls_set_self {listed : Array Bool} {i : Nat} (hi : i < listed.size) : (listed.setIfInBounds i true).getD i false = true := by
  simp [Array.getD_eq_getD_getElem?, hi]
theorem ls_set' {listed : Array Bool} {i j : Nat} (h : listed.getD j false = true) : (listed.setIfInBounds i true).getD j false = true := getD_set_true h

section
variable {u : Bool} {acc : UA} {P : Program} {W0 : World} {n vm : Nat} {r : Rec} {ops : Array Oper} {qs : List Nat} {Q : Exit → Act → World → Prop} {E0 : Env} {h0 : H}
  {listed : Array Bool} {done : List Ent} {is : List Nat} {l : List XDr} {a a' : A} {h : H} {E : Env} {x : Act} {w : World}

theorem runDraw_cons (d : XDr) (ds : List XDr) : runDraw r qs u (d :: ds) acc a h = (match wantedX d.o.guard a with
    | some false => runDraw r qs u ds acc (putX d.o.dst .undef a) h
    | some true => (match twoOk d.two a with
      | true => (match runOpU u d.o.op r a h with
      | .val v h' => (match accU u d.o.op a h acc with
        | some acc' => (match chkU acc' h' with
          | true => (match d.again with
            | [] => runDraw r qs u ds acc' (putX d.o.dst v a) h'
            | again => (match recheck r (putX d.o.dst v a) h' again with
              | true => runDraw r qs u ds acc' (putX d.o.dst v a) h'
              | false => .fail))
          | false => .fail)
        | none => .fail)
      | .pan c h' => (match d.quiet with | true => .fail | false => .pan c ⟨delAll qs a.vars, [], a.defers⟩ h')
      | _ => .fail)
      | false => .fail)
    | none => .fail) := rfl

/-- the memory that a quiet operation leaves -/
def QuietH (h h' : H) : Prop := h' = h ∨ ∃ blk, h' = h.new blk

/-- what has come in is not changed by what is placed -/
theorem UOk.cons {t : Ent} {h' : H} (hU : UOk acc listed done h0 h E w) (ht : t.kv = none) (hg : ∀ M l, acc = some (M, l) → h.get M = some (.mapU [] false) → h'.get M = some (.mapU [] false)) : UOk acc listed (t :: done) h0 h' E w := by
  unfold UOk at hU ⊢
  split
  · intro s hs
    rcases List.mem_cons.1 hs with rfl | hs
    · exact ht
    · exact hU s hs
  · rename_i M l
    simp only at hU
    obtain ⟨u1, u2, u3, u4, u5, u6, u7⟩ := hU
    have hm : ∀ {s : Ent}, s ∈ t :: done → ∀ {q}, s.kv = some q → s ∈ done := by
      intro s hs q hq
      rcases List.mem_cons.1 hs with rfl | hs
      · rw [ht] at hq; cases hq
      · exact hs
    refine ⟨?_, fun s hs q hq => u2 s (hm hs hq) q hq, hg M l rfl u3, u4, fun s hs t' ht' hne q q' hq hq' => u5 s (hm hs hq) t' (hm ht' hq') hne q q' hq hq', fun s hs q hq => u6 s (hm hs hq) q hq, ?_⟩
    · rw [u1]; simp [entsOf, ht]
    · have : entsOf ((t :: done).filter fun t => listed.getD t.p.i false) = entsOf (done.filter fun t => listed.getD t.p.i false) := by
        simp only [List.filter_cons]
        split
        · simp [entsOf, ht]
        · rfl
      rw [this]; exact u7

/-- a quiet operation more is taken by the evaluator -/
theorem Inv.quiet {p : Pl} {v : AV} {b : Option Nat} {kv : Option (Nat × (AV × AV × Nat))} {acc' : UA} {h' : H} (I : Inv u P W0 n vm r ops qs Q E0 h0 listed done (p.i :: is) (⟨true, p.x, [], none⟩ :: l) acc a a' h E x w)
    (hp : PlOk u P n vm ops.toList (done.map (·.p)) p) (hq : p.q = true) (hpl : Plan u P n vm ops.toList is l (p :: done.map (·.p))) (hh : QuietH h h')
    (hrun : runDraw r qs u (⟨true, p.x, [], none⟩ :: l) acc a h = runDraw r qs u l acc' (putX p.x.dst v a) h')
    (hb : ∀ c, b = some c → c = h.next ∧ h'.next = h.next + 1) (huf : u = false → acc' = none) (hun' : UOk acc' listed (⟨p, v, b, kv⟩ :: done) h0 h' E w)
    (hpend : Pend u r E (putX p.x.dst v a) h' ⟨p, v, b, kv⟩) : Inv u P W0 n vm r ops qs Q E0 h0 listed (⟨p, v, b, kv⟩ :: done) is l acc' (putX p.x.dst v a) a' h' E x w := by
  have hun : listed.getD p.i true = false := I.rest p.i (by simp)
  have hpm : ∀ t ∈ done, t.p ∈ done.map (·.p) := fun t ht => List.mem_map_of_mem ht
  have hn : h.next ≤ h'.next := by
    rcases hh with rfl | ⟨blk, rfl⟩
    · exact Nat.le_refl _
    · rw [H.next_new]; omega
  have hg : ∀ c, c < h.next → h'.get c = h.get c := by
    intro c hc
    rcases hh with rfl | ⟨blk, rfl⟩
    · rfl
    · rw [H.get_new, if_neg (by omega)]
  have hext : ∀ c y, h.get c = some y → h'.get c = some y := by
    intro c y hy
    have : c < h.next := by
      rcases Nat.lt_or_ge c h.next with h1 | h1
      · exact h1
      · rw [I.S.top c h1] at hy; cases hy
    rw [hg c this]; exact hy
  refine ⟨?_, I.hA, by rw [defers_put]; exact I.defs, ?_, by rw [← hrun]; exact I.ne, by rw [← hrun]; exact I.q, I.size, I.closed, hpl, .cons hp I.placed, fun i hi => I.rest i (by simp [hi]), ?_, ?_, ?_, ?_, hun', huf, ?_, ?_, ?_, fun d hd => I.lq d (by simp [hd])⟩
  · rcases hh with rfl | ⟨blk, rfl⟩
    · exact I.S
    · exact I.S.grow blk
  · exact ⟨I.tr.ext, Nat.le_trans I.tr.next hn, fun c hc hE => by rw [hg c (Nat.lt_of_lt_of_le hc I.tr.next)]; exact I.tr.keep c hc hE⟩
  · intro t ht hqt
    rcases List.mem_cons.1 ht with rfl | ht
    · simp only at hqt; rw [hq] at hqt; cases hqt
    · exact I.eff t ht hqt
  · intro j hj
    rcases I.cover j hj with ⟨t, ht, hti⟩ | hj
    · exact .inl ⟨t, by simp [ht], hti⟩
    · rcases List.mem_cons.1 hj with rfl | hj
      · exact .inl ⟨_, List.mem_cons_self, rfl⟩
      · exact .inr hj
  · intro k hk
    have h1 := hk ⟨p, v, b, kv⟩ (by simp) hun
    rw [getX_put, if_neg (by simp only at h1; rw [h1]; simp)]
    exact I.agree k fun t ht hu => hk t (by simp [ht]) hu
  · intro t ht hu
    rcases List.mem_cons.1 ht with rfl | ht
    · exact hpend
    · obtain ⟨z1, z2, z3, z4⟩ := pairsOk_mem hp.pairs t.p (hpm t ht)
      refine (I.pend t ht hu).mono ?_ ?_ hn ?_ ?_
      · intro k hk
        rw [getX_put, if_neg (by rw [hits_mem (z2 hq) k hk]; simp)]
      · intro k hk
        rw [getX_put, if_neg (fun hh' => sameD_hit z1 hk hh')]
      · intro c hc hE hlt
        exact ⟨hg c hlt, hE⟩
      · intro hal hins hw hr
        obtain ⟨ho, hqq⟩ := I.placed.oper t.p (hpm t ht)
        have hqt : t.p.q = true := by
          cases hqt : t.p.q with
          | true => rfl
          | false => exact (un_ls hu (I.eff t ht hqt)).elim
        cases hl : xlooks t.p.x.op with
        | true => exact (look_val _ hl hr).2 h' hext
        | false => exact (plain_val _ ((quietU (hqq hqt).1).resolve_left (fun hh => by rw [hins] at hh; cases hh.2)).1 hl hal hr).2 h'
  · intro s hs t ht c hcs hct
    rcases List.mem_cons.1 hs with rfl | hs
    · rcases List.mem_cons.1 ht with rfl | ht
      · rfl
      · have := (hb c hcs).1
        have := (I.bnd t ht c hct).2
        omega
    · rcases List.mem_cons.1 ht with rfl | ht
      · have := (hb c hct).1
        have := (I.bnd s hs c hcs).2
        omega
      · exact I.dist s hs t ht c hcs hct
  · intro t ht c hc
    rcases List.mem_cons.1 ht with rfl | ht
    · obtain ⟨e1, e2⟩ := hb c hc
      have := I.tr.next
      omega
    · have := I.bnd t ht c hc; omega
  · intro t ht hqt u hu
    rcases List.mem_cons.1 ht with rfl | ht
    · exact I.lq ⟨true, p.x, [], none⟩ (by simp) rfl u hu
    · exact I.dq t ht hqt u hu

/-- the evaluator goes on to the next operation that may change memory -/
theorem advance : ∀ (m : Nat) (is : List Nat) (l : List XDr) (done : List Ent) (acc : UA) (a : A) (h : H), is.length ≤ m → Inv u P W0 n vm r ops qs Q E0 h0 listed done is l acc a a' h E x w →
    ∃ done' is' l' acc' a2 h2, Inv u P W0 n vm r ops qs Q E0 h0 listed done' is' l' acc' a2 a' h2 E x w ∧ AtCheck l' := by
  intro m
  induction m with
  | zero =>
    intro is l done acc a h hm I
    have : is = [] := by cases is with
      | nil => rfl
      | cons _ _ => simp at hm
    subst this
    have hp := I.plan
    cases hp
    exact ⟨_, _, _, _, _, _, I, .inl rfl⟩
  | succ m ih =>
    intro is l done acc a h hm I
    have hp := I.plan
    cases hp with
    | nil => exact ⟨_, _, _, _, _, _, I, .inl rfl⟩
    | eff h1 h2 h3 h4 h5 => exact ⟨_, _, _, _, _, _, I, .inr ⟨_, _, rfl, rfl⟩⟩
    | two hu h1 h2 h3 h4 hl hl' h5 h6 h7 h8 h9 =>
      refine ⟨_, _, _, _, _, _, I, .inr ⟨_, _, rfl, ?_⟩⟩
      unfold twoSt at h9
      split at h9
      · rfl
      · cases h9
    | quiet hpl hq ht =>
      rename_i p is' l'
      have hm' : is'.length ≤ m := by simp at hm; omega
      obtain ⟨hxq, hself⟩ := hpl.quiet hq
      have hne := I.ne
      have hun0 : listed.getD p.i true = false := I.rest p.i (by simp)
      have hul : listed.getD p.i false = false := by
        cases hh : listed.getD p.i false with
        | false => rfl
        | true => exact (un_ls hun0 hh).elim
      have hrunc := runDraw_cons (r := r) (qs := qs) (u := u) (acc := acc) (a := a) (h := h) ⟨true, p.x, [], none⟩ l'
      have hcongr : ∀ v, wantedX p.x.guard (putX p.x.dst v a) = wantedX p.x.guard a ∧ ∀ r h, runOp p.x.op r (putX p.x.dst v a) h = runOp p.x.op r a h :=
        fun v => oper_congr fun k hk => by rw [getX_put, if_neg (by rw [hits_mem hself k hk]; simp)]
      have hcongrU : ∀ v, ∀ r h, runOpU u p.x.op r (putX p.x.dst v a) h = runOpU u p.x.op r a h :=
        fun v => (operU_congr fun k hk => by rw [getX_put, if_neg (by rw [hits_mem hself k hk]; simp)]).2
      have hsame : ∀ v, ∀ k ∈ xreadsO p.x, getX k (putX p.x.dst v a) = getX k a := fun v k hk => by rw [getX_put, if_neg (by rw [hits_mem hself k hk]; simp)]
      have hdst : ∀ v k, hitX p.x.dst k = true → getX k (putX p.x.dst v a) = some v := fun v k hk => by rw [getX_put, if_pos hk]
      cases hw : wantedX p.x.guard a with
      | none => rw [hrunc] at hne; simp only [hw] at hne; exact absurd rfl hne
      | some bb =>
        cases bb with
        | false =>
          simp only [hw] at hrunc
          exact ih _ _ _ _ _ _ hm' (I.quiet hpl hq ht (.inl rfl) hrunc (b := none) (kv := none) (fun c hc => by cases hc) I.uf (I.un.cons rfl fun _ _ _ hh => hh) ⟨hdst _, .inl ⟨by rw [(hcongr _).1]; exact hw, rfl, rfl, rfl⟩⟩)
        | true =>
          simp only [hw, twoOk] at hrunc
          cases hop : runOpU u p.x.op r a h with
          | fail => simp only [hop] at hrunc; exact absurd hrunc hne
          | dfr d h' => simp only [hop] at hrunc; exact absurd hrunc hne
          | pan c h' => simp only [hop] at hrunc; exact absurd hrunc hne
          | val v h' =>
            simp only [hop] at hrunc
            cases hac : accU u p.x.op a h acc with
            | none => simp only [hac] at hrunc; exact absurd hrunc hne
            | some acc' =>
              simp only [hac] at hrunc
              cases hck : chkU acc' h' with
              | false => simp only [hck] at hrunc; exact absurd hrunc hne
              | true =>
                simp only [hck] at hrunc
                have hwv : wantedX p.x.guard (putX p.x.dst v a) = some true := by rw [(hcongr _).1]; exact hw
                have huf : u = false → acc' = none := fun hu => by
                  subst hu
                  simp only [accU, Option.some.injEq] at hac
                  rw [← hac]; exact I.uf rfl
                rcases quietU hxq with ⟨hu, hins⟩ | ⟨hxq', hins⟩
                · -- an entry
                  subst hu
                  cases hxo : p.x.op <;> rw [hxo] at hins <;> try (cases hins; done)
                  rename_i kt xm xk xv
                  rw [hxo] at hop hac
                  simp only [runOpU] at hop
                  split at hop
                  · rename_i M0 key val hgm hgk hgv
                    have hkt : plainKey kt key = true ∧ kt ≠ .two ∧ v = .undef ∧ h' = h := by
                      split at hop
                      · rename_i hp; cases hop; exact ⟨hp, by simp, rfl, rfl⟩
                      · rename_i hp; cases hop; exact ⟨hp, by simp, rfl, rfl⟩
                      · cases hop
                    obtain ⟨hpk, hk2, rfl, rfl⟩ := hkt
                    have hsk : simpleK key := by
                      cases kt <;> cases key <;> simp only [plainKey] at hpk <;> try (cases hpk; done)
                      · exact .inl ⟨_, _, rfl, by simpa using hpk⟩
                      · exact .inr ⟨_, _, rfl⟩
                      all_goals exact absurd rfl hk2
                    simp only [accU] at hac
                    split at hac
                    · rename_i M l b0 key0 val0 hgm' hgk' hgv'
                      rw [hgm] at hgm'; rw [hgk] at hgk'; rw [hgv] at hgv'
                      cases hgm'; cases hgk'; cases hgv'
                      split at hac
                      · rename_i hbM hfk
                        cases hac
                        have hbM := Nat.eq_of_beq_eq_true hbM
                        subst hbM
                        obtain ⟨u1, u2, u3, u4, u5, u6, u7⟩ := I.un
                        have hnew : ∀ s ∈ done, ∀ q, s.kv = some q → keyEq key q.2.1 = some false ∧ keyEq q.2.1 key = some false := by
                          intro s hs q hq
                          have hmem : q.2 ∈ l := by
                            rw [u1]; exact List.mem_filterMap.2 ⟨s, hs, by rw [hq]; rfl⟩
                          have h1 : keyEq key q.2.1 = some false := by
                            rcases findK_cases hfk with ⟨-, h2⟩ | ⟨_, _, _, _, h2, _⟩
                            · exact h2 _ hmem
                            · cases h2
                          exact ⟨h1, by rw [keyEq_comm (u6 s hs q hq) hsk]; exact h1⟩
                        refine ih _ _ _ _ _ _ hm' (I.quiet hpl hq ht (.inl rfl) hrunc (b := none) (kv := some (M0, (key, val, 0))) (fun c hc => by cases hc) huf ?_ ⟨hdst _, .inr (.inr (.inr ⟨rfl, hwv, rfl, rfl, kt, xm, xk, xv, M0, key, val, hxo, ?_, ?_, ?_, hpk, hk2, rfl⟩))⟩)
                        · refine ⟨by rw [u1]; rfl, ?_, u3, u4, ?_, ?_, ?_⟩
                          · intro s hs q hq
                            rcases List.mem_cons.1 hs with rfl | hs
                            · cases hq; rfl
                            · exact u2 s hs q hq
                          · intro s hs t ht' hne' q q' hq hq'
                            rcases List.mem_cons.1 hs with rfl | hs
                            · rcases List.mem_cons.1 ht' with rfl | ht'
                              · exact absurd rfl hne'
                              · cases hq; exact (hnew t ht' q' hq').1
                            · rcases List.mem_cons.1 ht' with rfl | ht'
                              · cases hq'; exact (hnew s hs q hq).2
                              · exact u5 s hs t ht' hne' q q' hq hq'
                          · intro s hs q hq
                            rcases List.mem_cons.1 hs with rfl | hs
                            · cases hq; exact hsk
                            · exact u6 s hs q hq
                          · rw [List.filter_cons]
                            simp only [hul]
                            exact u7
                        · rw [hsame _ _ (ins_reads hxo).1]; exact hgm
                        · rw [hsame _ _ (ins_reads hxo).2.1]; exact hgk
                        · rw [hsame _ _ (ins_reads hxo).2.2]; exact hgv
                      · cases hac
                    · cases hac
                  · cases hop
                · cases hal : xalloc p.x.op with
                  | true =>
                    obtain ⟨mk, blk, rfl, rfl, hwr, hall⟩ := allocU_val _ hal hop
                    refine ih _ _ _ _ _ _ hm' (I.quiet hpl hq ht (.inr ⟨blk, rfl⟩) hrunc (b := some h.next) (kv := none) (fun c hc => by cases hc; exact ⟨rfl, H.next_new _ _⟩) huf ?_ ⟨hdst _, .inr (.inr (.inl ⟨hwv, rfl, hal, mk, blk, h.next, rfl, rfl, hwr, ?_, I.S.fresh, ?_, ?_⟩))⟩)
                    · have hkeep : ∀ M l, acc = some (M, l) → h.get M = some (.mapU [] false) → (h.new blk).get M = some (.mapU [] false) := by
                        intro M l _ hg
                        rw [H.get_new, if_neg (fun he => by rw [he, I.S.top _ (Nat.le_refl _)] at hg; cases hg)]; exact hg
                      have hrest : acc' = acc → UOk acc' listed (⟨p, mk h.next, some h.next, none⟩ :: done) h0 (h.new blk) E w := fun he => by
                        rw [he]; exact I.un.cons rfl hkeep
                      cases u with
                      | false => exact hrest (by simpa [accU] using hac.symm)
                      | true =>
                        by_cases hmk : p.x.op = .mkM
                        · rw [hmk] at hac hop
                          simp only [accU] at hac
                          split at hac
                          · cases hac
                            have hz := I.un
                            simp only [runOpU] at hop
                            injection hop with hop1 hop2
                            have hz' : ∀ t ∈ (⟨p, mk h.next, some h.next, none⟩ :: done : List Ent), t.kv = none := by
                              intro t ht'
                              rcases List.mem_cons.1 ht' with rfl | ht'
                              · rfl
                              · exact hz t ht'
                            have hem : ∀ (L : List Ent), (∀ t ∈ L, t.kv = none) → entsOf L = [] := by
                              intro L hL
                              refine List.filterMap_eq_nil_iff.2 fun t ht' => ?_
                              rw [hL t ht']; rfl
                            refine ⟨(hem _ hz').symm, fun t ht' q hq' => (by rw [hz' t ht'] at hq'; cases hq'), by rw [← hop2, H.get_new, if_pos rfl], I.tr.next, fun s hs _ _ _ q _ hq' _ => (by rw [hz' s hs] at hq'; cases hq'), fun s hs q hq' => (by rw [hz' s hs] at hq'; cases hq'), .inl ⟨I.S.fresh, hem _ fun t ht' => hz' t (List.mem_filter.1 ht').1⟩⟩
                          · cases hac
                        · refine hrest ?_
                          cases hxo : p.x.op <;> rw [hxo] at hac hins hmk <;> first | (exact absurd rfl hmk) | (cases hins; done) | (simp only [accU, Option.some.injEq] at hac; exact hac.symm)
                    · intro h2; rw [hcongrU]; exact hall h2
                    · rw [H.next_new]; omega
                    · rw [H.get_new, if_pos rfl]
                  | false =>
                    have hmk : p.x.op ≠ .mkM := fun he => by rw [he] at hal; cases hal
                    rw [runOpU_eq hmk hins] at hop
                    have hacc : acc' = acc := by
                      cases u with
                      | false => simpa [accU] using hac.symm
                      | true => cases hxo : p.x.op <;> rw [hxo] at hac hins hmk <;> first | (exact absurd rfl hmk) | (cases hins; done) | (simp only [accU, Option.some.injEq] at hac; exact hac.symm)
                    have hh : h' = h := by
                      cases hl : xlooks p.x.op with
                      | true => exact (look_val _ hl hop).1
                      | false => exact (plain_val _ hxq' hl hal hop).1
                    subst hh
                    exact ih _ _ _ _ _ _ hm' (I.quiet hpl hq ht (.inl rfl) hrunc (b := none) (kv := none) (fun c hc => by cases hc) huf (by rw [hacc]; exact I.un.cons rfl fun _ _ _ hh => hh) ⟨hdst _, .inr (.inl ⟨hwv, rfl, rfl, hal, hins, by rw [(hcongr _).2]; exact hop⟩)⟩)

end
end Go.Ev
