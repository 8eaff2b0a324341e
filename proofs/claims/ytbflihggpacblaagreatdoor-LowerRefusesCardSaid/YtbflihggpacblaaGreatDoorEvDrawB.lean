/- Drawn regions: making memory late; which operations wait for which. -/
import Derived.Test.YtbflihggpacblaaGreatDoorEvDrawA
set_option linter.unusedVariables false
set_option linter.unusedSimpArgs false
namespace Go.Ev
set_option linter.unusedSectionVars false
variable [Sig]

section
variable {P : Program} {W0 : World} {E : Env} {h : H} {w : World} {n vm : Nat} {a : A} {x : Act} {r : Rec}

/-- what an operation that makes memory does, wherever the block is to lie -/
def AllocRaw (P : Program) (E : Env) (w : World) (s : Sem Next) (mk : Nat → AV) (blk : Blk) : Prop :=
  ∃ (obj : Obj) (u : Value), (∀ E', (∀ c f, E c = some f → E' c = some f) → BlkOk P E' ⟨w.heap.size, 0, 0, none⟩ obj blk) ∧ s.run P w = .ok (.value u) { w with heap := w.heap.push obj } ∧
    (∀ (E' : Env) (b : Nat), E' b = some ⟨w.heap.size, 0, 0, none⟩ → cv E' (mk b) = some u)

theorem row_raw {cs : List AV} {C : List Value} (el : TypeId) (hc : cvC E cs = some C) : ∀ E', (∀ c f, E c = some f → E' c = some f) → BlkOk P E' ⟨w.heap.size, 0, 0, none⟩ (.cells C.toArray el) (.cells cs el false false) := by
  intro E' hE
  have hl := cvC_length hc
  refine ⟨_, _, (0, 0), rfl, fun _ => ⟨rfl, rfl⟩, by simp; omega, ?_, fun hh => by cases hh⟩
  intro i v hi
  obtain ⟨h1, u, hu, hu'⟩ := cvC_get hc i v hi
  refine ⟨h1, u, cv_up hE v u hu, ?_⟩
  simpa using hu'

theorem new_raw {t : TypeId} {z : List AV} (hz : zeroC P t = some z) : AllocRaw P E w (do pure (.value (← Instr.alloc t true (.tuple #[])))) (fun b => .ptr b 0) (.cells z t false false) := by
  obtain ⟨i, zv, hi, hzv, hzc, hzl⟩ := zeroC_run (E := E) hz
  refine ⟨_, .pointer (some ⟨w.heap.size, 0, none⟩), row_raw t hzc, ?_, fun E' b hb => by simp [cv, hb]⟩
  simp [Instr.alloc, zeroValue, typeInfo, hi, hzv, newVar, newRow, newObj, Sem.run]

theorem box_raw (S : HSim P W0 E h w) (hA : ASim E n vm a x) {t : TypeId} {p : Operand} {xp : XO} (hp : cO vm p = some xp) {u : AV} {cs : List AV} (hu : getX xp a = some u) (hcs : u.cells? = some cs) :
    AllocRaw P E w (do pure (.value (← Instr.box t (x.eval p)))) (fun b => .ptr b 0) (.cells cs t false false) := by
  have hc := cells_cv hcs (opr_sound S hA hp hu)
  refine ⟨_, .pointer (some ⟨w.heap.size, 0, none⟩), row_raw t hc, ?_, fun E' b hb => by simp [cv, hb]⟩
  simp [Instr.box, newVar, newRow, newObj, Sem.run]

theorem mkM_raw {t : TypeId} : AllocRaw P E w (do pure (.value (← Instr.makeMap t none))) (fun b => .map b) (.map [] 0) := by
  refine ⟨.map #[] 0, .map (some w.heap.size), fun E' _ => ⟨#[], rfl, trivial⟩, ?_, fun E' b hb => by simp [cv, hb]⟩
  simp [Instr.makeMap, newObj, Sem.run]

theorem buildS_raw (S : HSim P W0 E h w) (hA : ASim E n vm a x) {t e : TypeId} {len sz : Nat} {z : List AV} {ps : Array (Nat × Operand)} {xl : List (Nat × Nat × XO)} (he : elemT P t = some e) (hs : szT P e = some sz) (hz : zeroC P e = some z)
    (hlt : Nat.blt (Nat.mul len sz) 10000 = true) (hc : cParts vm (fun i => some (Nat.mul i sz, sz)) ps.toList = some xl) {l : List (Nat × Nat × AV)} {cs : List AV} (hl : getParts a xl = some l) (hcs : fillL l (repL len z) = some cs) :
    AllocRaw P E w (do pure (.value (← Instr.buildSlice t len (ps.map fun (i, y) => (i, x.eval y))))) (fun b => .slice b 0 len len true) (.cells cs e false false) := by
  obtain ⟨i, zv, hi, hzv, hzc, hzl⟩ := zeroC_run (E := E) hz
  have hut : P.underlying t = some (.slice e) := by
    unfold elemT at he
    split at he
    · rename_i e' hu; cases he; exact hu
    · cases he
  have hsz : i.size = sz := by
    obtain ⟨i', hi', hs'⟩ := szT_info hs
    rw [hi] at hi'; cases hi'; exact hs'
  have hzl2 := cvC_length hzc
  have hzsz : zv.cells.size = sz := by simp at hzl2; omega
  have hlt' : len * sz < 10000 := blt_lt hlt
  obtain ⟨C', hC', hfill⟩ := fill_sound S hA hc hl hcs (repL_cv hzc len)
  obtain ⟨h1, -⟩ := newRow_sound (R := []) S e false 0 hC' (by simp)
  refine ⟨_, .slice (some ⟨w.heap.size, 0, none⟩) len len, row_raw e hC', ?_, fun E' b hb => by simp [cv, hb]⟩
  simp only [List.append_nil] at h1
  have hmap : (ps.map fun (i, y) => (i, x.eval y)).toList = ps.toList.map fun p => (p.1, x.eval p.2) := by simp
  have hne : ¬ (len * sz > 2 ^ 24) := by omega
  have hfill' : Instr.fill (fun i => some (i * sz, sz)) ((Array.range (len * sz)).map (fun i => (if len * sz = 0 then (#[] : Array Value) else zv.cells)[i % (if len * sz = 0 then (#[] : Array Value) else zv.cells).size]!)) (ps.toList.map fun p => (p.1, x.eval p.2)) = some C'.toArray := by
    rw [← hfill]
    congr 1
    apply Array.ext'
    by_cases h0 : len * sz = 0
    · simp [h0, hzsz]
    · simp [h0, hzsz]
  by_cases h0 : len * sz = 0
  · simp only [h0, if_true] at hfill'
    simp [Instr.buildSlice, run_underlying hut, sizeOf, typeInfo, hi, hsz, hne, h0, hmap, hfill', h1]
    simp [h0] at hfill'
    simp [hfill', h1]
  · simp only [h0, if_false] at hfill'
    simp [Instr.buildSlice, run_underlying hut, sizeOf, typeInfo, hi, hsz, hne, h0, hmap, hfill', h1, zeroValue, hzv]

/-- an operation that makes memory -/
theorem alloc_raw (S : HSim P W0 E h w) (hA : ASim E n vm a x) {o : Oper} {xop : XOp} (hc : cOp P vm o.op = some xop) (hal : xalloc xop = true) {mk : Nat → AV} {blk : Blk} (hr : ∀ h2, runOp xop r a h2 = .val (mk h2.next) (h2.new blk)) :
    AllocRaw P E w (execOp x.eval o) mk blk := by
  have key : ∀ (mk' : Nat → AV) (blk' : Blk), (∀ h2, runOp xop r a h2 = .val (mk' h2.next) (h2.new blk')) → mk' = mk ∧ blk' = blk := by
    intro mk' blk' h1
    constructor
    · funext k
      have h2 := h1 ⟨k, .nil⟩
      rw [hr] at h2
      injection h2 with h3 h4
      exact h3.symm
    · have h2 := h1 ⟨0, .nil⟩
      rw [hr] at h2
      injection h2 with h3 h4
      have h5 := congrArg (fun z => H.get z 0) h4
      simp only [H.get_new] at h5
      simpa using h5.symm
  cases ho : o.op <;> simp only [cOp, ho] at hc <;> try (cases hc; done)
  case alloc t =>
    split at hc
    · rename_i z hz
      cases hc
      obtain ⟨rfl, rfl⟩ := key (fun b => .ptr b 0) (.cells z t false false) (fun h2 => rfl)
      simp only [execOp, ho]; exact new_raw hz
    · cases hc
  case box t p =>
    split at hc
    · rename_i xa ha
      cases hc
      have h0 : rBox t xa a h = .val (mk h.next) (h.new blk) := hr h
      unfold rBox at h0
      split at h0
      · rename_i u hu
        split at h0
        · rename_i cs hcs
          obtain ⟨rfl, rfl⟩ := key (fun b => .ptr b 0) (.cells cs t false false) (fun h2 => by show rBox t xa a h2 = _; simp only [rBox, hu, hcs])
          simp only [execOp, ho]; exact box_raw S hA ha hu hcs
        · cases h0
      · cases h0
    · cases hc
  case buildSlice t len ps =>
    split at hc
    · rename_i e he
      split at hc
      · rename_i sz z hs hz
        split at hc
        · rename_i xl hlt hl
          cases hc
          have h0 : rBuildS e len (repL len z) xl a h = .val (mk h.next) (h.new blk) := hr h
          unfold rBuildS at h0
          split at h0
          · rename_i l hl'
            split at h0
            · rename_i cs hcs
              obtain ⟨rfl, rfl⟩ := key (fun b => .slice b 0 len len true) (.cells cs e false false) (fun h2 => by show rBuildS e len (repL len z) xl a h2 = _; simp only [rBuildS, hl', hcs])
              simp only [execOp, ho]; exact buildS_raw S hA he hs hz hlt hl hl' hcs
            · cases h0
          · cases h0
        · cases hc
      · cases hc
    · cases hc
  case makeMap t r' =>
    cases r' with
    | none =>
      simp only [Option.some.injEq] at hc; subst hc
      obtain ⟨rfl, rfl⟩ := key (fun b => .map b) (.map [] 0) (fun h2 => rfl)
      simp only [execOp, ho]; exact mkM_raw
    | some y => cases hc
  case call c =>
    exfalso
    unfold cCall at hc
    (repeat' split at hc) <;> cases hc <;> cases hal
  case slice t p lo hi mx => cases mx <;> simp only at hc <;> (repeat' split at hc) <;> cases hc <;> cases hal
  case next it isS => cases isS <;> simp only at hc <;> (repeat' split at hc) <;> cases hc <;> cases hal
  all_goals (exfalso; (repeat' split at hc) <;> cases hc <;> cases hal)

end

/-! names -/
theorem hitX_iff {d : XD} {k : XO} : hitX d k = true ↔ (∃ t, d = .v t ∧ k = .v t) ∨ (∃ t, d = .l t ∧ k = .l t) := by
  cases d <;> cases k <;> simp only [hitX] <;> constructor <;> intro h
  all_goals first
    | (cases h; done)
    | (have := Nat.eq_of_beq_eq_true h; subst this; first | exact .inl ⟨_, rfl, rfl⟩ | exact .inr ⟨_, rfl, rfl⟩)
    | (rcases h with ⟨t, h1, h2⟩ | ⟨t, h1, h2⟩ <;> cases h1 <;> cases h2 <;> exact Nat.beq_refl _)
theorem getX_put (d : XD) (k : XO) (v : AV) (a : A) : getX k (putX d v a) = if hitX d k = true then some v else getX k a := by
  by_cases h : hitX d k = true
  · rw [if_pos h]
    rcases hitX_iff.1 h with ⟨t, rfl, rfl⟩ | ⟨t, rfl, rfl⟩
    · show (a.vars.put t v).get t = some v
      rw [Tr.get_put, if_pos rfl]
    · show findLog t ((t, v) :: a.log) = some v
      rw [findLog_cons, if_pos rfl]
  · rw [if_neg h]
    cases d with
    | no => rfl
    | v t =>
      cases k with
      | v u =>
        show (a.vars.put t v).get u = a.vars.get u
        rw [Tr.get_put, if_neg (fun he => h (by subst he; exact hitX_iff.2 (.inl ⟨_, rfl, rfl⟩)))]
      | l u => rfl
      | c u => rfl
    | l t =>
      cases k with
      | v u => rfl
      | l u =>
        show findLog u ((t, v) :: a.log) = findLog u a.log
        rw [findLog_cons, if_neg (fun he => h (by subst he; exact hitX_iff.2 (.inr ⟨_, rfl, rfl⟩)))]
      | c u => rfl
theorem defers_put (d : XD) (v : AV) (a : A) : (putX d v a).defers = a.defers := by cases d <;> rfl
theorem hits_mem {d : XD} : ∀ {l : List XO}, hits d l = false → ∀ x ∈ l, hitX d x = false
  | [], _, x, hx => by cases hx
  | y :: l, hh, x, hx => by
    simp only [hits] at hh
    split at hh
    · cases hh
    · rename_i hy
      rcases List.mem_cons.1 hx with rfl | hx
      · exact hy
      · exact hits_mem hh x hx
theorem mem_hits {d : XD} : ∀ {l : List XO} {x : XO}, x ∈ l → hitX d x = true → hits d l = true
  | [], x, hx, _ => by cases hx
  | y :: l, x, hx, hh => by
    simp only [hits]
    rcases List.mem_cons.1 hx with rfl | hx
    · rw [hh]
    · split
      · rfl
      · exact mem_hits hx hh
theorem sameD_hit {d e : XD} (hs : sameD d e = false) {k : XO} (h1 : hitX d k = true) (h2 : hitX e k = true) : False := by
  rcases hitX_iff.1 h1 with ⟨t, rfl, rfl⟩ | ⟨t, rfl, rfl⟩
  · rcases hitX_iff.1 h2 with ⟨u, rfl, he⟩ | ⟨u, rfl, he⟩
    · cases he; simp [sameD] at hs
    · cases he
  · rcases hitX_iff.1 h2 with ⟨u, rfl, he⟩ | ⟨u, rfl, he⟩
    · cases he
    · cases he; simp [sameD] at hs
theorem guard_reads {o : XOper} {x : XO} {b : Bool} (h : o.guard = some (x, b)) : x ∈ xreadsO o := by simp [xreadsO, h]
theorem op_reads {o : XOper} {x : XO} (h : x ∈ xreads o.op) : x ∈ xreadsO o := by
  unfold xreadsO
  split
  · exact h
  · exact List.mem_cons_of_mem _ h
/-- an operation and its guard in two frames that agree on what it looks at -/
theorem oper_congr {o : XOper} {a a' : A} (H : ∀ x ∈ xreadsO o, getX x a = getX x a') : wantedX o.guard a = wantedX o.guard a' ∧ ∀ r h, runOp o.op r a h = runOp o.op r a' h :=
  ⟨wantedX_congr fun x b h => H x (guard_reads h), fun _ _ => runOp_congr _ fun x hx => H x (op_reads hx)⟩

/-! masks -/
theorem bit_eq (m j : Nat) : bit m j = m.testBit j := by
  rw [Nat.testBit_eq_decide_div_mod_eq]
  unfold bit
  cases h : Nat.beq ((m.div (Nat.pow 2 j)).mod 2) 1 with
  | true => have := Nat.eq_of_beq_eq_true h; exact (decide_eq_true this).symm
  | false =>
    refine (decide_eq_false fun he => ?_).symm
    have he' : (m.div (Nat.pow 2 j)).mod 2 = 1 := he
    rw [he'] at h
    cases h
theorem bit_lor (a b j : Nat) : bit (Nat.lor a b) j = (bit a j || bit b j) := by
  rw [bit_eq, bit_eq, bit_eq]
  exact Nat.testBit_or a b j
theorem bit_pow (k j : Nat) (h : bit (Nat.pow 2 k) j = true) : k = j := by
  rw [bit_eq] at h
  have h' : (2 ^ k).testBit j = true := h
  rw [Nat.testBit_two_pow] at h'
  simpa using h'
theorem bit_zero (j : Nat) : bit 0 j = false := by rw [bit_eq]; exact Nat.zero_testBit j

/-! who waits for whom -/
def Closed (ops : List Oper) (L : Nat → Prop) : Prop := ∀ i o, ops[i]? = some o → L i → ∀ e ∈ o.after.toList, Region.binds .any e = true → L e.on
def GoodPl (ops : List Oper) (p : Pl) : Prop := ∀ L, Closed ops L → L p.i → ∀ j, bit p.m j = true → L j
theorem findPl_some {i : Nat} : ∀ {ps : List Pl} {p : Pl}, findPl i ps = some p → p ∈ ps ∧ p.i = i
  | [], p, h => by cases h
  | q :: ps, p, h => by
    simp only [findPl] at h
    split at h
    · rename_i hb; cases h; exact ⟨by simp, Nat.eq_of_beq_eq_true hb⟩
    · obtain ⟨h1, h2⟩ := findPl_some h; exact ⟨by simp [h1], h2⟩
theorem findPl_none {i : Nat} : ∀ {ps : List Pl}, findPl i ps = none → ∀ p ∈ ps, p.i ≠ i
  | [], h, p, hp => by cases hp
  | q :: ps, h, p, hp => by
    simp only [findPl] at h
    split at h
    · cases h
    · rename_i hb
      rcases List.mem_cons.1 hp with rfl | hp
      · exact fun he => by rw [he] at hb; simp at hb
      · exact findPl_none h p hp
theorem predMask_found {ps : List Pl} : ∀ {es : List Edge} {m : Nat}, predMask ps es = some m → ∀ e ∈ es, Region.binds .any e = true → ∃ p ∈ ps, p.i = e.on
  | [], m, h, e, he, _ => by cases he
  | e0 :: es, m, h, e, he, hb => by
    simp only [predMask] at h
    split at h
    · rename_i m' hm
      rcases List.mem_cons.1 he with rfl | he
      · rw [hb] at h
        simp only at h
        split at h
        · rename_i p hp; obtain ⟨h1, h2⟩ := findPl_some hp; exact ⟨p, h1, h2⟩
        · cases h
      · exact predMask_found hm e he hb
    · cases h
theorem predMask_good {ops : List Oper} {ps : List Pl} (hg : ∀ p ∈ ps, GoodPl ops p) {L : Nat → Prop} (hL : Closed ops L) : ∀ {es : List Edge} {m : Nat}, predMask ps es = some m → (∀ e ∈ es, Region.binds .any e = true → L e.on) →
    ∀ j, bit m j = true → L j
  | [], m, h, he, j, hj => by simp only [predMask, Option.some.injEq] at h; subst h; rw [bit_zero] at hj; cases hj
  | e0 :: es, m, h, he, j, hj => by
    simp only [predMask] at h
    split at h
    · rename_i m' hm
      have ih := predMask_good hg hL hm (fun e h1 h2 => he e (by simp [h1]) h2)
      split at h
      · rename_i hb
        split at h
        · rename_i p hp
          cases h
          obtain ⟨h1, h2⟩ := findPl_some hp
          rw [bit_lor, bit_lor] at hj
          simp only [Bool.or_eq_true] at hj
          rcases hj with hj | hj | hj
          · exact ih j hj
          · have := bit_pow _ _ hj; subst this; exact he e0 (by simp) hb
          · exact hg p h1 L hL (by rw [h2]; exact he e0 (by simp) hb) j hj
        · cases h
      · cases h; exact ih j hj
    · cases h

/-- one operation rightly placed behind 'ps' -/
structure PlOk (u : Bool) (P : Program) (n vm : Nat) (ops : List Oper) (ps : List Pl) (p : Pl) : Prop where
  op : ∃ o, ops[p.i]? = some o ∧ p.q = isQuietU u o.op ∧ p.x = cOper P n vm ops o ∧ predMask ps o.after.toList = some p.m
  new : ∀ s ∈ ps, s.i ≠ p.i
  pairs : pairsOk p.m p.q p.x ps = true
  quiet : p.q = true → xquietU u p.x.op = true ∧ hits p.x.dst (xreadsO p.x) = false
theorem PlOk.good {u : Bool} {P : Program} {n vm : Nat} {ops : List Oper} {ps : List Pl} {p : Pl} (h : PlOk u P n vm ops ps p) (hg : ∀ s ∈ ps, GoodPl ops s) : GoodPl ops p := by
  obtain ⟨o, ho, -, -, hm⟩ := h.op
  intro L hL hp j hj
  exact predMask_good hg hL hm (fun e he hb => hL p.i o ho hp e he hb) j hj
theorem land_ne {a b k : Nat} (h1 : bit a k = true) (h2 : bit b k = true) : Nat.beq (Nat.land a b) 0 = false := by
  cases h : Nat.beq (Nat.land a b) 0 with
  | false => rfl
  | true =>
    have h3 := Nat.eq_of_beq_eq_true h
    rw [bit_eq] at h1 h2
    have h4 : (Nat.land a b).testBit k = (a.testBit k && b.testBit k) := Nat.testBit_and a b k
    rw [h3, h1, h2, Nat.zero_testBit] at h4
    cases h4
theorem bit_self (k : Nat) : bit (Nat.pow 2 k) k = true := by
  rw [bit_eq]
  exact Nat.testBit_two_pow_self
theorem hitX_mask {d : XD} {x : XO} (h : hitX d x = true) : ∃ k, bit (dmask d) k = true ∧ bit (omask x) k = true := by
  cases d <;> cases x <;> simp only [hitX] at h <;> try (cases h; done)
  · have := Nat.eq_of_beq_eq_true h; subst this; exact ⟨_, bit_self _, bit_self _⟩
  · have := Nat.eq_of_beq_eq_true h; subst this; exact ⟨_, bit_self _, bit_self _⟩
theorem hits_mask {d : XD} : ∀ {l : List XO}, hits d l = true → ∃ k, bit (dmask d) k = true ∧ bit (rmask l) k = true
  | [], h => by cases h
  | x :: l, h => by
    simp only [hits] at h
    split at h
    · rename_i hx
      obtain ⟨k, h1, h2⟩ := hitX_mask hx
      exact ⟨k, h1, by simp only [rmask]; rw [bit_lor, h2]; rfl⟩
    · obtain ⟨k, h1, h2⟩ := hits_mask h
      exact ⟨k, h1, by simp only [rmask]; rw [bit_lor, h2, Bool.or_true]⟩
theorem sameD_mask {d e : XD} (h : sameD d e = true) : ∃ k, bit (dmask d) k = true ∧ bit (dmask e) k = true := by
  cases d <;> cases e <;> simp only [sameD] at h <;> try (cases h; done)
  · have := Nat.eq_of_beq_eq_true h; subst this; exact ⟨_, bit_self _, bit_self _⟩
  · have := Nat.eq_of_beq_eq_true h; subst this; exact ⟨_, bit_self _, bit_self _⟩
theorem pairsOk_mem {m : Nat} {q : Bool} {x : XOper} : ∀ {ps : List Pl}, pairsOk m q x ps = true → ∀ s ∈ ps,
    sameD s.x.dst x.dst = false ∧ (q = true → hits x.dst (xreadsO s.x) = false) ∧ (hits s.x.dst (xreadsO x) = true → bit m s.i = true) ∧ (hits x.dst (xreadsO s.x) = true → bit m s.i = true)
  | [], _, s, hs => by cases hs
  | p :: ps, h, s, hs => by
    simp only [pairsOk, Bool.and_eq_true] at h
    obtain ⟨h0, h3⟩ := h
    rcases List.mem_cons.1 hs with rfl | hs
    · split at h0
      · rename_i hc
        simp only [Bool.and_eq_true] at hc
        obtain ⟨c1, c2, c3⟩ := hc
        rw [s.hd] at c1 c2
        rw [s.hr] at c3
        have e1 : sameD s.x.dst x.dst = false := by
          cases hh : sameD s.x.dst x.dst with
          | false => rfl
          | true => obtain ⟨k, k1, k2⟩ := sameD_mask hh; rw [land_ne k1 k2] at c1; cases c1
        have e2 : hits s.x.dst (xreadsO x) = false := by
          cases hh : hits s.x.dst (xreadsO x) with
          | false => rfl
          | true => obtain ⟨k, k1, k2⟩ := hits_mask hh; rw [land_ne k1 k2] at c2; cases c2
        have e3 : hits x.dst (xreadsO s.x) = false := by
          cases hh : hits x.dst (xreadsO s.x) with
          | false => rfl
          | true => obtain ⟨k, k1, k2⟩ := hits_mask hh; rw [land_ne k2 k1] at c3; cases c3
        exact ⟨e1, fun _ => e3, fun hh => absurd (e2.symm.trans hh) (by decide), fun hh => absurd (e3.symm.trans hh) (by decide)⟩
      · simp only [Bool.and_eq_true, Bool.not_eq_true'] at h0
        obtain ⟨h1, h2⟩ := h0
        refine ⟨h2, ?_, ?_, ?_⟩
        · intro hq
          subst hq
          split at h1
          · simpa using h1
          · simp at h1; exact h1.2
        · intro hh
          split at h1
          · assumption
          · rw [hh] at h1; simp at h1
        · intro hh
          split at h1
          · assumption
          · rw [hh] at h1; simp at h1
    · exact pairsOk_mem h3 s hs
theorem againOf_mem {m : Nat} : ∀ {ps : List Pl} {s : Pl}, s ∈ ps → s.q = true → xlooks s.x.op = true → bit m s.i = false → s.x ∈ againOf m ps
  | [], s, hs, _, _, _ => by cases hs
  | p :: ps, s, hs, h1, h2, h3 => by
    simp only [againOf]
    rcases List.mem_cons.1 hs with rfl | hs
    · simp [h1, h2, h3]
    · split
      · exact List.mem_cons_of_mem _ (againOf_mem hs h1 h2 h3)
      · exact againOf_mem hs h1 h2 h3

/-- a plan for what is left of a region -/
inductive Plan (u : Bool) (P : Program) (n vm : Nat) (ops : List Oper) : List Nat → List XDr → List Pl → Prop
  | nil {ps : List Pl} : Plan u P n vm ops [] [] ps
  | quiet {ps : List Pl} {p : Pl} {is : List Nat} {l : List XDr} (h : PlOk u P n vm ops ps p) (hq : p.q = true) (t : Plan u P n vm ops is l (p :: ps)) : Plan u P n vm ops (p.i :: is) (⟨true, p.x, [], none⟩ :: l) ps
  | eff {ps : List Pl} {p : Pl} {is : List Nat} {l : List XDr} {ag : List XOper} (h : PlOk u P n vm ops ps p) (hq : p.q = false) (hag : xmv p.x.op = true ∨ ag = againOf p.m ps)
      (later : ∀ i ∈ is, ∀ L, Closed ops L → L i → L p.i) (t : Plan u P n vm ops is l (p :: ps)) : Plan u P n vm ops (p.i :: is) (⟨false, p.x, ag, none⟩ :: l) ps
  | two {ps : List Pl} {p p' : Pl} {d1 d2 : XDr} {t : XO × XO} (hu : u = false) (h : PlOk u P n vm ops ps p) (h' : PlOk u P n vm ops ps p') (t1 : Plan u P n vm ops [p'.i] [d2] (p :: ps)) (t2 : Plan u P n vm ops [p.i] [d1] (p' :: ps))
      (hl : ∀ s ∈ ps, s.q = true → xlooks s.x.op = true → bit p.m s.i = true) (hl' : ∀ s ∈ ps, s.q = true → xlooks s.x.op = true → bit p'.m s.i = true)
      (hq : p.q = false) (hq' : p'.q = false) (hx : d1.o = p.x) (hx' : d2.o = p'.x) (htwo : twoSt d1 d2 = some t) : Plan u P n vm ops [p.i, p'.i] [⟨d1.quiet, d1.o, d1.again, some t⟩, d2] ps

theorem placeOne_ok {u : Bool} {P : Program} {n vm : Nat} {ops : List Oper} {i : Nat} {ps : List Pl} {last : Option Nat} {p : Pl} {d : XDr} (h : placeOne u P n vm ops i ps last = some (p, d)) :
    PlOk u P n vm ops ps p ∧ p.i = i ∧ (∀ f, last = some f → bit p.m f = true) ∧ d.quiet = p.q ∧ d.o = p.x ∧ d.two = none ∧ (p.q = true → d.again = []) ∧ (p.q = false → xmv p.x.op = true ∨ d.again = againOf p.m ps) := by
  unfold placeOne at h
  split at h
  · rename_i o ho hf
    split at h
    · rename_i m hm
      split at h
      · rename_i hh
        simp only [Bool.and_eq_true, Bool.or_eq_true, Bool.not_eq_true'] at hh
        obtain ⟨⟨h1, h2⟩, h3⟩ := hh
        cases h
        refine ⟨⟨⟨o, ho, rfl, rfl, hm⟩, fun s hs => findPl_none hf s hs, h2, ?_⟩, rfl, ?_, rfl, rfl, rfl, ?_, ?_⟩
        · intro hq
          rcases h3 with h3 | h3
          · simp only at hq; rw [h3] at hq; cases hq
          · exact h3
        · intro f hl; subst hl; exact h1
        · intro hq
          simp only at hq ⊢
          rw [hq]; rfl
        · intro hq
          simp only at hq ⊢
          rw [hq]
          cases hm' : xmv (cOper P n vm ops o).op with
          | true => exact .inl rfl
          | false => exact .inr (by simp)
      · cases h
    · cases h
  · cases h

theorem placeGo_plan {u : Bool} {P : Program} {n vm : Nat} {ops : List Oper} : ∀ {is : List Nat} {ps : List Pl} {last : Option Nat} {l : List XDr}, placeGo u P n vm ops is ps last = some l → (∀ s ∈ ps, GoodPl ops s) →
    Plan u P n vm ops is l ps ∧ ∀ f, last = some f → ∀ i ∈ is, ∀ L, Closed ops L → L i → L f
  | [], ps, last, l, h, hg => by
    simp only [placeGo, Option.some.injEq] at h
    subst h
    exact ⟨.nil, fun f _ i hi => by cases hi⟩
  | i :: is, ps, last, l, h, hg => by
    simp only [placeGo] at h
    split at h
    · rename_i p d hp
      obtain ⟨hok, rfl, hlast, hdq, hdo, hdt, hda, hda'⟩ := placeOne_ok hp
      have hgp := hok.good hg
      have hg' : ∀ s ∈ p :: ps, GoodPl ops s := fun s hs => by
        rcases List.mem_cons.1 hs with rfl | hs
        · exact hgp
        · exact hg s hs
      split at h
      · rename_i l' hl'
        cases h
        obtain ⟨ih1, ih2⟩ := placeGo_plan hl' hg'
        cases hq : p.q with
        | true =>
          rw [hq] at ih2
          refine ⟨?_, ?_⟩
          · have : d = ⟨true, p.x, [], none⟩ := by
              obtain ⟨dq, dx, da, dt⟩ := d
              simp only at hdq hdo hdt hda
              rw [hda hq, hdq, hdo, hdt, hq]
            rw [this]; exact .quiet hok hq ih1
          · intro f hf j hj L hL hLj
            rcases List.mem_cons.1 hj with rfl | hj
            · exact hgp L hL hLj f (hlast f hf)
            · exact ih2 f hf j hj L hL hLj
        | false =>
          rw [hq] at ih2
          refine ⟨?_, ?_⟩
          · have : d = ⟨false, p.x, d.again, none⟩ := by
              obtain ⟨dq, dx, da, dt⟩ := d
              simp only at hdq hdo hdt hda
              rw [hdq, hdo, hdt, hq]
            rw [this]; exact .eff hok hq (hda' hq) (fun j hj L hL hLj => ih2 p.i rfl j hj L hL hLj) ih1
          · intro f hf j hj L hL hLj
            have hpf : L p.i → L f := fun hh => hgp L hL hh f (hlast f hf)
            rcases List.mem_cons.1 hj with rfl | hj
            · exact hpf hLj
            · exact hpf (ih2 p.i rfl j hj L hL hLj)
      · split at h
        · rename_i j
          split at h
          · rename_i p' d' hp'
            obtain ⟨hok', rfl, hlast', hdq', hdo', -, -, hda2'⟩ := placeOne_ok hp'
            have hgp' := hok'.good hg
            split at h
            · rename_i p2 d2 p1 d1 h2 h1
              split at h
              · rename_i t t0 ht ht0
                cases h
                have hlk : (∀ s ∈ ps, s.q = true → xlooks s.x.op = true → bit p.m s.i = true) ∧ (∀ s ∈ ps, s.q = true → xlooks s.x.op = true → bit p'.m s.i = true) := by
                  have hd0 : d.quiet = false ∧ d.again = [] ∧ xmv d.o.op = false ∧ d'.quiet = false ∧ d'.again = [] ∧ xmv d'.o.op = false := by
                    unfold twoSt at ht0
                    split at ht0
                    · exact ⟨rfl, rfl, rfl, rfl, rfl, rfl⟩
                    · cases ht0
                  obtain ⟨y1, y2, y3, y4, y5, y6⟩ := hd0
                  have h1' : againOf p.m ps = [] := by
                    rcases hda' (by rw [← hdq, y1]) with hz | hz
                    · rw [← hdo, y3] at hz; cases hz
                    · rw [← hz, y2]
                  have h2' : againOf p'.m ps = [] := by
                    rcases hda2' (by rw [← hdq', y4]) with hz | hz
                    · rw [← hdo', y6] at hz; cases hz
                    · rw [← hz, y5]
                  refine ⟨fun s hs h3 h4 => ?_, fun s hs h3 h4 => ?_⟩
                  · cases hb : bit p.m s.i with
                    | true => rfl
                    | false => have := againOf_mem hs h3 h4 hb; rw [h1'] at this; cases this
                  · cases hb : bit p'.m s.i with
                    | true => rfl
                    | false => have := againOf_mem hs h3 h4 hb; rw [h2'] at this; cases this
                obtain ⟨ok1, e1, -, q1, o1, t1, a1, a1'⟩ := placeOne_ok h1
                obtain ⟨ok2, e2, -, q2, o2, t2, a2, a2'⟩ := placeOne_ok h2
                have hd : d1.quiet = false ∧ d1.again = [] ∧ d1.two = none ∧ d2.quiet = false ∧ d2.again = [] ∧ d2.two = none := by
                  unfold twoSt at ht
                  split at ht
                  · exact ⟨rfl, rfl, rfl, rfl, rfl, rfl⟩
                  · cases ht
                obtain ⟨g1, g2, g3, g4, g5, g6⟩ := hd
                have hpx : p1.x = p.x ∧ p1.q = p.q := by
                  obtain ⟨o, ho, hq, hx, -⟩ := ok1.op
                  obtain ⟨o', ho', hq', hx', -⟩ := hok.op
                  rw [e1] at ho; rw [ho] at ho'; cases ho'
                  exact ⟨by rw [hx, hx'], by rw [hq, hq']⟩
                have hpx' : p2.x = p'.x ∧ p2.q = p'.q := by
                  obtain ⟨o, ho, hq, hx, -⟩ := ok2.op
                  obtain ⟨o', ho', hq', hx', -⟩ := hok'.op
                  rw [e2] at ho; rw [ho] at ho'; cases ho'
                  exact ⟨by rw [hx, hx'], by rw [hq, hq']⟩
                have T1 : Plan false P n vm ops [p'.i] [d2] (p :: ps) := by
                  have : d2 = ⟨false, p2.x, d2.again, none⟩ := by
                    obtain ⟨dq, dx, da, dt⟩ := d2
                    simp only at g4 o2 g6
                    rw [g4, o2, g6]
                  rw [this, ← e2]
                  exact .eff ok2 (by rw [← q2, g4]) (a2' (by rw [← q2, g4])) (fun _ hj => by cases hj) .nil
                have T2 : Plan false P n vm ops [p.i] [d1] (p' :: ps) := by
                  have : d1 = ⟨false, p1.x, d1.again, none⟩ := by
                    obtain ⟨dq, dx, da, dt⟩ := d1
                    simp only at g1 o1 g3
                    rw [g1, o1, g3]
                  rw [this, ← e1]
                  exact .eff ok1 (by rw [← q1, g1]) (a1' (by rw [← q1, g1])) (fun _ hj => by cases hj) .nil
                refine ⟨.two rfl hok hok' T1 T2 hlk.1 hlk.2 (by rw [← hpx.2, ← q1, g1]) (by rw [← hpx'.2, ← q2, g4]) (by rw [o1, hpx.1]) (by rw [o2, hpx'.1]) ht, ?_⟩
                intro f hf j hj L hL hLj
                simp only [List.mem_cons, List.not_mem_nil, or_false] at hj
                rcases hj with rfl | rfl
                · exact hgp L hL hLj f (hlast f hf)
                · exact hgp' L hL hLj f (hlast' f hf)
              · cases h
            · cases h
          · cases h
        · cases h
    · cases h

end Go.Ev
