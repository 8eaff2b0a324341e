/- The evaluator: its definitions and what it says of the program. No condition. -/

import Derived.Test.YtgpibpkplhlihaaGreatDoorEvStep
import Derived.OrdersIn
import Derived.OpenShut
import Derived.ChangeSame
import Derived.FnData
set_option linter.unusedVariables false
set_option linter.unusedSimpArgs false
namespace Go.Ev
set_option linter.unusedSectionVars false
variable [Sig]
section
variable {P : Program} {W0 : Wb} {E : Env} {h : H} {w : World} {n vm : Nat} {a : A} {x : Act} {r : Rec}
def AllocRaw (P : Program) (E : Env) (w : World) (s : Sem Next) (mk : Nat → AV) (blk : Blk) : Prop :=
 ∃ (obj : Obj) (u : Value), (∀ E', (∀ c f, E c = some f → E' c = some f) → BlkOk P E' ⟨w.heap.size, 0, 0, none⟩ obj blk) ∧ s.run P w = .ok (.value u) { w with heap := w.heap.push obj } ∧
  (∀ (E' : Env) (b : Nat), E' b = some ⟨w.heap.size, 0, 0, none⟩ → cv E' (mk b) = some u)
theorem row_raw {cs : List AV} {C : List Value} (el : TypeId) (hc : cvC E cs = some C) : ∀ E', (∀ c f, E c = some f → E' c = some f) → BlkOk P E' ⟨w.heap.size, 0, 0, none⟩ (.cells C.toArray el) (.cells cs el false false) := by
 intro E' hE
 have hl := cvC_length hc
 refine ⟨_, _, (0, 0), rfl, fun _ => ⟨rfl, rfl⟩, by simp; omega, ?_, fun hh => by cases hh⟩
 intro i v hi
 obtain ⟨h1, u, hu, hu'⟩ := cvC_get hc i v hi
 refine ⟨h1, u, cv_up hE v u hu, ?_⟩
 simpa using hu'
theorem new_raw {t : TypeId} {z : List AV} (hz : zeroC P t = some z) : AllocRaw P E w (do pure (.value (← Instr.alloc t true (.tuple #[])))) (fun b => .ptr b 0) (.cells z t false false) := by
 obtain ⟨i, zv, hi, hzv, hzc, hzl⟩ := zeroC_run (E := E) hz
 refine ⟨_, .pointer (some ⟨w.heap.size, 0, none⟩), row_raw t hzc, ?_, fun E' b hb => by simp [cv, hb]⟩
 simp [Instr.alloc, zeroValue, typeInfo, hi, hzv, newVar, newRow, newObj, Sem.run]
theorem box_raw (S : HSim P W0 E h w) (hA : ASim E n vm a x) {t : TypeId} {p : Operand} {xp : XO} (hp : cO vm p = some xp) {u : AV} {cs : List AV} (hu : getX xp a = some u) (hcs : u.cells? = some cs) :
  AllocRaw P E w (do pure (.value (← Instr.box t (x.eval p)))) (fun b => .ptr b 0) (.cells cs t false false) := by
 have hc := cells_cv hcs (opr_sound S hA hp hu)
 refine ⟨_, .pointer (some ⟨w.heap.size, 0, none⟩), row_raw t hc, ?_, fun E' b hb => by simp [cv, hb]⟩
 simp [Instr.box, newVar, newRow, newObj, Sem.run]
theorem mkM_raw {t : TypeId} : AllocRaw P E w (do pure (.value (← Instr.makeMap t none))) (fun b => .map b) (.map [] 0) := by
 refine ⟨.map #[] 0, .map (some w.heap.size), fun E' _ => ⟨#[], rfl, trivial⟩, ?_, fun E' b hb => by simp [cv, hb]⟩
 simp [Instr.makeMap, newObj, Sem.run]
theorem buildS_raw (S : HSim P W0 E h w) (hA : ASim E n vm a x) {t e : TypeId} {len sz : Nat} {z : List AV} {ps : Array (Nat × Operand)} {xl : List (Nat × Nat × XO)} (he : elemT P t = some e) (hs : szT P e = some sz) (hz : zeroC P e = some z)
  (hlt : Nat.blt (Nat.mul len sz) 10000 = true) (hc : cParts vm (fun i => some (Nat.mul i sz, sz)) ps.toList = some xl) {l : List (Nat × Nat × AV)} {cs : List AV} (hl : getParts a xl = some l) (hcs : fillL l (repL len z) = some cs) :
  AllocRaw P E w (do pure (.value (← Instr.buildSlice t len (ps.map fun (i, y) => (i, x.eval y))))) (fun b => .slice b 0 len len true) (.cells cs e false false) := by
 obtain ⟨i, zv, hi, hzv, hzc, hzl⟩ := zeroC_run (E := E) hz
 have hut : P.underlying t = some (.slice e) := by
  unfold elemT at he
  split at he
  ·rename_i e' hu; cases he; exact hu
  ·cases he
 have hsz : i.size = sz := by
  obtain ⟨i', hi', hs'⟩ := szT_info hs
  rw [hi] at hi'; cases hi'; exact hs'
 have hzl2 := cvC_length hzc
 have hzsz : zv.cells.size = sz := by simp at hzl2; omega
 have hlt' : len * sz < 10000 := blt_lt hlt
 obtain ⟨C', hC', hfill⟩ := fill_sound S hA hc hl hcs (repL_cv hzc len)
 obtain ⟨h1, -⟩ := newRow_sound (R := []) S e false 0 hC' (by simp)
 refine ⟨_, .slice (some ⟨w.heap.size, 0, none⟩) len len, row_raw e hC', ?_, fun E' b hb => by simp [cv, hb]⟩
 simp only [List.append_nil] at h1
 have hmap : (ps.map fun (i, y) => (i, x.eval y)).toList = ps.toList.map fun p => (p.1, x.eval p.2) := by simp
 have hne : ¬ (len * sz > 2 ^ 24) := by omega
 have hfill' : Instr.fill (fun i => some (i * sz, sz)) ((Array.range (len * sz)).map (fun i => (if len * sz = 0 then (#[] : Array Value) else zv.cells)[i % (if len * sz = 0 then (#[] : Array Value) else zv.cells).size]!)) (ps.toList.map fun p => (p.1, x.eval p.2)) = some C'.toArray := by
  rw [← hfill]
  congr 1
  apply Array.ext'
  by_cases h0 : len * sz = 0
  ·simp [h0, hzsz]
  ·simp [h0, hzsz]
 by_cases h0 : len * sz = 0
 ·simp only [h0, if_true] at hfill'
  simp [Instr.buildSlice, run_underlying hut, sizeOf, typeInfo, hi, hsz, hne, h0, hmap, hfill', h1]
  simp [h0] at hfill'
  simp [hfill', h1]
 ·simp only [h0, if_false] at hfill'
  simp [Instr.buildSlice, run_underlying hut, sizeOf, typeInfo, hi, hsz, hne, h0, hmap, hfill', h1, zeroValue, hzv]
theorem alloc_raw (S : HSim P W0 E h w) (hA : ASim E n vm a x) {o : Oper} {xop : XOp} (hc : cOp P vm o.op = some xop) (hal : xalloc xop = true) {mk : Nat → AV} {blk : Blk} (hr : ∀ h2, runOp0 xop r a h2 = .val (mk h2.next) (h2.new blk)) :
  AllocRaw P E w (execOp x.eval o) mk blk := by
 have key : ∀ (mk' : Nat → AV) (blk' : Blk), (∀ h2, runOp0 xop r a h2 = .val (mk' h2.next) (h2.new blk')) → mk' = mk ∧ blk' = blk := by
  intro mk' blk' h1
  constructor
  ·funext k
   have h2 := h1 ⟨k, .nil, [], [], .off⟩
   rw [hr] at h2
   injection h2 with h3 h4
   exact h3.symm
  ·have h2 := h1 ⟨0, .nil, [], [], .off⟩
   rw [hr] at h2
   injection h2 with h3 h4
   have h5 := congrArg (fun z => H.get z 0) h4
   simp only [H.get_new] at h5
   simpa using h5.symm
 cases ho : o.op <;> simp only [cOp, ho] at hc <;> try (cases hc; done)
 case alloc t =>
  split at hc
  ·rename_i z hz
   cases hc
   obtain ⟨rfl, rfl⟩ := key (fun b => .ptr b 0) (.cells z t false false) (fun h2 => rfl)
   simp only [execOp, ho]; exact new_raw hz
  ·cases hc
 case box t p =>
  split at hc
  ·rename_i xa ha
   cases hc
   have h0 : rBox t xa a h = .val (mk h.next) (h.new blk) := hr h
   unfold rBox at h0
   split at h0
   ·rename_i u hu
    split at h0
    ·rename_i cs hcs
     obtain ⟨rfl, rfl⟩ := key (fun b => .ptr b 0) (.cells cs t false false) (fun h2 => by show rBox t xa a h2 = _; simp only [rBox, hu, hcs])
     simp only [execOp, ho]; exact box_raw S hA ha hu hcs
    ·cases h0
   ·cases h0
  ·cases hc
 case buildSlice t len ps =>
  split at hc
  ·rename_i e he
   split at hc
   ·rename_i sz z hs hz
    split at hc
    ·rename_i xl hlt hl
     cases hc
     have h0 : rBuildS e len (repL len z) xl a h = .val (mk h.next) (h.new blk) := hr h
     unfold rBuildS at h0
     split at h0
     ·rename_i l hl'
      split at h0
      ·rename_i cs hcs
       obtain ⟨rfl, rfl⟩ := key (fun b => .slice b 0 len len true) (.cells cs e false false) (fun h2 => by show rBuildS e len (repL len z) xl a h2 = _; simp only [rBuildS, hl', hcs])
       simp only [execOp, ho]; exact buildS_raw S hA he hs hz hlt hl hl' hcs
      ·cases h0
     ·cases h0
    ·cases hc
   ·cases hc
  ·cases hc
 case makeMap t r' =>
  cases r' with
  | none =>
   simp only [Option.some.injEq] at hc; subst hc
   obtain ⟨rfl, rfl⟩ := key (fun b => .map b) (.map [] 0) (fun h2 => rfl)
   simp only [execOp, ho]; exact mkM_raw
  | some y => cases hc
 case call c =>
  exfalso
  unfold cCall at hc
  (repeat' split at hc) <;> cases hc <;> cases hal
 case slice t p lo hi mx => cases mx <;> simp only at hc <;> (repeat' split at hc) <;> cases hc <;> cases hal
 case next it isS => cases isS <;> simp only at hc <;> (repeat' split at hc) <;> cases hc <;> cases hal
 all_goals (exfalso; (repeat' split at hc) <;> cases hc <;> cases hal)
end
theorem hitX_iff {d : XD} {k : XO} : hitX d k = true ↔ (∃ t, d = .v t ∧ k = .v t) ∨ (∃ t, d = .l t ∧ k = .l t) := by
 cases d <;> cases k <;> simp only [hitX] <;> constructor <;> intro h
 all_goals first
  | (cases h; done)
  | (have := Nat.eq_of_beq_eq_true h; subst this; first | exact .inl ⟨_, rfl, rfl⟩ | exact .inr ⟨_, rfl, rfl⟩)
  | (rcases h with ⟨t, h1, h2⟩ | ⟨t, h1, h2⟩ <;> cases h1 <;> cases h2 <;> exact Nat.beq_refl _)
theorem getX_put (d : XD) (k : XO) (v : AV) (a : A) : getX k (putX d v a) = if hitX d k = true then some v else getX k a := by
 by_cases h : hitX d k = true
 ·rw [if_pos h]
  rcases hitX_iff.1 h with ⟨t, rfl, rfl⟩ | ⟨t, rfl, rfl⟩
  ·show (a.vars.put t v).get t = some v
   rw [Tr.get_put, if_pos rfl]
  ·show findLog t ((t, v) :: a.log) = some v
   rw [findLog_cons, if_pos rfl]
 ·rw [if_neg h]
  cases d with
  | no => rfl
  | v t =>
   cases k with
   | v u =>
    show (a.vars.put t v).get u = a.vars.get u
    rw [Tr.get_put, if_neg (fun he => h (by subst he; exact hitX_iff.2 (.inl ⟨_, rfl, rfl⟩)))]
   | l u => rfl
   | c u => rfl
  | l t =>
   cases k with
   | v u => rfl
   | l u =>
    show findLog u ((t, v) :: a.log) = findLog u a.log
    rw [findLog_cons, if_neg (fun he => h (by subst he; exact hitX_iff.2 (.inr ⟨_, rfl, rfl⟩)))]
   | c u => rfl
theorem defers_put (d : XD) (v : AV) (a : A) : (putX d v a).defers = a.defers := by cases d <;> rfl
theorem hits_mem {d : XD} : ∀ {l : List XO}, hits d l = false → ∀ x ∈ l, hitX d x = false
 | [], _, x, hx => by cases hx
 | y :: l, hh, x, hx => by
  simp only [hits] at hh
  split at hh
  ·cases hh
  ·rename_i hy
   rcases List.mem_cons.1 hx with rfl | hx
   ·exact hy
   ·exact hits_mem hh x hx
theorem mem_hits {d : XD} : ∀ {l : List XO} {x : XO}, x ∈ l → hitX d x = true → hits d l = true
 | [], x, hx, _ => by cases hx
 | y :: l, x, hx, hh => by
  simp only [hits]
  rcases List.mem_cons.1 hx with rfl | hx
  ·rw [hh]
  ·split
   ·rfl
   ·exact mem_hits hx hh
theorem sameD_hit {d e : XD} (hs : sameD d e = false) {k : XO} (h1 : hitX d k = true) (h2 : hitX e k = true) : False := by
 rcases hitX_iff.1 h1 with ⟨t, rfl, rfl⟩ | ⟨t, rfl, rfl⟩
 ·rcases hitX_iff.1 h2 with ⟨u, rfl, he⟩ | ⟨u, rfl, he⟩
  ·cases he; simp [sameD] at hs
  ·cases he
 ·rcases hitX_iff.1 h2 with ⟨u, rfl, he⟩ | ⟨u, rfl, he⟩
  ·cases he
  ·cases he; simp [sameD] at hs
theorem guard_reads {o : XOper} {x : XO} {b : Bool} (h : o.guard = some (x, b)) : x ∈ xreadsO o := by simp [xreadsO, h]
theorem op_reads {o : XOper} {x : XO} (h : x ∈ xreads o.op) : x ∈ xreadsO o := by
 unfold xreadsO
 split
 ·exact h
 ·exact List.mem_cons_of_mem _ h
theorem oper_congr {o : XOper} {a a' : A} (H : ∀ x ∈ xreadsO o, getX x a = getX x a') : wantedX o.guard a = wantedX o.guard a' ∧ ∀ r h, runOp o.op r a h = runOp o.op r a' h :=
 ⟨wantedX_congr fun x b h => H x (guard_reads h), fun _ _ => runOp_congr _ fun x hx => H x (op_reads hx)⟩
theorem bit_eq (m j : Nat) : bit m j = m.testBit j := by
 rw [Nat.testBit_eq_decide_div_mod_eq]
 unfold bit
 cases h : Nat.beq ((m.div (Nat.pow 2 j)).mod 2) 1 with
 | true => have := Nat.eq_of_beq_eq_true h; exact (decide_eq_true this).symm
 | false =>
  refine (decide_eq_false fun he => ?_).symm
  have he' : (m.div (Nat.pow 2 j)).mod 2 = 1 := he
  rw [he'] at h
  cases h
theorem bit_lor (a b j : Nat) : bit (Nat.lor a b) j = (bit a j || bit b j) := by
 rw [bit_eq, bit_eq, bit_eq]
 exact Nat.testBit_or a b j
theorem bit_pow (k j : Nat) (h : bit (Nat.pow 2 k) j = true) : k = j := by
 rw [bit_eq] at h
 have h' : (2 ^ k).testBit j = true := h
 rw [Nat.testBit_two_pow] at h'
 simpa using h'
theorem bit_zero (j : Nat) : bit 0 j = false := by rw [bit_eq]; exact Nat.zero_testBit j
def Closed (ops : List Oper) (L : Nat → Prop) : Prop := ∀ i o, ops[i]? = some o → L i → ∀ e ∈ o.after.toList, Region.binds .any e = true → L e.on
def GoodPl (ops : List Oper) (p : Pl) : Prop := ∀ L, Closed ops L → L p.i → ∀ j, bit p.m j = true → L j
theorem findPl_some {i : Nat} : ∀ {ps : List Pl} {p : Pl}, findPl i ps = some p → p ∈ ps ∧ p.i = i
 | [], p, h => by cases h
 | q :: ps, p, h => by
  simp only [findPl] at h
  split at h
  ·rename_i hb; cases h; exact ⟨by simp, Nat.eq_of_beq_eq_true hb⟩
  ·obtain ⟨h1, h2⟩ := findPl_some h; exact ⟨by simp [h1], h2⟩
theorem findPl_none {i : Nat} : ∀ {ps : List Pl}, findPl i ps = none → ∀ p ∈ ps, p.i ≠ i
 | [], h, p, hp => by cases hp
 | q :: ps, h, p, hp => by
  simp only [findPl] at h
  split at h
  ·cases h
  ·rename_i hb
   rcases List.mem_cons.1 hp with rfl | hp
   ·exact fun he => by rw [he] at hb; simp at hb
   ·exact findPl_none h p hp
theorem predMask_found {ps : List Pl} : ∀ {es : List Edge} {m : Nat}, predMask ps es = some m → ∀ e ∈ es, Region.binds .any e = true → ∃ p ∈ ps, p.i = e.on
 | [], m, h, e, he, _ => by cases he
 | e0 :: es, m, h, e, he, hb => by
  simp only [predMask] at h
  split at h
  ·rename_i m' hm
   rcases List.mem_cons.1 he with rfl | he
   ·rw [hb] at h
    simp only at h
    split at h
    ·rename_i p hp; obtain ⟨h1, h2⟩ := findPl_some hp; exact ⟨p, h1, h2⟩
    ·cases h
   ·exact predMask_found hm e he hb
  ·cases h
theorem predMask_good {ops : List Oper} {ps : List Pl} (hg : ∀ p ∈ ps, GoodPl ops p) {L : Nat → Prop} (hL : Closed ops L) : ∀ {es : List Edge} {m : Nat}, predMask ps es = some m → (∀ e ∈ es, Region.binds .any e = true → L e.on) →
  ∀ j, bit m j = true → L j
 | [], m, h, he, j, hj => by simp only [predMask, Option.some.injEq] at h; subst h; rw [bit_zero] at hj; cases hj
 | e0 :: es, m, h, he, j, hj => by
  simp only [predMask] at h
  split at h
  ·rename_i m' hm
   have ih := predMask_good hg hL hm (fun e h1 h2 => he e (by simp [h1]) h2)
   split at h
   ·rename_i hb
    split at h
    ·rename_i p hp
     cases h
     obtain ⟨h1, h2⟩ := findPl_some hp
     rw [bit_lor, bit_lor] at hj
     simp only [Bool.or_eq_true] at hj
     rcases hj with hj | hj | hj
     ·exact ih j hj
     ·have := bit_pow _ _ hj; subst this; exact he e0 (by simp) hb
     ·exact hg p h1 L hL (by rw [h2]; exact he e0 (by simp) hb) j hj
    ·cases h
   ·cases h; exact ih j hj
  ·cases h
structure PlOk (u : Bool) (P : Program) (n vm : Nat) (ops : List Oper) (ps : List Pl) (p : Pl) : Prop where
 op : ∃ o, ops[p.i]? = some o ∧ p.q = isQuietU u o.op ∧ p.x = cOper P n vm ops o ∧ predMask ps o.after.toList = some p.m
 new : ∀ s ∈ ps, s.i ≠ p.i
 pairs : pairsOk p.m p.q p.x ps = true
 quiet : p.q = true → xquietU u p.x.op = true ∧ hits p.x.dst (xreadsO p.x) = false
theorem PlOk.good {u : Bool} {P : Program} {n vm : Nat} {ops : List Oper} {ps : List Pl} {p : Pl} (h : PlOk u P n vm ops ps p) (hg : ∀ s ∈ ps, GoodPl ops s) : GoodPl ops p := by
 obtain ⟨o, ho, -, -, hm⟩ := h.op
 intro L hL hp j hj
 exact predMask_good hg hL hm (fun e he hb => hL p.i o ho hp e he hb) j hj
theorem land_ne {a b k : Nat} (h1 : bit a k = true) (h2 : bit b k = true) : Nat.beq (Nat.land a b) 0 = false := by
 cases h : Nat.beq (Nat.land a b) 0 with
 | false => rfl
 | true =>
  have h3 := Nat.eq_of_beq_eq_true h
  rw [bit_eq] at h1 h2
  have h4 : (Nat.land a b).testBit k = (a.testBit k && b.testBit k) := Nat.testBit_and a b k
  rw [h3, h1, h2, Nat.zero_testBit] at h4
  cases h4
theorem bit_self (k : Nat) : bit (Nat.pow 2 k) k = true := by
 rw [bit_eq]
 exact Nat.testBit_two_pow_self
theorem hitX_mask {d : XD} {x : XO} (h : hitX d x = true) : ∃ k, bit (dmask d) k = true ∧ bit (omask x) k = true := by
 cases d <;> cases x <;> simp only [hitX] at h <;> try (cases h; done)
 ·have := Nat.eq_of_beq_eq_true h; subst this; exact ⟨_, bit_self _, bit_self _⟩
 ·have := Nat.eq_of_beq_eq_true h; subst this; exact ⟨_, bit_self _, bit_self _⟩
theorem hits_mask {d : XD} : ∀ {l : List XO}, hits d l = true → ∃ k, bit (dmask d) k = true ∧ bit (rmask l) k = true
 | [], h => by cases h
 | x :: l, h => by
  simp only [hits] at h
  split at h
  ·rename_i hx
   obtain ⟨k, h1, h2⟩ := hitX_mask hx
   exact ⟨k, h1, by simp only [rmask]; rw [bit_lor, h2]; rfl⟩
  ·obtain ⟨k, h1, h2⟩ := hits_mask h
   exact ⟨k, h1, by simp only [rmask]; rw [bit_lor, h2, Bool.or_true]⟩
theorem sameD_mask {d e : XD} (h : sameD d e = true) : ∃ k, bit (dmask d) k = true ∧ bit (dmask e) k = true := by
 cases d <;> cases e <;> simp only [sameD] at h <;> try (cases h; done)
 ·have := Nat.eq_of_beq_eq_true h; subst this; exact ⟨_, bit_self _, bit_self _⟩
 ·have := Nat.eq_of_beq_eq_true h; subst this; exact ⟨_, bit_self _, bit_self _⟩
theorem pairsOk_mem {m : Nat} {q : Bool} {x : XOper} : ∀ {ps : List Pl}, pairsOk m q x ps = true → ∀ s ∈ ps,
  sameD s.x.dst x.dst = false ∧ (q = true → hits x.dst (xreadsO s.x) = false) ∧ (hits s.x.dst (xreadsO x) = true → bit m s.i = true) ∧ (hits x.dst (xreadsO s.x) = true → bit m s.i = true)
 | [], _, s, hs => by cases hs
 | p :: ps, h, s, hs => by
  simp only [pairsOk, Bool.and_eq_true] at h
  obtain ⟨h0, h3⟩ := h
  rcases List.mem_cons.1 hs with rfl | hs
  ·split at h0
   ·rename_i hc
    simp only [Bool.and_eq_true] at hc
    obtain ⟨c1, c2, c3⟩ := hc
    rw [s.hd] at c1 c2
    rw [s.hr] at c3
    have e1 : sameD s.x.dst x.dst = false := by
     cases hh : sameD s.x.dst x.dst with
     | false => rfl
     | true => obtain ⟨k, k1, k2⟩ := sameD_mask hh; rw [land_ne k1 k2] at c1; cases c1
    have e2 : hits s.x.dst (xreadsO x) = false := by
     cases hh : hits s.x.dst (xreadsO x) with
     | false => rfl
     | true => obtain ⟨k, k1, k2⟩ := hits_mask hh; rw [land_ne k1 k2] at c2; cases c2
    have e3 : hits x.dst (xreadsO s.x) = false := by
     cases hh : hits x.dst (xreadsO s.x) with
     | false => rfl
     | true => obtain ⟨k, k1, k2⟩ := hits_mask hh; rw [land_ne k2 k1] at c3; cases c3
    exact ⟨e1, fun _ => e3, fun hh => absurd (e2.symm.trans hh) (by decide), fun hh => absurd (e3.symm.trans hh) (by decide)⟩
   ·simp only [Bool.and_eq_true, Bool.not_eq_true'] at h0
    obtain ⟨h1, h2⟩ := h0
    refine ⟨h2, ?_, ?_, ?_⟩
    ·intro hq
     subst hq
     split at h1
     ·simpa using h1
     ·simp at h1; exact h1.2
    ·intro hh
     split at h1
     ·assumption
     ·rw [hh] at h1; simp at h1
    ·intro hh
     split at h1
     ·assumption
     ·rw [hh] at h1; simp at h1
  ·exact pairsOk_mem h3 s hs
theorem againOf_mem {m : Nat} : ∀ {ps : List Pl} {s : Pl}, s ∈ ps → s.q = true → xlooks s.x.op = true → bit m s.i = false → s.x ∈ againOf m ps
 | [], s, hs, _, _, _ => by cases hs
 | p :: ps, s, hs, h1, h2, h3 => by
  simp only [againOf]
  rcases List.mem_cons.1 hs with rfl | hs
  ·simp [h1, h2, h3]
  ·split
   ·exact List.mem_cons_of_mem _ (againOf_mem hs h1 h2 h3)
   ·exact againOf_mem hs h1 h2 h3
inductive Plan (u : Bool) (P : Program) (n vm : Nat) (ops : List Oper) : List Nat → List XDr → List Pl → Prop
 | nil {ps : List Pl} : Plan u P n vm ops [] [] ps
 | quiet {ps : List Pl} {p : Pl} {is : List Nat} {l : List XDr} (h : PlOk u P n vm ops ps p) (hq : p.q = true) (t : Plan u P n vm ops is l (p :: ps)) : Plan u P n vm ops (p.i :: is) (⟨true, p.x, [], none⟩ :: l) ps
 | eff {ps : List Pl} {p : Pl} {is : List Nat} {l : List XDr} {ag : List XOper} (h : PlOk u P n vm ops ps p) (hq : p.q = false) (hag : xmv p.x.op = true ∨ ag = againOf p.m ps)
   (later : ∀ i ∈ is, ∀ L, Closed ops L → L i → L p.i) (t : Plan u P n vm ops is l (p :: ps)) : Plan u P n vm ops (p.i :: is) (⟨false, p.x, ag, none⟩ :: l) ps
 | two {ps : List Pl} {p p' : Pl} {d1 d2 : XDr} {t : XO × XO} (hu : u = false) (h : PlOk u P n vm ops ps p) (h' : PlOk u P n vm ops ps p') (t1 : Plan u P n vm ops [p'.i] [d2] (p :: ps)) (t2 : Plan u P n vm ops [p.i] [d1] (p' :: ps))
   (hl : ∀ s ∈ ps, s.q = true → xlooks s.x.op = true → bit p.m s.i = true) (hl' : ∀ s ∈ ps, s.q = true → xlooks s.x.op = true → bit p'.m s.i = true)
   (hq : p.q = false) (hq' : p'.q = false) (hx : d1.o = p.x) (hx' : d2.o = p'.x) (htwo : twoSt d1 d2 = some t) : Plan u P n vm ops [p.i, p'.i] [⟨d1.quiet, d1.o, d1.again, some t⟩, d2] ps
theorem placeOne_ok {u : Bool} {P : Program} {n vm : Nat} {ops : List Oper} {i : Nat} {ps : List Pl} {last : Option Nat} {p : Pl} {d : XDr} (h : placeOne u P n vm ops i ps last = some (p, d)) :
  PlOk u P n vm ops ps p ∧ p.i = i ∧ (∀ f, last = some f → bit p.m f = true) ∧ d.quiet = p.q ∧ d.o = p.x ∧ d.two = none ∧ (p.q = true → d.again = []) ∧ (p.q = false → xmv p.x.op = true ∨ d.again = againOf p.m ps) := by
 unfold placeOne at h
 split at h
 ·rename_i o ho hf
  split at h
  ·rename_i m hm
   split at h
   ·rename_i hh
    simp only [Bool.and_eq_true, Bool.or_eq_true, Bool.not_eq_true'] at hh
    obtain ⟨⟨h1, h2⟩, h3⟩ := hh
    cases h
    refine ⟨⟨⟨o, ho, rfl, rfl, hm⟩, fun s hs => findPl_none hf s hs, h2, ?_⟩, rfl, ?_, rfl, rfl, rfl, ?_, ?_⟩
    ·intro hq
     rcases h3 with h3 | h3
     ·simp only at hq; rw [h3] at hq; cases hq
     ·exact h3
    ·intro f hl; subst hl; exact h1
    ·intro hq
     simp only at hq ⊢
     rw [hq]; rfl
    ·intro hq
     simp only at hq ⊢
     rw [hq]
     cases hm' : xmv (cOper P n vm ops o).op with
     | true => exact .inl rfl
     | false => exact .inr (by simp)
   ·cases h
  ·cases h
 ·cases h
theorem placeGo_plan {u : Bool} {P : Program} {n vm : Nat} {ops : List Oper} : ∀ {is : List Nat} {ps : List Pl} {last : Option Nat} {l : List XDr}, placeGo u P n vm ops is ps last = some l → (∀ s ∈ ps, GoodPl ops s) →
  Plan u P n vm ops is l ps ∧ ∀ f, last = some f → ∀ i ∈ is, ∀ L, Closed ops L → L i → L f
 | [], ps, last, l, h, hg => by
  simp only [placeGo, Option.some.injEq] at h
  subst h
  exact ⟨.nil, fun f _ i hi => by cases hi⟩
 | i :: is, ps, last, l, h, hg => by
  simp only [placeGo] at h
  split at h
  ·rename_i p d hp
   obtain ⟨hok, rfl, hlast, hdq, hdo, hdt, hda, hda'⟩ := placeOne_ok hp
   have hgp := hok.good hg
   have hg' : ∀ s ∈ p :: ps, GoodPl ops s := fun s hs => by
    rcases List.mem_cons.1 hs with rfl | hs
    ·exact hgp
    ·exact hg s hs
   split at h
   ·rename_i l' hl'
    cases h
    obtain ⟨ih1, ih2⟩ := placeGo_plan hl' hg'
    cases hq : p.q with
    | true =>
     rw [hq] at ih2
     refine ⟨?_, ?_⟩
     ·have : d = ⟨true, p.x, [], none⟩ := by
       obtain ⟨dq, dx, da, dt⟩ := d
       simp only at hdq hdo hdt hda
       rw [hda hq, hdq, hdo, hdt, hq]
      rw [this]; exact .quiet hok hq ih1
     ·intro f hf j hj L hL hLj
      rcases List.mem_cons.1 hj with rfl | hj
      ·exact hgp L hL hLj f (hlast f hf)
      ·exact ih2 f hf j hj L hL hLj
    | false =>
     rw [hq] at ih2
     refine ⟨?_, ?_⟩
     ·have : d = ⟨false, p.x, d.again, none⟩ := by
       obtain ⟨dq, dx, da, dt⟩ := d
       simp only at hdq hdo hdt hda
       rw [hdq, hdo, hdt, hq]
      rw [this]; exact .eff hok hq (hda' hq) (fun j hj L hL hLj => ih2 p.i rfl j hj L hL hLj) ih1
     ·intro f hf j hj L hL hLj
      have hpf : L p.i → L f := fun hh => hgp L hL hh f (hlast f hf)
      rcases List.mem_cons.1 hj with rfl | hj
      ·exact hpf hLj
      ·exact hpf (ih2 p.i rfl j hj L hL hLj)
   ·split at h
    ·rename_i j
     split at h
     ·rename_i p' d' hp'
      obtain ⟨hok', rfl, hlast', hdq', hdo', -, -, hda2'⟩ := placeOne_ok hp'
      have hgp' := hok'.good hg
      split at h
      ·rename_i p2 d2 p1 d1 h2 h1
       split at h
       ·rename_i t t0 ht ht0
        cases h
        have hlk : (∀ s ∈ ps, s.q = true → xlooks s.x.op = true → bit p.m s.i = true) ∧ (∀ s ∈ ps, s.q = true → xlooks s.x.op = true → bit p'.m s.i = true) := by
         have hd0 : d.quiet = false ∧ d.again = [] ∧ xmv d.o.op = false ∧ d'.quiet = false ∧ d'.again = [] ∧ xmv d'.o.op = false := by
          unfold twoSt at ht0
          split at ht0
          ·exact ⟨rfl, rfl, rfl, rfl, rfl, rfl⟩
          ·cases ht0
         obtain ⟨y1, y2, y3, y4, y5, y6⟩ := hd0
         have h1' : againOf p.m ps = [] := by
          rcases hda' (by rw [← hdq, y1]) with hz | hz
          ·rw [← hdo, y3] at hz; cases hz
          ·rw [← hz, y2]
         have h2' : againOf p'.m ps = [] := by
          rcases hda2' (by rw [← hdq', y4]) with hz | hz
          ·rw [← hdo', y6] at hz; cases hz
          ·rw [← hz, y5]
         refine ⟨fun s hs h3 h4 => ?_, fun s hs h3 h4 => ?_⟩
         ·cases hb : bit p.m s.i with
          | true => rfl
          | false => have := againOf_mem hs h3 h4 hb; rw [h1'] at this; cases this
         ·cases hb : bit p'.m s.i with
          | true => rfl
          | false => have := againOf_mem hs h3 h4 hb; rw [h2'] at this; cases this
        obtain ⟨ok1, e1, -, q1, o1, t1, a1, a1'⟩ := placeOne_ok h1
        obtain ⟨ok2, e2, -, q2, o2, t2, a2, a2'⟩ := placeOne_ok h2
        have hd : d1.quiet = false ∧ d1.again = [] ∧ d1.two = none ∧ d2.quiet = false ∧ d2.again = [] ∧ d2.two = none := by
         unfold twoSt at ht
         split at ht
         ·exact ⟨rfl, rfl, rfl, rfl, rfl, rfl⟩
         ·cases ht
        obtain ⟨g1, g2, g3, g4, g5, g6⟩ := hd
        have hpx : p1.x = p.x ∧ p1.q = p.q := by
         obtain ⟨o, ho, hq, hx, -⟩ := ok1.op
         obtain ⟨o', ho', hq', hx', -⟩ := hok.op
         rw [e1] at ho; rw [ho] at ho'; cases ho'
         exact ⟨by rw [hx, hx'], by rw [hq, hq']⟩
        have hpx' : p2.x = p'.x ∧ p2.q = p'.q := by
         obtain ⟨o, ho, hq, hx, -⟩ := ok2.op
         obtain ⟨o', ho', hq', hx', -⟩ := hok'.op
         rw [e2] at ho; rw [ho] at ho'; cases ho'
         exact ⟨by rw [hx, hx'], by rw [hq, hq']⟩
        have T1 : Plan false P n vm ops [p'.i] [d2] (p :: ps) := by
         have : d2 = ⟨false, p2.x, d2.again, none⟩ := by
          obtain ⟨dq, dx, da, dt⟩ := d2
          simp only at g4 o2 g6
          rw [g4, o2, g6]
         rw [this, ← e2]
         exact .eff ok2 (by rw [← q2, g4]) (a2' (by rw [← q2, g4])) (fun _ hj => by cases hj) .nil
        have T2 : Plan false P n vm ops [p.i] [d1] (p' :: ps) := by
         have : d1 = ⟨false, p1.x, d1.again, none⟩ := by
          obtain ⟨dq, dx, da, dt⟩ := d1
          simp only at g1 o1 g3
          rw [g1, o1, g3]
         rw [this, ← e1]
         exact .eff ok1 (by rw [← q1, g1]) (a1' (by rw [← q1, g1])) (fun _ hj => by cases hj) .nil
        refine ⟨.two rfl hok hok' T1 T2 hlk.1 hlk.2 (by rw [← hpx.2, ← q1, g1]) (by rw [← hpx'.2, ← q2, g4]) (by rw [o1, hpx.1]) (by rw [o2, hpx'.1]) ht, ?_⟩
        intro f hf j hj L hL hLj
        simp only [List.mem_cons, List.not_mem_nil, or_false] at hj
        rcases hj with rfl | rfl
        ·exact hgp L hL hLj f (hlast f hf)
        ·exact hgp' L hL hLj f (hlast' f hf)
       ·cases h
      ·cases h
     ·cases h
    ·cases h
  ·cases h
end Go.Ev
namespace Go.Ev
open Go.MapKept (bytes_beq run_findKey)
set_option linter.unusedSectionVars false
variable [Sig]
section
variable {P : Program} {W0 : Wb} {E : Env} {h h' : H} {w : World} {n vm : Nat} {a a' : A} {x : Act} {r : Rec} {u : Bool}
def insX : XOp → Bool
 | .ins .. => true
 | _ => false
theorem runOpU_eq {xop : XOp} (hm : xop ≠ .mkM) (hi : insX xop = false) : runOpU u xop r a h = runOp xop r a h := by
 cases u with
 | false => rfl
 | true =>
  cases xop <;> first | rfl | exact absurd rfl hm | cases hi
theorem runOpU_congr (xop : XOp) (H : ∀ x ∈ xreads xop, getX x a = getX x a') : runOpU u xop r a h = runOpU u xop r a' h := by
 by_cases hm : xop = .mkM
 ·subst hm; cases u <;> rfl
 ·cases hi : insX xop with
  | false => rw [runOpU_eq hm hi, runOpU_eq hm hi]; exact runOp_congr _ H
  | true =>
   cases xop <;> simp only [insX] at hi <;> try (cases hi; done)
   rename_i kt m k v
   cases u with
   | false => exact runOp_congr (r := r) _ H
   | true => simp only [runOpU, H m (by simp [xreads]), H k (by simp [xreads]), H v (by simp [xreads])]
theorem operU_congr {o : XOper} {a a' : A} (H : ∀ x ∈ xreadsO o, getX x a = getX x a') : wantedX o.guard a = wantedX o.guard a' ∧ ∀ r h, runOpU u o.op r a h = runOpU u o.op r a' h :=
 ⟨wantedX_congr fun x b h => H x (guard_reads h), fun _ _ => runOpU_congr _ fun x hx => H x (op_reads hx)⟩
theorem allocU_val (xop : XOp) (hal : xalloc xop = true) {v : AV} (hr : runOpU u xop r a h = .val v h') :
  ∃ (mk : Nat → AV) (blk : Blk), v = mk h.next ∧ h' = h.new blk ∧ blk.wr = true ∧ ∀ h2 : H, runOpU u xop r a h2 = .val (mk h2.next) (h2.new blk) := by
 by_cases hm : xop = .mkM
 ·subst hm
  cases u with
  | false => exact alloc_val (r := r) (a := a) .mkM rfl hr
  | true =>
   simp only [runOpU] at hr
   cases hr
   exact ⟨fun b => .map b, .mapU [] false, rfl, rfl, rfl, fun h2 => rfl⟩
 ·have hi : insX xop = false := by cases xop <;> first | rfl | cases hal
  rw [runOpU_eq hm hi] at hr
  obtain ⟨mk, blk, h1, h2, h3, h4⟩ := alloc_val _ hal hr
  exact ⟨mk, blk, h1, h2, h3, fun h2 => by rw [runOpU_eq hm hi]; exact h4 h2⟩
theorem allocU_raw (S : HSim P W0 E h w) (hA : ASim E n vm a x) {o : Oper} {xop : XOp} (hc : cOp P vm o.op = some xop) (hal : xalloc xop = true) {mk : Nat → AV} {blk : Blk} (hr : ∀ h2, runOpU u xop r a h2 = .val (mk h2.next) (h2.new blk)) :
  AllocRaw P E w (execOp x.eval o) mk blk := by
 have hpu : xpure xop = false := by cases xop <;> first | rfl | cases hal
 by_cases hm : xop = .mkM
 ·subst hm
  cases u with
  | false => exact alloc_raw (r := r) S hA hc hal (fun h2 => by rw [← runOp_eq0 (r := r) hpu]; exact hr h2)
  | true =>
   have key : (fun b => AV.map b) = mk ∧ Blk.mapU [] false = blk := by
    constructor
    ·funext k
     have h2 := hr ⟨k, .nil, [], [], .off⟩
     simp only [runOpU] at h2
     injection h2
    ·have h2 := hr ⟨0, .nil, [], [], .off⟩
     simp only [runOpU] at h2
     injection h2 with h3 h4
     have h5 := congrArg (fun z => H.get z 0) h4
     simp only [H.get_new] at h5
     simpa using h5
   obtain ⟨rfl, rfl⟩ := key
   have h0 := alloc_raw (r := r) S hA hc hal (mk := fun b => .map b) (blk := .map [] 0) (fun h2 => rfl)
   obtain ⟨obj, v, h1, h2, h3⟩ := h0
   obtain ⟨xs, ho, hxs⟩ := h1 E (fun _ _ h => h)
   refine ⟨obj, v, fun E' hE' => ⟨xs, 0, ho, fun _ => ?_, fun hf => by cases hf⟩, h2, h3⟩
   subst ho
   cases hl : xs.toList with
   | nil => 
    have : xs = #[] := Array.toList_eq_nil_iff.1 hl
    subst this; rfl
   | cons y ys => rw [hl] at hxs; exact hxs.elim
 ·have hi : insX xop = false := by cases xop <;> first | rfl | cases hal
  exact alloc_raw S hA hc hal (fun h2 => by rw [← runOp_eq0 (r := r) hpu, ← runOpU_eq (u := u) hm hi]; exact hr h2)
theorem quietU {xop : XOp} (hq : xquietU u xop = true) : (u = true ∧ insX xop = true) ∨ (xquiet xop = true ∧ insX xop = false) := by
 cases u with
 | false =>
  refine .inr ⟨hq, ?_⟩
  cases xop <;> first | rfl | (simp [xquietU, xquiet] at hq)
 | true =>
  cases hi : insX xop with
  | true => exact .inl ⟨rfl, rfl⟩
  | false =>
   refine .inr ⟨?_, rfl⟩
   cases xop <;> first | exact hq | cases hi
theorem ikeq_comm (j k : IntKind) : ikeq j k = ikeq k j := by cases j <;> cases k <;> rfl
theorem ieq_comm (a b : Int) : ieq a b = ieq b a := by
 rw [ieq_iff, ieq_iff, Bool.eq_iff_iff, beq_iff_eq, beq_iff_eq]; exact eq_comm
theorem streq_comm (l c m d : Nat) : streq l c m d = streq m d l c := by
 rw [Bool.eq_iff_iff, streq_iff, streq_iff]; exact eq_comm
def simpleK (k : AV) : Prop := (∃ i m, k = .int i m ∧ symB m = false) ∨ (∃ l c, k = .str l c)
theorem keyEq_comm {x y : AV} (hx : simpleK x) (hy : simpleK y) : keyEq x y = keyEq y x := by
 rcases hx with ⟨i, m, rfl, hm⟩ | ⟨l, c, rfl⟩ <;> rcases hy with ⟨i', m', rfl, hm'⟩ | ⟨l', c', rfl⟩
 ·simp only [keyEq, hm, hm', Bool.or_self, ikeq_comm i i', ieq_comm m m']
 ·rfl
 ·rfl
 ·simp only [keyEq, streq_comm l c l' c']
theorem keyEq_ok {d : TypeDesc} {k y : AV} {b : Bool} (hk : KeyOk d k) (h : keyEq k y = some b) : KeyOk d y := by
 rcases hk with ⟨j, rfl, i, m, rfl, hm⟩ | ⟨rfl, l, c, rfl⟩
 ·cases y <;> simp only [keyEq] at h <;> try (cases h; done)
  rename_i i' m'
  split at h
  ·cases h
  ·rename_i hns
   simp only [Bool.or_eq_false_iff] at hns
   exact .inl ⟨j, rfl, i', m', rfl, hns.2⟩
 ·cases y <;> simp only [keyEq] at h <;> try (cases h; done)
  exact .inr ⟨rfl, _, _, rfl⟩
theorem keyEq_now {d : TypeDesc} {k y : AV} {u z : Value} {b : Bool} (hk : KeyOk d k) (hu : cv E k = some u) (hz : cv E y = some z) (h : keyEq k y = some b) : Instr.sameNow d u z = some b := by
 rcases hk with ⟨j, rfl, i, m, rfl, hm⟩ | ⟨rfl, l, c, rfl⟩
 ·cases cv_int hu hm; exact keyEq_int hm hz h
 ·cases cv_str hu; exact keyEq_str hz h
theorem now_same {d : TypeDesc} {u z : Value} (h : Instr.sameNow d u z = some true) : u = z := by
 unfold Instr.sameNow at h
 split at h
 ·split at h
  ·rename_i hk
   simp only [Option.some.injEq] at h
   rw [hk, eq_of_beq h]
  ·cases h
 ·simp only [Option.some.injEq] at h
  rw [bytes_beq] at h
  rw [h]
 ·simp only [Option.some.injEq] at h
  rw [eq_of_beq h]
 ·cases h
def EntsR (E : Env) : List (AV × AV × Nat) → List MapEntry → Prop
 | [], [] => True
 | (k, v, _) :: es, x :: xs => cv E k = some x.key ∧ cv E v = some x.val ∧ EntsR E es xs
 | _, _ => False
theorem EntsR.up {E E' : Env} (hE : ∀ b e, E b = some e → E' b = some e) : ∀ {es : List (AV × AV × Nat)} {xs : List MapEntry}, EntsR E es xs → EntsR E' es xs
 | [], [], _ => trivial
 | (k, v, b) :: es, x :: xs, ⟨h1, h2, h3⟩ => ⟨cv_up hE k _ h1, cv_up hE v _ h2, EntsR.up hE h3⟩
 | [], _ :: _, h => h.elim
 | _ :: _, [], h => by simp [EntsR] at h
theorem EntsR.length : ∀ {es : List (AV × AV × Nat)} {xs : List MapEntry}, EntsR E es xs → xs.length = es.length
 | [], [], _ => rfl
 | (k, v, b) :: es, x :: xs, ⟨_, _, h3⟩ => by simp [EntsR.length h3]
 | [], _ :: _, h => h.elim
 | _ :: _, [], h => by simp [EntsR] at h
theorem EntsR.push {k v : AV} {c n : Nat} {y z : Value} (hk : cv E k = some y) (hv : cv E v = some z) : ∀ {es : List (AV × AV × Nat)} {xs : List MapEntry}, EntsR E es xs → EntsR E (es ++ [(k, v, c)]) (xs ++ [{ key := y, val := z, born := n }])
 | [], [], _ => ⟨hk, hv, trivial⟩
 | (k, v, b) :: es, x :: xs, ⟨h1, h2, h3⟩ => ⟨h1, h2, EntsR.push hk hv h3⟩
 | [], _ :: _, h => h.elim
 | _ :: _, [], h => by simp [EntsR] at h
theorem EntsR.miss {d : TypeDesc} {k : AV} {u : Value} (hk : KeyOk d k) (hu : cv E k = some u) : ∀ {es : List (AV × AV × Nat)} {xs : List MapEntry} (i : Nat), EntsR E es xs → (∀ e ∈ es, keyEq k e.1 = some false) → Instr.findNow d u xs i = some none
 | [], [], _, _, _ => rfl
 | (y, v, b) :: es, x :: xs, i, ⟨h1, h2, h3⟩, hh => by
  simp only [Instr.findNow, keyEq_now hk hu h1 (hh (y, v, b) (by simp))]
  exact EntsR.miss hk hu (i + 1) h3 fun e he => hh e (by simp [he])
 | [], _ :: _, _, h, _ => h.elim
 | _ :: _, [], _, h, _ => by simp [EntsR] at h
theorem EntsR.found {d : TypeDesc} {k0 v : AV} {c : Nat} {u : Value} (hu : cv E k0 = some u) (hk : KeyOk d k0) (ht : Instr.sameNow d u u = some true) : ∀ {es : List (AV × AV × Nat)} {xs : List MapEntry} (i : Nat), EntsR E es xs → (k0, v, c) ∈ es → es.Pairwise (fun a b => keyEq a.1 b.1 = some false ∧ keyEq b.1 a.1 = some false) →
  ∃ j z, cv E v = some z ∧ Instr.findNow d u xs i = some (some (j, z))
 | (y, v', b) :: es, x :: xs, i, ⟨h1, h2, h3⟩, hm, hp => by
  rw [List.pairwise_cons] at hp
  rcases List.mem_cons.1 hm with he | hm
  ·cases he
   rw [hu] at h1; cases h1
   exact ⟨i, x.val, h2, by simp only [Instr.findNow, ht]⟩
  ·have h4 := keyEq_now hk hu h1 (hp.1 _ hm).2
   obtain ⟨j, z, h5, h6⟩ := EntsR.found hu hk ht (i + 1) h3 hm hp.2
   exact ⟨j, z, h5, by simp only [Instr.findNow, h4, h6]⟩
 | [], _, _, _, hm, _ => by cases hm
 | _ :: _, [], _, h, _, _ => by simp [EntsR] at h
theorem findK_cases {k : AV} : ∀ {l : List (AV × AV × Nat)} {r : Option AV}, findK k l = some r → (r = none ∧ ∀ e ∈ l, keyEq k e.1 = some false) ∨ (∃ k0 v c, (k0, v, c) ∈ l ∧ r = some v ∧ keyEq k k0 = some true)
 | [], r, h => by simp only [findK, Option.some.injEq] at h; exact .inl ⟨h.symm, fun e he => by cases he⟩
 | (y, v, c) :: l, r, h => by
  simp only [findK] at h
  split at h
  ·rename_i hq; cases h; exact .inr ⟨y, v, c, by simp, rfl, hq⟩
  ·rename_i hq
   rcases findK_cases h with ⟨h1, h2⟩ | ⟨k0, v0, c0, h1, h2, h3⟩
   ·refine .inl ⟨h1, fun e he => ?_⟩
    rcases List.mem_cons.1 he with rfl | he
    ·exact hq
    ·exact h2 e he
   ·exact .inr ⟨k0, v0, c0, by simp [h1], h2, h3⟩
  ·cases h
theorem lookOk_of {l es : List (AV × AV × Nat)} {xs : List MapEntry} (hx : EntsR E es xs) (hp : es.Perm l) (hd : es.Pairwise (fun a b => keyEq a.1 b.1 = some false ∧ keyEq b.1 a.1 = some false)) : LookOk E l xs := by
 refine ⟨by rw [hx.length, hp.length_eq], fun d k u r hk hu hr => ?_⟩
 rcases findK_cases hr with ⟨rfl, h2⟩ | ⟨k0, v, c, hm, rfl, hq⟩
 ·exact .inl ⟨rfl, hx.miss hk hu 0 fun e he => h2 e (hp.mem_iff.1 he)⟩
 ·have hk0 := keyEq_ok hk hq
  have hm' := hp.mem_iff.2 hm
  obtain ⟨u0, hu0⟩ : ∃ u0, cv E k0 = some u0 := by
   clear hd hp hr hm hq
   induction es generalizing xs with
   | nil => cases hm'
   | cons e es ih =>
    obtain ⟨y, v', b⟩ := e
    cases xs with
    | nil => simp [EntsR] at hx
    | cons x xs =>
     rcases List.mem_cons.1 hm' with he | hm'
     ·cases he; exact ⟨_, hx.1⟩
     ·exact ih hx.2.2 hm'
  have hs := keyEq_now hk hu hu0 hq
  have := now_same hs
  subst this
  obtain ⟨j, z, h1, h2⟩ := hx.found hu0 hk0 hs 0 hm' hd
  exact .inr ⟨v, j, z, rfl, h1, h2⟩
end
def Env.pinAt (E : Env) (M : Nat) (o : Obj) : Env := fun b => if b = M then (match E b with | some e => some { e with pin := some o } | none => none) else E b
section
variable {P : Program} {W0 : Wb} {E : Env} {h : H} {w : World} {M : Nat} {o : Obj}
theorem pinAt_some {b : Nat} {e : Loc} (hb : E b = some e) : ∃ e', E.pinAt M o b = some e' ∧ e'.rb = e.rb ∧ e'.ro = e.ro ∧ e'.ex = e.ex := by
 unfold Env.pinAt
 split
 ·rw [hb]; exact ⟨_, rfl, rfl, rfl, rfl⟩
 ·exact ⟨e, hb, rfl, rfl, rfl⟩
theorem pinAt_of {b : Nat} {e' : Loc} (hb : E.pinAt M o b = some e') : ∃ e, E b = some e ∧ e'.rb = e.rb ∧ e'.ro = e.ro ∧ e'.ex = e.ex ∧ (b ≠ M → e' = e) ∧ (b = M → e'.pin = some o) := by
 unfold Env.pinAt at hb
 split at hb
 ·rename_i hM
  split at hb
  ·rename_i e he
   cases hb
   exact ⟨e, he, rfl, rfl, rfl, fun hne => absurd hM hne, fun _ => rfl⟩
  ·cases hb
 ·rename_i hM
  exact ⟨e', hb, rfl, rfl, rfl, fun _ => rfl, fun h => absurd h hM⟩
theorem pinAt_ne {b : Nat} (hb : b ≠ M) : E.pinAt M o b = E b := by unfold Env.pinAt; rw [if_neg hb]
theorem pinAt_none {b : Nat} (hb : E b = none) : E.pinAt M o b = none := by
 unfold Env.pinAt
 split
 ·rw [hb]
 ·exact hb
mutual
theorem cv_pin : ∀ v : AV, cv (E.pinAt M o) v = cv E v
 | .bool b => by simp only [cv]
 | .int k n => by simp only [cv]
 | .str l c => by simp only [cv]
 | .ptr b off => by
  simp only [cv]
  cases hb : E b with
  | none => rw [pinAt_none hb]
  | some e => obtain ⟨e', h1, h2, h3, h4⟩ := pinAt_some (M := M) (o := o) hb; rw [h1]; simp only [h2, h3]
 | .nilptr => by simp only [cv]
 | .slice b off len cap ex => by
  simp only [cv]
  cases hb : E b with
  | none => rw [pinAt_none hb]
  | some e => obtain ⟨e', h1, h2, h3, h4⟩ := pinAt_some (M := M) (o := o) hb; rw [h1]; simp only [h2, h3, h4]
 | .nilslice => by simp only [cv]
 | .map b => by
  simp only [cv]
  cases hb : E b with
  | none => rw [pinAt_none hb]
  | some e => obtain ⟨e', h1, h2, h3, h4⟩ := pinAt_some (M := M) (o := o) hb; rw [h1]; simp only [h2, h3]
 | .nilmap => by simp only [cv]
 | .func fn fs cs => by simp only [cv, cvL_pin fs, cvL_pin cs]
 | .yield l => by
  simp only [cv]
  cases hb : E l with
  | none => rw [pinAt_none hb]
  | some e => obtain ⟨e', h1, h2, h3, h4⟩ := pinAt_some (M := M) (o := o) hb; rw [h1]; simp only [h2, h3]
 | .nilfunc => by simp only [cv]
 | .iface t v => by simp only [cv, cv_pin v]
 | .niliface => by simp only [cv]
 | .agg cs => by simp only [cv, cvC_pin cs]
 | .tuple vs => by simp only [cv, cvL_pin vs]
 | .sel i vs => by simp only [cv, cvN_pin vs]
 | .pre z => by simp only [cv]
 | .suf q z => by simp only [cv]
 | .rng b lo hi => by
  simp only [cv]
  cases hb : E b with
  | none => rw [pinAt_none hb]
  | some e => obtain ⟨e', h1, h2, h3, h4⟩ := pinAt_some (M := M) (o := o) hb; rw [h1]; simp only [h2, h3]
theorem cvN_pin : ∀ (vs : List AV) (n : Nat), cvN (E.pinAt M o) vs n = cvN E vs n
 | [], n => by simp only [cvN]
 | v :: vs, 0 => by simp only [cvN, cv_pin v]
 | v :: vs, n + 1 => by simp only [cvN, cvN_pin vs n]
theorem cvL_pin : ∀ vs : List AV, cvL (E.pinAt M o) vs = cvL E vs
 | [] => by simp only [cvL]
 | v :: vs => by simp only [cvL, cv_pin v, cvL_pin vs]
theorem cvC_pin : ∀ vs : List AV, cvC (E.pinAt M o) vs = cvC E vs
 | [] => by simp only [cvC]
 | v :: vs => by simp only [cvC, cv_pin v, cvC_pin vs]
end
theorem VarsOk.pin {vm : Nat} {vars : Tr AV} {tmps : Array Value} (h : VarsOk E vm vars tmps) : VarsOk (E.pinAt M o) vm vars tmps := by
 intro t v hb hv
 rw [cv_pin]
 exact h t v hb hv
theorem EntsOk.pin : ∀ {es : List (AV × AV × Nat)} {xs : List MapEntry}, EntsOk E es xs → EntsOk (E.pinAt M o) es xs
 | [], [], _ => trivial
 | (k, v, b) :: es, x :: xs, ⟨h1, h2, h3, h4⟩ => ⟨by rw [cv_pin]; exact h1, by rw [cv_pin]; exact h2, h3, EntsOk.pin h4⟩
 | [], _ :: _, h => h.elim
 | _ :: _, [], h => by simp [EntsOk] at h
theorem EntsR.pin : ∀ {es : List (AV × AV × Nat)} {xs : List MapEntry}, EntsR E es xs → EntsR (E.pinAt M o) es xs
 | [], [], _ => trivial
 | (k, v, b) :: es, x :: xs, ⟨h1, h2, h3⟩ => ⟨by rw [cv_pin]; exact h1, by rw [cv_pin]; exact h2, EntsR.pin h3⟩
 | [], _ :: _, h => h.elim
 | _ :: _, [], h => by simp [EntsR] at h
theorem BlkOk.pin {e : Loc} {ob : Obj} : ∀ {x : Blk}, BlkOk P E e ob x → BlkOk P (E.pinAt M o) e ob x
 | .cells cs el tail ro, ⟨C, el', fz, h1, h2, h3, h4, h5⟩ => ⟨C, el', fz, h1, h2, h3, fun i v hv => by rw [cv_pin]; exact h4 i v hv, h5⟩
 | .map es clock, ⟨xs, h1, h2⟩ => ⟨xs, h1, h2.pin⟩
 | .siter l c pos, h => h
 | .loop st pend vars vm n ps asg body d, ⟨L, h1, h2, h3, h4, h5, h6, h7, h8, e', h9, h10⟩ => by
  obtain ⟨e'', q1, q2, -, -⟩ := pinAt_some (M := M) (o := o) h9
  exact ⟨L, h1, h2, h3, h4, h5.pin, h6, h7, h8, e'', q1, by rw [q2]; exact h10⟩
 | .deferred fresh, h => h
 | .dead, _ => trivial
 | .mapU es fin, ⟨xs, ck, h1, h2, h3⟩ => ⟨xs, ck, h1, h2, fun hf => ⟨(h3 hf).1, fun d k u r hd hk hr => by
   rw [cv_pin] at hk
   rcases (h3 hf).2 d k u r hd hk hr with q | ⟨v, j, z, q1, q2, q3⟩
   ·exact .inl q
   ·exact .inr ⟨v, j, z, q1, by rw [cv_pin]; exact q2, q3⟩⟩⟩
theorem DefOk.pin : ∀ {d : ADef} {x : Deferred}, DefOk E d x → DefOk (E.pinAt M o) d x
 | .call g args, x, ⟨cap, h1, h2⟩ => ⟨cap, h1, by rw [cvL_pin]; exact h2⟩
 | .mark r, x, ⟨e, h1, h2⟩ => by
  obtain ⟨e', q1, q2, -, -⟩ := pinAt_some (M := M) (o := o) h1
  exact ⟨e', q1, by rw [q2]; exact h2⟩
theorem DefsOk.pin : ∀ {ds : List ADef} {xs : List Deferred}, DefsOk E ds xs → DefsOk (E.pinAt M o) ds xs
 | [], [], _ => trivial
 | d :: ds, x :: xs, ⟨h1, h2⟩ => ⟨h1.pin, h2.pin⟩
 | [], _ :: _, h => h.elim
 | _ :: _, [], h => h.elim
theorem ASim.pin {n vm : Nat} {a : A} {x : Act} (h : ASim E n vm a x) : ASim (E.pinAt M o) n vm a x :=
 ⟨h.size, h.vars.pin, fun t v hb hv => by rw [cv_pin]; exact h.log t v hb hv, h.defers.pin⟩
theorem RdOk.pin : ∀ {rd : Option Nat} {F : Fence}, RdOk E rd F → RdOk (E.pinAt M o) rd F
 | none, _, hh => hh
 | some l, _, ⟨e, h1, h2⟩ => by
  obtain ⟨e', q1, q2, -, -⟩ := pinAt_some (M := M) (o := o) h1
  exact ⟨e', q1, by rw [q2]; exact h2⟩
theorem Trans.pin {E0 : Env} {h0 : H} (t : Trans E0 h0 E h) (hM : h0.next ≤ M) (hd : ∀ b e, E0 b = some e → b < h0.next) : Trans E0 h0 (E.pinAt M o) h :=
 ⟨⟨fun b e hb => by rw [pinAt_ne (by have := hd b e hb; omega)]; exact t.up b e hb, fun b hb => by rw [pinAt_ne (by omega)]; exact t.ext.low b hb⟩, t.next, t.keep, t.pure⟩
theorem HSim.pin (S : HSim P W0 E h w) {e : Loc} (hM : 64 ≤ M) (he : E M = some e) (hg : h.get M = some (.mapU [] false)) (xs : Array MapEntry) (ck : Nat) :
  HSim P W0 (E.pinAt M (.map xs ck)) h { w with heap := w.heap.setIfInBounds e.rb (.map xs ck) } := by
 have hown := S.own M e _ he hg rfl
 have hlt : e.rb < w.heap.size := by
  obtain ⟨o', ho', -⟩ := S.blk M e _ he hg
  rcases Nat.lt_or_ge e.rb w.heap.size with h1 | h1
  ·exact h1
  ·rw [Array.getElem?_eq_none h1] at ho'; cases ho'
 have hoth : ∀ r, r ≠ e.rb → (w.heap.setIfInBounds e.rb (Obj.map xs ck))[r]? = w.heap[r]? := fun r hr => by simp [Ne.symm hr]
 have hat : (w.heap.setIfInBounds e.rb (Obj.map xs ck))[e.rb]? = some (.map xs ck) := by simp [hlt]
 refine ⟨by simpa using S.size, ?_, S.os, S.out, S.low, ?_, ?_, S.top, ?_, ?_, ?_, ?_, S.ho⟩
 ·intro r hr hm
  show (w.heap.setIfInBounds e.rb (Obj.map xs ck))[r]? = _
  rw [hoth r (fun he => by
   subst he
   rcases hown with h1 | h1
   ·omega
   ·exact hm h1)]
  exact S.base r hr hm
 ·intro g hg'
  rw [pinAt_ne (by omega)]; exact S.glob g hg'
 ·intro b f hb
  obtain ⟨f0, h1, -⟩ := pinAt_of hb
  exact S.dom b f0 h1
 ·intro b f x hb hx
  obtain ⟨f0, h1, h2, h3, h4, h5, h6⟩ := pinAt_of hb
  show ∃ o, (w.heap.setIfInBounds e.rb (Obj.map xs ck))[f.rb]? = some o ∧ _
  by_cases hbM : b = M
  ·subst hbM
   rw [he] at h1; cases h1
   rw [hg] at hx; cases hx
   exact ⟨_, by rw [h2]; exact hat, xs, ck, rfl, fun _ => by rw [h6 rfl]; rfl, fun hf => by cases hf⟩
  ·have := h5 hbM; subst this
   obtain ⟨o', ho', hok⟩ := S.blk b f x h1 hx
   by_cases hrb : f.rb = e.rb
   ·have hnw : x.wr = true → False := fun hw => hbM (S.inj b M f e x _ h1 he hx hg hw rfl hrb)
    cases x with
    | cells cs el tl ro =>
     cases ro with
     | false => exact (hnw rfl).elim
     | true =>
      have h1 := S.ronly b f cs el tl h1 hx
      rw [hrb] at h1
      rcases hown with h2 | h2
      ·omega
      ·exact absurd h2 h1.2
    | dead => exact ⟨_, by rw [hrb]; exact hat, trivial⟩
    | map es cl => exact (hnw rfl).elim
    | siter l c' p => exact (hnw rfl).elim
    | loop st pend vars vm n ps asg body d => exact (hnw rfl).elim
    | deferred fr => exact (hnw rfl).elim
    | mapU es fin => exact (hnw rfl).elim
   ·exact ⟨o', by rw [hoth _ hrb]; exact ho', hok.pin⟩
 ·intro b f x hb hx hw
  obtain ⟨f0, h1, h2, -⟩ := pinAt_of hb
  rw [h2]; exact S.own b f0 x h1 hx hw
 ·intro b f cs el tl hb hx
  obtain ⟨f0, h1, h2, -⟩ := pinAt_of hb
  rw [h2]; exact S.ronly b f0 cs el tl h1 hx
 ·intro b c f g x y hb hc hx hy hxw hyw hfg
  obtain ⟨f0, h1, h2, -⟩ := pinAt_of hb
  obtain ⟨g0, q1, q2, -⟩ := pinAt_of hc
  exact S.inj b c f0 g0 x y h1 q1 hx hy hxw hyw (by rw [← h2, ← q2]; exact hfg)
end
end Go.Ev
namespace Go.Ev
set_option linter.unusedSectionVars false
variable [Sig]
theorem recheck_mem {r : Rec} {a : A} {h : H} : ∀ {l : List XOper}, recheck r a h l = true → ∀ o ∈ l, wantedX o.guard a = some true → ∃ v h' , runOp o.op r a h = .val v h' ∧ getD o.dst a = some v
 | [], _, o, ho, _ => by cases ho
 | p :: l, hh, o, ho, hw => by
  simp only [recheck, Bool.and_eq_true] at hh
  rcases List.mem_cons.1 ho with rfl | ho
  ·have h1 := hh.1
   rw [hw] at h1
   simp only at h1
   split at h1
   ·rename_i v h' u hr hg
    have := AV.beq_eq _ _ h1
    subst this
    exact ⟨v, h', hr, hg⟩
   ·cases h1
  ·exact recheck_mem hh.2 o ho hw
theorem Tr.get_del {α : Type} : ∀ (t : Tr α) (n m : Nat), (t.del n).get m = if m = n then none else t.get m
 | .nil, n, m => by simp [Tr.del, Tr.get_nil]
 | .node l v r, 0, m => by
  cases m with
  | zero => simp [Tr.del, Tr.get_node_zero]
  | succ m => simp [Tr.del, Tr.get_node_succ]
 | .node l v r, n + 1, m => by
  have ihl := Tr.get_del l (n / 2)
  have ihr := Tr.get_del r (n / 2)
  have hdel : (Tr.node l v r).del (n + 1) = if n % 2 = 0 then .node (l.del (n / 2)) v r else .node l v (r.del (n / 2)) := by
   simp only [Tr.del]
   split
   ·rename_i hb; have hb' : n % 2 = 0 := Nat.eq_of_beq_eq_true hb; rw [if_pos hb']; rfl
   ·rename_i hb
    have hb' : ¬ n % 2 = 0 := fun he => by
     have : Nat.beq (n % 2) 0 = true := by rw [he]; rfl
     have hb2 : Nat.beq (n % 2) 0 = false := hb
     rw [this] at hb2; cases hb2
    rw [if_neg hb']; rfl
  rw [hdel]
  cases m with
  | zero => split <;> simp [Tr.get_node_zero]
  | succ m =>
   by_cases hn : n % 2 = 0
   ·rw [if_pos hn, Tr.get_node_succ, Tr.get_node_succ]
    by_cases hm : m % 2 = 0
    ·rw [if_pos hm, if_pos hm, ihl]
     by_cases he : m = n
     ·rw [if_pos (by omega), if_pos (by omega)]
     ·rw [if_neg (by omega), if_neg (by omega)]
    ·rw [if_neg hm, if_neg hm, if_neg (by omega)]
   ·rw [if_neg hn, Tr.get_node_succ, Tr.get_node_succ]
    by_cases hm : m % 2 = 0
    ·rw [if_pos hm, if_pos hm, if_neg (by omega)]
    ·rw [if_neg hm, if_neg hm, ihr]
     by_cases he : m = n
     ·rw [if_pos (by omega), if_pos (by omega)]
     ·rw [if_neg (by omega), if_neg (by omega)]
theorem delAll_get : ∀ (qs : List Nat) (t : Tr AV) (k : Nat) (v : AV), (delAll qs t).get k = some v → k ∉ qs ∧ t.get k = some v
 | [], t, k, v, h => ⟨by simp, h⟩
 | q :: qs, t, k, v, h => by
  obtain ⟨h1, h2⟩ := delAll_get qs (t.del q) k v h
  rw [Tr.get_del] at h2
  split at h2
  ·cases h2
  ·rename_i hne; exact ⟨by simp [h1, hne], h2⟩
theorem sameD_symm {d e : XD} (h : sameD d e = false) : sameD e d = false := by
 cases d <;> cases e <;> simp only [sameD] at h ⊢
 ·rename_i t u; cases hb : Nat.beq u t with
  | false => rfl
  | true => have := Nat.eq_of_beq_eq_true hb; subst this; rw [Nat.beq_refl] at h; cases h
 ·rename_i t u; cases hb : Nat.beq u t with
  | false => rfl
  | true => have := Nat.eq_of_beq_eq_true hb; subst this; rw [Nat.beq_refl] at h; cases h
section
variable {u : Bool} {P : Program} {n vm : Nat} {ops : List Oper}
inductive Placed (u : Bool) (P : Program) (n vm : Nat) (ops : List Oper) : List Pl → Prop
 | nil : Placed u P n vm ops []
 | cons {ps : List Pl} {p : Pl} (h : PlOk u P n vm ops ps p) (t : Placed u P n vm ops ps) : Placed u P n vm ops (p :: ps)
theorem Placed.good : ∀ {ps : List Pl}, Placed u P n vm ops ps → ∀ s ∈ ps, GoodPl ops s
 | [], _, s, hs => by cases hs
 | p :: ps, .cons h t, s, hs => by
  rcases List.mem_cons.1 hs with rfl | hs
  ·exact h.good t.good
  ·exact t.good s hs
theorem Placed.oper : ∀ {ps : List Pl}, Placed u P n vm ops ps → ∀ s ∈ ps, (∃ o, ops[s.i]? = some o ∧ s.q = isQuietU u o.op ∧ s.x = cOper P n vm ops o) ∧ (s.q = true → xquietU u s.x.op = true ∧ hits s.x.dst (xreadsO s.x) = false)
 | [], _, s, hs => by cases hs
 | p :: ps, .cons h t, s, hs => by
  rcases List.mem_cons.1 hs with rfl | hs
  ·obtain ⟨o, h1, h2, h3, -⟩ := h.op; exact ⟨⟨o, h1, h2, h3⟩, h.quiet⟩
  ·exact t.oper s hs
theorem Placed.conflict : ∀ {ps : List Pl}, Placed u P n vm ops ps → ∀ s ∈ ps, ∀ t ∈ ps, s.q = true → s.i ≠ t.i → hits s.x.dst (xreadsO t.x) = true → bit t.m s.i = true
 | [], _, s, hs, _, _, _, _, _ => by cases hs
 | p :: ps, .cons h tl, s, hs, t, ht, hq, hne, hh => by
  rcases List.mem_cons.1 hs with rfl | _
  ·rcases List.mem_cons.1 ht with rfl | ht
   ·exact absurd rfl hne
   ·have := (pairsOk_mem h.pairs t ht).2.1 hq
    rw [this] at hh; cases hh
  ·rename_i hs'
   rcases List.mem_cons.1 ht with rfl | ht
   ·exact (pairsOk_mem h.pairs s hs').2.2.1 hh
   ·exact tl.conflict s hs' t ht hq hne hh
theorem Placed.same : ∀ {ps : List Pl}, Placed u P n vm ops ps → ∀ s ∈ ps, ∀ t ∈ ps, s.i ≠ t.i → sameD s.x.dst t.x.dst = false
 | [], _, s, hs, _, _, _ => by cases hs
 | p :: ps, .cons h tl, s, hs, t, ht, hne => by
  rcases List.mem_cons.1 hs with rfl | _
  ·rcases List.mem_cons.1 ht with rfl | ht
   ·exact absurd rfl hne
   ·exact sameD_symm (pairsOk_mem h.pairs t ht).1
  ·rename_i hs'
   rcases List.mem_cons.1 ht with rfl | ht
   ·exact (pairsOk_mem h.pairs s hs').1
   ·exact tl.same s hs' t ht hne
theorem Placed.all {L : Nat → Prop} (hL : ∀ i o, ops[i]? = some o → (∀ e ∈ o.after.toList, Region.binds .any e = true → L e.on) → L i) : ∀ {ps : List Pl}, Placed u P n vm ops ps → ∀ s ∈ ps, L s.i
 | [], _, s, hs => by cases hs
 | p :: ps, .cons h t, s, hs => by
  have ih := t.all hL
  rcases List.mem_cons.1 hs with rfl | hs
  ·obtain ⟨o, h1, h2, h3, h4⟩ := h.op
   exact hL _ o h1 fun e he hb => by
    obtain ⟨q, hq, hqi⟩ := predMask_found h4 e he hb
    rw [← hqi]; exact ih q hq
  ·exact ih s hs
theorem Plan.notin : ∀ {is : List Nat} {l : List XDr} {ps : List Pl}, Plan u P n vm ops is l ps → ∀ j ∈ is, ∀ s ∈ ps, s.i ≠ j := by
 intro is l ps hp
 induction hp with
 | nil => intro j hj; cases hj
 | quiet h hq t ih =>
  intro j hj s hs
  rcases List.mem_cons.1 hj with rfl | hj
  ·exact h.new s hs
  ·exact ih j hj s (by simp [hs])
 | eff h hq hag later t ih =>
  intro j hj s hs
  rcases List.mem_cons.1 hj with rfl | hj
  ·exact h.new s hs
  ·exact ih j hj s (by simp [hs])
 | two hu h h' t1 t2 hl hl' hq hq' hx hx' htwo ih1 ih2 =>
  intro j hj s hs
  simp only [List.mem_cons, List.not_mem_nil, or_false] at hj
  rcases hj with rfl | rfl
  ·exact h.new s hs
  ·exact h'.new s hs
end
structure Ent where
 p : Pl
 v : AV
 b : Option Nat
 kv : Option (Nat × (AV × AV × Nat)) := none
def Pend (u : Bool) (r : Rec) (E : Env) (a : A) (h : H) (t : Ent) : Prop :=
 (∀ k, hitX t.p.x.dst k = true → getX k a = some t.v) ∧
 ((wantedX t.p.x.guard a = some false ∧ t.v = .undef ∧ t.b = none ∧ t.kv = none) ∨
  (wantedX t.p.x.guard a = some true ∧ t.b = none ∧ t.kv = none ∧ xalloc t.p.x.op = false ∧ insX t.p.x.op = false ∧ runOp t.p.x.op r a h = .val t.v h) ∨
  (wantedX t.p.x.guard a = some true ∧ t.kv = none ∧ xalloc t.p.x.op = true ∧ ∃ (mk : Nat → AV) (blk : Blk) (b : Nat), t.b = some b ∧ t.v = mk b ∧ blk.wr = true ∧
   (∀ h2, runOpU u t.p.x.op r a h2 = .val (mk h2.next) (h2.new blk)) ∧ E b = none ∧ b < h.next ∧ h.get b = some blk) ∨
 (u = true ∧ wantedX t.p.x.guard a = some true ∧ t.b = none ∧ t.v = .undef ∧ ∃ (kt : KT) (xm xk xv : XO) (M : Nat) (key val : AV), t.p.x.op = .ins kt xm xk xv ∧ getX xm a = some (.map M) ∧ getX xk a = some key ∧ getX xv a = some val ∧
   plainKey kt key = true ∧ kt ≠ .two ∧ t.kv = some (M, (key, val, 0))))
theorem ins_reads {o : XOper} {kt : KT} {xm xk xv : XO} (h : o.op = .ins kt xm xk xv) : xm ∈ xreadsO o ∧ xk ∈ xreadsO o ∧ xv ∈ xreadsO o := by
 refine ⟨op_reads ?_, op_reads ?_, op_reads ?_⟩ <;> rw [h] <;> simp [xreads]
theorem Pend.mono {u : Bool} {r : Rec} {E E1 : Env} {a a1 : A} {h h1 : H} {t : Ent} (hp : Pend u r E a h t) (hr : ∀ k ∈ xreadsO t.p.x, getX k a1 = getX k a) (hd : ∀ k, hitX t.p.x.dst k = true → getX k a1 = getX k a)
  (hn : h.next ≤ h1.next) (hb : ∀ b, t.b = some b → E b = none → b < h.next → h1.get b = h.get b ∧ E1 b = none)
  (hrun : xalloc t.p.x.op = false → insX t.p.x.op = false → wantedX t.p.x.guard a = some true → runOp t.p.x.op r a h = .val t.v h → runOp t.p.x.op r a h1 = .val t.v h1) : Pend u r E1 a1 h1 t := by
 obtain ⟨c1, c2⟩ := operU_congr (u := u) hr
 obtain ⟨-, c3⟩ := oper_congr hr
 obtain ⟨h1', h2'⟩ := hp
 refine ⟨fun k hk => by rw [hd k hk]; exact h1' k hk, ?_⟩
 rw [c1]
 rcases h2' with h2' | ⟨q1, q2, q0, q3, q3', q4⟩ | ⟨q1, q0, q2, mk, blk, b, q3, q4, q5, q6, q7, q8, q9⟩ | ⟨q1, q2, q3, q4, kt, xm, xk, xv, M, key, val, q5, q6, q7, q8, q9, q10, q11⟩
 ·exact .inl h2'
 ·exact .inr (.inl ⟨q1, q2, q0, q3, q3', by rw [c3]; exact hrun q3 q3' q1 q4⟩)
 ·obtain ⟨z1, z2⟩ := hb b q3 q7 q8
  exact .inr (.inr (.inl ⟨q1, q0, q2, mk, blk, b, q3, q4, q5, fun h2 => by rw [c2]; exact q6 h2, z2, by omega, by rw [z1]; exact q9⟩))
 ·obtain ⟨r1, r2, r3⟩ := ins_reads q5
  exact .inr (.inr (.inr ⟨q1, q2, q3, q4, kt, xm, xk, xv, M, key, val, q5, by rw [hr _ r1]; exact q6, by rw [hr _ r2]; exact q7, by rw [hr _ r3]; exact q8, q9, q10, q11⟩))
def MapAt (E : Env) (w : World) (M : Nat) (L : List (AV × AV × Nat)) : Prop :=
 (E M = none ∧ L = []) ∨ ∃ e xs ck es, E M = some e ∧ w.heap[e.rb]? = some (.map xs ck) ∧ es.Perm L ∧ EntsR E es xs.toList
def entsOf (l : List Ent) : List (AV × AV × Nat) := l.filterMap fun t => t.kv.map (·.2)
def UOk (acc : UA) (listed : Array Bool) (done : List Ent) (h0 h : H) (E : Env) (w : World) : Prop := match acc with
 | none => ∀ t ∈ done, t.kv = none
 | some (M, l) => l = entsOf done ∧ (∀ t ∈ done, ∀ q, t.kv = some q → q.1 = M) ∧ h.get M = some (.mapU [] false) ∧ h0.next ≤ M ∧
  (∀ s ∈ done, ∀ t ∈ done, s.p.i ≠ t.p.i → ∀ q q', s.kv = some q → t.kv = some q' → keyEq q.2.1 q'.2.1 = some false) ∧
  (∀ t ∈ done, ∀ q, t.kv = some q → simpleK q.2.1) ∧ MapAt E w M (entsOf (done.filter fun t => listed.getD t.p.i false))
structure Inv (u : Bool) (P : Program) (W0 : Wb) (n vm : Nat) (r : Rec) (ops : Array Oper) (qs : List Nat) (Q : Exit → Act → World → Prop) (E0 : Env) (h0 : H)
  (listed : Array Bool) (done : List Ent) (is : List Nat) (l : List XDr) (acc : UA) (a a' : A) (h : H) (E : Env) (x : Act) (w : World) : Prop where
 S : HSim P W0 E h w
 hA : ASim E n vm a' x
 defs : a'.defers = a.defers
 tr : Trans E0 h0 E h
 ne : runDraw r qs u l acc a h ≠ .fail
 q : ∀ e x' w', CROk P W0 E0 h0 n vm (runDraw r qs u l acc a h) e x' w' → Q e x' w'
 size : listed.size = ops.size
 closed : Closed ops.toList fun j => listed.getD j false = true
 plan : Plan u P n vm ops.toList is l (done.map (·.p))
 placed : Placed u P n vm ops.toList (done.map (·.p))
 rest : ∀ i ∈ is, listed.getD i true = false
 eff : ∀ t ∈ done, t.p.q = false → listed.getD t.p.i false = true
 cover : ∀ j, j < ops.size → (∃ t ∈ done, t.p.i = j) ∨ j ∈ is
 agree : ∀ k, (∀ t ∈ done, listed.getD t.p.i true = false → hitX t.p.x.dst k = false) → getX k a' = getX k a
 pend : ∀ t ∈ done, listed.getD t.p.i true = false → Pend u r E a h t
 un : UOk acc listed done h0 h E w
 uf : u = false → acc = none
 dist : ∀ s ∈ done, ∀ t ∈ done, ∀ b, s.b = some b → t.b = some b → s.p.i = t.p.i
 bnd : ∀ t ∈ done, ∀ b, t.b = some b → h0.next ≤ b ∧ b < h.next
 dq : ∀ t ∈ done, t.p.q = true → ∀ u, t.p.x.dst = .v u → u ∈ qs
 lq : ∀ d ∈ l, d.quiet = true → ∀ u, d.o.dst = .v u → u ∈ qs
def AtCheck (l : List XDr) : Prop := l = [] ∨ ∃ d ds, l = d :: ds ∧ d.quiet = false
theorem un_lt {listed : Array Bool} {i : Nat} (h : listed.getD i true = false) : i < listed.size := by
 rcases Nat.lt_or_ge i listed.size with h1 | h1
 ·exact h1
 ·simp [Array.getElem?_eq_none h1, Array.getD_eq_getD_getElem?] at h
theorem un_ls {listed : Array Bool} {i : Nat} (h : listed.getD i true = false) (h' : listed.getD i false = true) : False := by
 have := un_lt h
 simp [Array.getD_eq_getD_getElem?, this] at h h'
 rw [h] at h'; cases h'
theorem not_un {listed : Array Bool} {i : Nat} (hi : i < listed.size) (h : ¬ listed.getD i true = false) : listed.getD i false = true := by
 simp [Array.getD_eq_getD_getElem?, hi] at h ⊢
 exact h
theorem not_ls {listed : Array Bool} {i : Nat} (hi : i < listed.size) (h : ¬ listed.getD i false = true) : listed.getD i true = false := by
 simp [Array.getD_eq_getD_getElem?, hi] at h ⊢
 exact h
theorem ls_set {listed : Array Bool} {i j : Nat} (h : (listed.setIfInBounds i true).getD j false = true) : j = i ∨ listed.getD j false = true := by
 by_cases hij : i = j
 ·exact .inl hij.symm
 ·exact .inr (by rw [getD_set_ne false hij] at h; exact h)
theorem un_set {listed : Array Bool} {i j : Nat} (h : (listed.setIfInBounds i true).getD j true = false) : j ≠ i ∧ listed.getD j true = false := by
 by_cases hij : i = j
 ·subst hij
  have h1 := un_lt h
  simp only [Array.size_setIfInBounds] at h1
  simp [Array.getD_eq_getD_getElem?, h1] at h
 ·exact ⟨fun he => hij he.symm, by rw [getD_set_ne true hij] at h; exact h⟩
theorem un_set' {listed : Array Bool} {i j : Nat} (hne : j ≠ i) (h : listed.getD j true = false) : (listed.setIfInBounds i true).getD j true = false := by
 rw [getD_set_ne true (fun he => hne he.symm)]; exact h
theorem ls_set_self {listed : Array Bool} {i : Nat} (hi : i < listed.size) : (listed.setIfInBounds i true).getD i false = true := by
 simp [Array.getD_eq_getD_getElem?, hi]
theorem ls_set' {listed : Array Bool} {i j : Nat} (h : listed.getD j false = true) : (listed.setIfInBounds i true).getD j false = true := getD_set_true h
section
variable {u : Bool} {acc : UA} {P : Program} {W0 : Wb} {n vm : Nat} {r : Rec} {ops : Array Oper} {qs : List Nat} {Q : Exit → Act → World → Prop} {E0 : Env} {h0 : H}
 {listed : Array Bool} {done : List Ent} {is : List Nat} {l : List XDr} {a a' : A} {h : H} {E : Env} {x : Act} {w : World}
theorem runDraw_cons (d : XDr) (ds : List XDr) : runDraw r qs u (d :: ds) acc a h = (match wantedX d.o.guard a with
  | some false => runDraw r qs u ds acc (putX d.o.dst .undef a) h
  | some true => (match twoOk d.two a with
   | true => (match runOpU u d.o.op r a h with
   | .val v h' => (match accU u d.o.op a h acc with
    | some acc' => (match chkU acc' h' with
     | true => (match d.again with
      | [] => runDraw r qs u ds acc' (putX d.o.dst v a) h'
      | again => (match recheck r (putX d.o.dst v a) h' again with
       | true => runDraw r qs u ds acc' (putX d.o.dst v a) h'
       | false => .fail))
     | false => .fail)
    | none => .fail)
   | .pan c h' => (match d.quiet with | true => .fail | false => .pan c ⟨delAll qs a.vars, [], a.defers⟩ h')
   | _ => .fail)
   | false => .fail)
  | none => .fail) := rfl
def QuietH (h h' : H) : Prop := h' = h ∨ ∃ blk, h' = h.new blk
theorem UOk.cons {t : Ent} {h' : H} (hU : UOk acc listed done h0 h E w) (ht : t.kv = none) (hg : ∀ M l, acc = some (M, l) → h.get M = some (.mapU [] false) → h'.get M = some (.mapU [] false)) : UOk acc listed (t :: done) h0 h' E w := by
 unfold UOk at hU ⊢
 split
 ·intro s hs
  rcases List.mem_cons.1 hs with rfl | hs
  ·exact ht
  ·exact hU s hs
 ·rename_i M l
  simp only at hU
  obtain ⟨u1, u2, u3, u4, u5, u6, u7⟩ := hU
  have hm : ∀ {s : Ent}, s ∈ t :: done → ∀ {q}, s.kv = some q → s ∈ done := by
   intro s hs q hq
   rcases List.mem_cons.1 hs with rfl | hs
   ·rw [ht] at hq; cases hq
   ·exact hs
  refine ⟨?_, fun s hs q hq => u2 s (hm hs hq) q hq, hg M l rfl u3, u4, fun s hs t' ht' hne q q' hq hq' => u5 s (hm hs hq) t' (hm ht' hq') hne q q' hq hq', fun s hs q hq => u6 s (hm hs hq) q hq, ?_⟩
  ·rw [u1]; simp [entsOf, ht]
  ·have : entsOf ((t :: done).filter fun t => listed.getD t.p.i false) = entsOf (done.filter fun t => listed.getD t.p.i false) := by
    simp only [List.filter_cons]
    split
    ·simp [entsOf, ht]
    ·rfl
   rw [this]; exact u7
theorem Inv.quiet {p : Pl} {v : AV} {b : Option Nat} {kv : Option (Nat × (AV × AV × Nat))} {acc' : UA} {h' : H} (I : Inv u P W0 n vm r ops qs Q E0 h0 listed done (p.i :: is) (⟨true, p.x, [], none⟩ :: l) acc a a' h E x w)
  (hp : PlOk u P n vm ops.toList (done.map (·.p)) p) (hq : p.q = true) (hpl : Plan u P n vm ops.toList is l (p :: done.map (·.p))) (hh : QuietH h h')
  (hrun : runDraw r qs u (⟨true, p.x, [], none⟩ :: l) acc a h = runDraw r qs u l acc' (putX p.x.dst v a) h')
  (hb : ∀ c, b = some c → c = h.next ∧ h'.next = h.next + 1) (huf : u = false → acc' = none) (hun' : UOk acc' listed (⟨p, v, b, kv⟩ :: done) h0 h' E w)
  (hpend : Pend u r E (putX p.x.dst v a) h' ⟨p, v, b, kv⟩) : Inv u P W0 n vm r ops qs Q E0 h0 listed (⟨p, v, b, kv⟩ :: done) is l acc' (putX p.x.dst v a) a' h' E x w := by
 have hun : listed.getD p.i true = false := I.rest p.i (by simp)
 have hpm : ∀ t ∈ done, t.p ∈ done.map (·.p) := fun t ht => List.mem_map_of_mem ht
 have hn : h.next ≤ h'.next := by
  rcases hh with rfl | ⟨blk, rfl⟩
  ·exact Nat.le_refl _
  ·rw [H.next_new]; omega
 have hg : ∀ c, c < h.next → h'.get c = h.get c := by
  intro c hc
  rcases hh with rfl | ⟨blk, rfl⟩
  ·rfl
  ·rw [H.get_new, if_neg (by omega)]
 have hasm : h'.asm = h.asm := by
  rcases hh with rfl | ⟨blk, rfl⟩
  ·rfl
  ·exact H.asm_new _ _
 have htx : h'.tx = h.tx := by
  rcases hh with rfl | ⟨blk, rfl⟩
  ·rfl
  ·exact H.tx_new _ _
 have hdty : ∀ c, c ∈ h'.dirty → c ∈ h.dirty := by
  rcases hh with rfl | ⟨blk, rfl⟩
  ·exact fun _ hd => hd
  ·intro c hd; rw [H.dirty_new] at hd; exact hd
 have hext : ∀ c y, h.get c = some y → h'.get c = some y := by
  intro c y hy
  have : c < h.next := by
   rcases Nat.lt_or_ge c h.next with h1 | h1
   ·exact h1
   ·rw [I.S.top c h1] at hy; cases hy
  rw [hg c this]; exact hy
 refine ⟨?_, I.hA, by rw [defers_put]; exact I.defs, ?_, by rw [← hrun]; exact I.ne, by rw [← hrun]; exact I.q, I.size, I.closed, hpl, .cons hp I.placed, fun i hi => I.rest i (by simp [hi]), ?_, ?_, ?_, ?_, hun', huf, ?_, ?_, ?_, fun d hd => I.lq d (by simp [hd])⟩
 ·rcases hh with rfl | ⟨blk, rfl⟩
  ·exact I.S
  ·exact I.S.grow blk
 ·exact ⟨I.tr.ext, Nat.le_trans I.tr.next hn, fun c hc hE => by rw [hg c (Nat.lt_of_lt_of_le hc I.tr.next)]; exact I.tr.keep c hc hE, fun c hc hE hd => I.tr.pure c hc hE (hdty c hd)⟩
 ·intro t ht hqt
  rcases List.mem_cons.1 ht with rfl | ht
  ·simp only at hqt; rw [hq] at hqt; cases hqt
  ·exact I.eff t ht hqt
 ·intro j hj
  rcases I.cover j hj with ⟨t, ht, hti⟩ | hj
  ·exact .inl ⟨t, by simp [ht], hti⟩
  ·rcases List.mem_cons.1 hj with rfl | hj
   ·exact .inl ⟨_, List.mem_cons_self, rfl⟩
   ·exact .inr hj
 ·intro k hk
  have h1 := hk ⟨p, v, b, kv⟩ (by simp) hun
  rw [getX_put, if_neg (by simp only at h1; rw [h1]; simp)]
  exact I.agree k fun t ht hu => hk t (by simp [ht]) hu
 ·intro t ht hu
  rcases List.mem_cons.1 ht with rfl | ht
  ·exact hpend
  ·obtain ⟨z1, z2, z3, z4⟩ := pairsOk_mem hp.pairs t.p (hpm t ht)
   refine (I.pend t ht hu).mono ?_ ?_ hn ?_ ?_
   ·intro k hk
    rw [getX_put, if_neg (by rw [hits_mem (z2 hq) k hk]; simp)]
   ·intro k hk
    rw [getX_put, if_neg (fun hh' => sameD_hit z1 hk hh')]
   ·intro c hc hE hlt
    exact ⟨hg c hlt, hE⟩
   ·intro hal hins hw hr
    obtain ⟨ho, hqq⟩ := I.placed.oper t.p (hpm t ht)
    have hqt : t.p.q = true := by
     cases hqt : t.p.q with
     | true => rfl
     | false => exact (un_ls hu (I.eff t ht hqt)).elim
    cases hl : xlooks t.p.x.op with
    | true => exact (look_val _ hl hr).2 h' ⟨hasm, hext⟩ ⟨hasm, htx⟩
    | false => exact (plain_val _ ((quietU (hqq hqt).1).resolve_left (fun hh => by rw [hins] at hh; cases hh.2)).1 hl hal hr).2 h' ⟨hasm, htx⟩
 ·intro s hs t ht c hcs hct
  rcases List.mem_cons.1 hs with rfl | hs
  ·rcases List.mem_cons.1 ht with rfl | ht
   ·rfl
   ·have := (hb c hcs).1
    have := (I.bnd t ht c hct).2
    omega
  ·rcases List.mem_cons.1 ht with rfl | ht
   ·have := (hb c hct).1
    have := (I.bnd s hs c hcs).2
    omega
   ·exact I.dist s hs t ht c hcs hct
 ·intro t ht c hc
  rcases List.mem_cons.1 ht with rfl | ht
  ·obtain ⟨e1, e2⟩ := hb c hc
   have := I.tr.next
   omega
  ·have := I.bnd t ht c hc; omega
 ·intro t ht hqt u hu
  rcases List.mem_cons.1 ht with rfl | ht
  ·exact I.lq ⟨true, p.x, [], none⟩ (by simp) rfl u hu
  ·exact I.dq t ht hqt u hu
theorem advance : ∀ (m : Nat) (is : List Nat) (l : List XDr) (done : List Ent) (acc : UA) (a : A) (h : H), is.length ≤ m → Inv u P W0 n vm r ops qs Q E0 h0 listed done is l acc a a' h E x w →
  ∃ done' is' l' acc' a2 h2, Inv u P W0 n vm r ops qs Q E0 h0 listed done' is' l' acc' a2 a' h2 E x w ∧ AtCheck l' := by
 intro m
 induction m with
 | zero =>
  intro is l done acc a h hm I
  have : is = [] := by cases is with
   | nil => rfl
   | cons _ _ => simp at hm
  subst this
  have hp := I.plan
  cases hp
  exact ⟨_, _, _, _, _, _, I, .inl rfl⟩
 | succ m ih =>
  intro is l done acc a h hm I
  have hp := I.plan
  cases hp with
  | nil => exact ⟨_, _, _, _, _, _, I, .inl rfl⟩
  | eff h1 h2 h3 h4 h5 => exact ⟨_, _, _, _, _, _, I, .inr ⟨_, _, rfl, rfl⟩⟩
  | two hu h1 h2 h3 h4 hl hl' h5 h6 h7 h8 h9 =>
   refine ⟨_, _, _, _, _, _, I, .inr ⟨_, _, rfl, ?_⟩⟩
   unfold twoSt at h9
   split at h9
   ·rfl
   ·cases h9
  | quiet hpl hq ht =>
   rename_i p is' l'
   have hm' : is'.length ≤ m := by simp at hm; omega
   obtain ⟨hxq, hself⟩ := hpl.quiet hq
   have hne := I.ne
   have hun0 : listed.getD p.i true = false := I.rest p.i (by simp)
   have hul : listed.getD p.i false = false := by
    cases hh : listed.getD p.i false with
    | false => rfl
    | true => exact (un_ls hun0 hh).elim
   have hrunc := runDraw_cons (r := r) (qs := qs) (u := u) (acc := acc) (a := a) (h := h) ⟨true, p.x, [], none⟩ l'
   have hcongr : ∀ v, wantedX p.x.guard (putX p.x.dst v a) = wantedX p.x.guard a ∧ ∀ r h, runOp p.x.op r (putX p.x.dst v a) h = runOp p.x.op r a h :=
    fun v => oper_congr fun k hk => by rw [getX_put, if_neg (by rw [hits_mem hself k hk]; simp)]
   have hcongrU : ∀ v, ∀ r h, runOpU u p.x.op r (putX p.x.dst v a) h = runOpU u p.x.op r a h :=
    fun v => (operU_congr fun k hk => by rw [getX_put, if_neg (by rw [hits_mem hself k hk]; simp)]).2
   have hsame : ∀ v, ∀ k ∈ xreadsO p.x, getX k (putX p.x.dst v a) = getX k a := fun v k hk => by rw [getX_put, if_neg (by rw [hits_mem hself k hk]; simp)]
   have hdst : ∀ v k, hitX p.x.dst k = true → getX k (putX p.x.dst v a) = some v := fun v k hk => by rw [getX_put, if_pos hk]
   cases hw : wantedX p.x.guard a with
   | none => rw [hrunc] at hne; simp only [hw] at hne; exact absurd rfl hne
   | some bb =>
    cases bb with
    | false =>
     simp only [hw] at hrunc
     exact ih _ _ _ _ _ _ hm' (I.quiet hpl hq ht (.inl rfl) hrunc (b := none) (kv := none) (fun c hc => by cases hc) I.uf (I.un.cons rfl fun _ _ _ hh => hh) ⟨hdst _, .inl ⟨by rw [(hcongr _).1]; exact hw, rfl, rfl, rfl⟩⟩)
    | true =>
     simp only [hw, twoOk] at hrunc
     cases hop : runOpU u p.x.op r a h with
     | fail => simp only [hop] at hrunc; exact absurd hrunc hne
     | dfr d h' => simp only [hop] at hrunc; exact absurd hrunc hne
     | pan c h' => simp only [hop] at hrunc; exact absurd hrunc hne
     | val v h' =>
      simp only [hop] at hrunc
      cases hac : accU u p.x.op a h acc with
      | none => simp only [hac] at hrunc; exact absurd hrunc hne
      | some acc' =>
       simp only [hac] at hrunc
       cases hck : chkU acc' h' with
       | false => simp only [hck] at hrunc; exact absurd hrunc hne
       | true =>
        simp only [hck] at hrunc
        have hwv : wantedX p.x.guard (putX p.x.dst v a) = some true := by rw [(hcongr _).1]; exact hw
        have huf : u = false → acc' = none := fun hu => by
         subst hu
         simp only [accU, Option.some.injEq] at hac
         rw [← hac]; exact I.uf rfl
        rcases quietU hxq with ⟨hu, hins⟩ | ⟨hxq', hins⟩
        ·-- an entry
         subst hu
         cases hxo : p.x.op <;> rw [hxo] at hins <;> try (cases hins; done)
         rename_i kt xm xk xv
         rw [hxo] at hop hac
         simp only [runOpU] at hop
         split at hop
         ·rename_i M0 key val hgm hgk hgv
          have hkt : plainKey kt key = true ∧ kt ≠ .two ∧ v = .undef ∧ h' = h := by
           split at hop
           ·rename_i hp; cases hop; exact ⟨hp, by simp, rfl, rfl⟩
           ·rename_i hp; cases hop; exact ⟨hp, by simp, rfl, rfl⟩
           ·cases hop
          obtain ⟨hpk, hk2, rfl, rfl⟩ := hkt
          have hsk : simpleK key := by
           cases kt <;> cases key <;> simp only [plainKey] at hpk <;> try (cases hpk; done)
           ·exact .inl ⟨_, _, rfl, by simpa using hpk⟩
           ·exact .inr ⟨_, _, rfl⟩
           all_goals exact absurd rfl hk2
          simp only [accU] at hac
          split at hac
          ·rename_i M l b0 key0 val0 hgm' hgk' hgv'
           rw [hgm] at hgm'; rw [hgk] at hgk'; rw [hgv] at hgv'
           cases hgm'; cases hgk'; cases hgv'
           split at hac
           ·rename_i hbM hfk
            cases hac
            have hbM := Nat.eq_of_beq_eq_true hbM
            subst hbM
            obtain ⟨u1, u2, u3, u4, u5, u6, u7⟩ := I.un
            have hnew : ∀ s ∈ done, ∀ q, s.kv = some q → keyEq key q.2.1 = some false ∧ keyEq q.2.1 key = some false := by
             intro s hs q hq
             have hmem : q.2 ∈ l := by
              rw [u1]; exact List.mem_filterMap.2 ⟨s, hs, by rw [hq]; rfl⟩
             have h1 : keyEq key q.2.1 = some false := by
              rcases findK_cases hfk with ⟨-, h2⟩ | ⟨_, _, _, _, h2, _⟩
              ·exact h2 _ hmem
              ·cases h2
             exact ⟨h1, by rw [keyEq_comm (u6 s hs q hq) hsk]; exact h1⟩
            refine ih _ _ _ _ _ _ hm' (I.quiet hpl hq ht (.inl rfl) hrunc (b := none) (kv := some (M0, (key, val, 0))) (fun c hc => by cases hc) huf ?_ ⟨hdst _, .inr (.inr (.inr ⟨rfl, hwv, rfl, rfl, kt, xm, xk, xv, M0, key, val, hxo, ?_, ?_, ?_, hpk, hk2, rfl⟩))⟩)
            ·refine ⟨by rw [u1]; rfl, ?_, u3, u4, ?_, ?_, ?_⟩
             ·intro s hs q hq
              rcases List.mem_cons.1 hs with rfl | hs
              ·cases hq; rfl
              ·exact u2 s hs q hq
             ·intro s hs t ht' hne' q q' hq hq'
              rcases List.mem_cons.1 hs with rfl | hs
              ·rcases List.mem_cons.1 ht' with rfl | ht'
               ·exact absurd rfl hne'
               ·cases hq; exact (hnew t ht' q' hq').1
              ·rcases List.mem_cons.1 ht' with rfl | ht'
               ·cases hq'; exact (hnew s hs q hq).2
               ·exact u5 s hs t ht' hne' q q' hq hq'
             ·intro s hs q hq
              rcases List.mem_cons.1 hs with rfl | hs
              ·cases hq; exact hsk
              ·exact u6 s hs q hq
             ·rw [List.filter_cons]
              simp only [hul]
              exact u7
            ·rw [hsame _ _ (ins_reads hxo).1]; exact hgm
            ·rw [hsame _ _ (ins_reads hxo).2.1]; exact hgk
            ·rw [hsame _ _ (ins_reads hxo).2.2]; exact hgv
           ·cases hac
          ·cases hac
         ·cases hop
        ·cases hal : xalloc p.x.op with
         | true =>
          obtain ⟨mk, blk, rfl, rfl, hwr, hall⟩ := allocU_val _ hal hop
          refine ih _ _ _ _ _ _ hm' (I.quiet hpl hq ht (.inr ⟨blk, rfl⟩) hrunc (b := some h.next) (kv := none) (fun c hc => by cases hc; exact ⟨rfl, H.next_new _ _⟩) huf ?_ ⟨hdst _, .inr (.inr (.inl ⟨hwv, rfl, hal, mk, blk, h.next, rfl, rfl, hwr, ?_, I.S.fresh, ?_, ?_⟩))⟩)
          ·have hkeep : ∀ M l, acc = some (M, l) → h.get M = some (.mapU [] false) → (h.new blk).get M = some (.mapU [] false) := by
            intro M l _ hg
            rw [H.get_new, if_neg (fun he => by rw [he, I.S.top _ (Nat.le_refl _)] at hg; cases hg)]; exact hg
           have hrest : acc' = acc → UOk acc' listed (⟨p, mk h.next, some h.next, none⟩ :: done) h0 (h.new blk) E w := fun he => by
            rw [he]; exact I.un.cons rfl hkeep
           cases u with
           | false => exact hrest (by simpa [accU] using hac.symm)
           | true =>
            by_cases hmk : p.x.op = .mkM
            ·rw [hmk] at hac hop
             simp only [accU] at hac
             split at hac
             ·cases hac
              have hz := I.un
              simp only [runOpU] at hop
              injection hop with hop1 hop2
              have hz' : ∀ t ∈ (⟨p, mk h.next, some h.next, none⟩ :: done : List Ent), t.kv = none := by
               intro t ht'
               rcases List.mem_cons.1 ht' with rfl | ht'
               ·rfl
               ·exact hz t ht'
              have hem : ∀ (L : List Ent), (∀ t ∈ L, t.kv = none) → entsOf L = [] := by
               intro L hL
               refine List.filterMap_eq_nil_iff.2 fun t ht' => ?_
               rw [hL t ht']; rfl
              refine ⟨(hem _ hz').symm, fun t ht' q hq' => (by rw [hz' t ht'] at hq'; cases hq'), by rw [← hop2, H.get_new, if_pos rfl], I.tr.next, fun s hs _ _ _ q _ hq' _ => (by rw [hz' s hs] at hq'; cases hq'), fun s hs q hq' => (by rw [hz' s hs] at hq'; cases hq'), .inl ⟨I.S.fresh, hem _ fun t ht' => hz' t (List.mem_filter.1 ht').1⟩⟩
             ·cases hac
            ·refine hrest ?_
             cases hxo : p.x.op <;> rw [hxo] at hac hins hmk <;> first | (exact absurd rfl hmk) | (cases hins; done) | (simp only [accU, Option.some.injEq] at hac; exact hac.symm)
          ·intro h2; rw [hcongrU]; exact hall h2
          ·rw [H.next_new]; omega
          ·rw [H.get_new, if_pos rfl]
         | false =>
          have hmk : p.x.op ≠ .mkM := fun he => by rw [he] at hal; cases hal
          rw [runOpU_eq hmk hins] at hop
          have hacc : acc' = acc := by
           cases u with
           | false => simpa [accU] using hac.symm
           | true => cases hxo : p.x.op <;> rw [hxo] at hac hins hmk <;> first | (exact absurd rfl hmk) | (cases hins; done) | (simp only [accU, Option.some.injEq] at hac; exact hac.symm)
          have hh : h' = h := by
           cases hl : xlooks p.x.op with
           | true => exact (look_val _ hl hop).1
           | false => exact (plain_val _ hxq' hl hal hop).1
          subst hh
          exact ih _ _ _ _ _ _ hm' (I.quiet hpl hq ht (.inl rfl) hrunc (b := none) (kv := none) (fun c hc => by cases hc) huf (by rw [hacc]; exact I.un.cons rfl fun _ _ _ hh => hh) ⟨hdst _, .inr (.inl ⟨hwv, rfl, rfl, hal, hins, by rw [(hcongr _).2]; exact hop⟩)⟩)
end
end Go.Ev
namespace Go.Ev
set_option linter.unusedSectionVars false
variable [Sig]
section
variable {u : Bool} {acc : UA} {P : Program} {W0 : Wb} {n vm : Nat} {r : Rec} {ops : Array Oper} {qs : List Nat} {Q : Exit → Act → World → Prop} {E0 : Env} {h0 : H}
 {listed : Array Bool} {done : List Ent} {is : List Nat} {l : List XDr} {a a' : A} {h : H} {E : Env} {x : Act} {w : World}
theorem Inv.closed' (I : Inv u P W0 n vm r ops qs Q E0 h0 listed done is l acc a a' h E x w) {i : Nat} {o : Oper} (ho : ops[i]? = some o) (hi : i < listed.size) (hpre : ∀ e ∈ o.after, Region.binds .any e = true → listed.getD e.on false = true) :
  Closed ops.toList fun j => (listed.setIfInBounds i true).getD j false = true := by
 intro j oj hoj hj e he hb
 rcases ls_set hj with rfl | hj
 ·have : oj = o := by simpa [ho] using hoj.symm
  subst this
  exact ls_set' (hpre e (by simpa using he) hb)
 ·exact ls_set' (I.closed j oj hoj hj e he hb)
theorem MapAt.keep {E E' : Env} {h h' : H} {w w' : World} {M : Nat} {L : List (AV × AV × Nat)} (hm : MapAt E w M L) (S : HSim P W0 E h w) (S' : HSim P W0 E' h' w') (up : ∀ b e, E b = some e → E' b = some e)
  (hg : h.get M = some (.mapU [] false)) (hg' : h'.get M = some (.mapU [] false)) (hnone : E M = none → E' M = none ∨ ∃ e', E' M = some e' ∧ e'.pin = none) : MapAt E' w' M L := by
 rcases hm with ⟨h1, h2⟩ | ⟨e, xs, ck, es, h1, h2, h3, h4⟩
 ·rcases hnone h1 with h3 | ⟨e', h3, h4⟩
  ·exact .inl ⟨h3, h2⟩
  ·obtain ⟨o, ho, xs, ck, rfl, h5, -⟩ := S'.blk M e' _ h3 hg'
   have h5 := h5 rfl
   rw [h4] at h5
   cases h5
   exact .inr ⟨e', #[], 0, [], h3, ho, by rw [h2], trivial⟩
 ·obtain ⟨o, ho, xs1, ck1, rfl, h5, -⟩ := S.blk M e _ h1 hg
  obtain ⟨o', ho', xs2, ck2, rfl, h6, -⟩ := S'.blk M e _ (up M e h1) hg'
  have h7 : Obj.map xs2 ck2 = Obj.map xs1 ck1 := (h6 rfl).trans (h5 rfl).symm
  rw [h2] at ho
  cases ho
  cases h7
  exact .inr ⟨e, _, _, es, up M e h1, ho', h3, h4.up up⟩
theorem Placed.nodup : ∀ {ps : List Pl}, Placed u P n vm ops.toList ps → ps.Pairwise fun a b => a.i ≠ b.i
 | [], _ => .nil
 | p :: ps, .cons h t => .cons (fun s hs he => h.new s hs he.symm) t.nodup
theorem filter_mark {t : Ent} : ∀ {done : List Ent}, (done.Pairwise fun a b => a.p.i ≠ b.p.i) → t ∈ done → listed.getD t.p.i true = false →
  (done.filter fun s => (listed.setIfInBounds t.p.i true).getD s.p.i false).Perm (t :: done.filter fun s => listed.getD s.p.i false)
 | s :: done, hp, ht, hu => by
  rw [List.pairwise_cons] at hp
  have hlt := un_lt hu
  have hne : ∀ a : Ent, a.p.i ≠ t.p.i → (listed.setIfInBounds t.p.i true).getD a.p.i false = listed.getD a.p.i false := fun a ha => getD_set_ne false (fun he => ha he.symm)
  have hul : listed.getD t.p.i false = false := by
   cases hh : listed.getD t.p.i false with
   | false => rfl
   | true => exact (un_ls hu hh).elim
  rcases List.mem_cons.1 ht with rfl | ht
  ·simp only [List.filter_cons, ls_set_self hlt, hul]
   simp only [if_true, Bool.false_eq_true, if_false]
   refine .cons _ (.of_eq (List.filter_congr fun a ha => hne a fun he => hp.1 a ha he.symm))
  ·have hst : s.p.i ≠ t.p.i := hp.1 t ht
   have ih := filter_mark hp.2 ht hu
   simp only [List.filter_cons, hne s hst]
   split
   ·exact (ih.cons s).trans (.swap _ _ _)
   ·exact ih
theorem UOk.mark {h' : H} {t : Ent} {E' : Env} {w' : World} (hU : UOk acc listed done h0 h E w) (hnd : done.Pairwise fun a b => a.p.i ≠ b.p.i) (ht : t ∈ done) (hu : listed.getD t.p.i true = false) (hkv : t.kv = none)
  (hg : ∀ M l, acc = some (M, l) → h.get M = some (.mapU [] false) → h'.get M = some (.mapU [] false)) (hm : ∀ M l L, acc = some (M, l) → h.get M = some (.mapU [] false) → MapAt E w M L → MapAt E' w' M L) :
  UOk acc (listed.setIfInBounds t.p.i true) done h0 h' E' w' := by
 unfold UOk at hU ⊢
 split
 ·exact hU
 ·rename_i M l
  simp only at hU
  obtain ⟨u1, u2, u3, u4, u5, u6, u7⟩ := hU
  refine ⟨u1, u2, hg M l rfl u3, u4, u5, u6, ?_⟩
  have hp := (filter_mark hnd ht hu).filterMap fun t => t.kv.map (·.2)
  have h7 := hm M l _ rfl u3 u7
  have hp' : (entsOf (done.filter fun s => (listed.setIfInBounds t.p.i true).getD s.p.i false)).Perm (entsOf (done.filter fun s => listed.getD s.p.i false)) := by
   refine hp.trans (.of_eq ?_)
   rw [List.filterMap_cons, hkv]
   rfl
  rcases h7 with ⟨q1, q2⟩ | ⟨e, xs, ck, es, q1, q2, q3, q4⟩
  ·refine .inl ⟨q1, ?_⟩
   rw [q2] at hp'
   exact hp'.eq_nil
  ·exact .inr ⟨e, xs, ck, es, q1, q2, q3.trans hp'.symm, q4⟩
theorem Inv.mark (I : Inv u P W0 n vm r ops qs Q E0 h0 listed done is l acc a a' h E x w) {t : Ent} (ht : t ∈ done) (hu : listed.getD t.p.i true = false) {o : Oper} (ho : ops[t.p.i]? = some o)
  (hpre : ∀ e ∈ o.after, Region.binds .any e = true → listed.getD e.on false = true) {E' : Env} {x' : Act} {w' : World} (S' : HSim P W0 E' h w') (hA' : ASim E' n vm (putX t.p.x.dst t.v a') x') (htr : Trans E0 h0 E' h)
  (hUn : UOk acc (listed.setIfInBounds t.p.i true) done h0 h E' w') (hE : ∀ b, E b = none → b < h.next → t.b ≠ some b → E' b = none) : Inv u P W0 n vm r ops qs Q E0 h0 (listed.setIfInBounds t.p.i true) done is l acc a (putX t.p.x.dst t.v a') h E' x' w' := by
 have hpm : ∀ t ∈ done, t.p ∈ done.map (·.p) := fun t ht => List.mem_map_of_mem ht
 have hlt := un_lt hu
 refine ⟨S', hA', by rw [defers_put]; exact I.defs, htr, I.ne, I.q, by simp [I.size], I.closed' ho hlt hpre, I.plan, I.placed, ?_, fun s hs hq => ls_set' (I.eff s hs hq), I.cover, ?_, ?_, hUn, I.uf, I.dist, I.bnd, I.dq, I.lq⟩
 ·intro j hj
  exact un_set' (fun he => I.plan.notin j hj t.p (hpm t ht) he.symm) (I.rest j hj)
 ·intro k hk
  rw [getX_put]
  by_cases hh : hitX t.p.x.dst k = true
  ·rw [if_pos hh]; exact ((I.pend t ht hu).1 k hh).symm
  ·rw [if_neg hh]
   refine I.agree k fun s hs hus => ?_
   by_cases he : s.p.i = t.p.i
   ·cases hsk : hitX s.p.x.dst k with
    | false => rfl
    | true =>
     obtain ⟨⟨o1, ho1, -, hx1⟩, -⟩ := I.placed.oper s.p (hpm s hs)
     obtain ⟨⟨o2, ho2, -, hx2⟩, -⟩ := I.placed.oper t.p (hpm t ht)
     rw [he, ho2] at ho1; cases ho1
     rw [hx1, ← hx2] at hsk
     exact absurd hsk hh
   ·exact hk s hs (un_set' he hus)
 ·intro s hs hus
  obtain ⟨hne, hus'⟩ := un_set hus
  refine (I.pend s hs hus').mono (fun _ _ => rfl) (fun _ _ => rfl) (Nat.le_refl _) ?_ (fun _ _ _ hr => hr)
  intro b hb hEb hlt'
  exact ⟨rfl, hE b hEb hlt' fun htb => hne (I.dist s hs t ht b hb htb)⟩
theorem Inv.reads (I : Inv u P W0 n vm r ops qs Q E0 h0 listed done is l acc a a' h E x w) {o : Oper} {i m : Nat} {X : XOper} (ho : ops[i]? = some o) (hu : listed.getD i true = false)
  (hpre : ∀ e ∈ o.after, Region.binds .any e = true → listed.getD e.on false = true) (hgood : ∀ L, Closed ops.toList L → L i → ∀ j, bit m j = true → L j)
  (hconf : ∀ s ∈ done, s.p.q = true → s.p.i ≠ i → hits s.p.x.dst (xreadsO X) = true → bit m s.p.i = true) (hself : ∀ s ∈ done, s.p.i = i → hits s.p.x.dst (xreadsO X) = false) : ∀ k ∈ xreadsO X, getX k a' = getX k a := by
 intro k hk
 refine I.agree k fun s hs hus => ?_
 cases hsk : hitX s.p.x.dst k with
 | false => rfl
 | true =>
  exfalso
  have hh := mem_hits hk hsk
  by_cases he : s.p.i = i
  ·rw [hself s hs he] at hh; cases hh
  ·have hq : s.p.q = true := by
    cases hq : s.p.q with
    | true => rfl
    | false => exact (un_ls hus (I.eff s hs hq)).elim
   have hb := hconf s hs hq he hh
   have := hgood _ (I.closed' ho (un_lt hu) hpre) (ls_set_self (un_lt hu)) _ hb
   rcases ls_set this with h1 | h1
   ·exact he h1
   ·exact un_ls hus h1
theorem cOper_parts {all : List Oper} {o : Oper} {X : XOper} (hx : X = cOper P n vm all o) (hnb : X.op ≠ .bad) : cGuard vm all o.guard = some X.guard ∧ cOp P vm o.op = some X.op ∧ cDst n vm o.dst = some X.dst := by
 rcases cOper_cases P n vm all o with ⟨g, xop, d, h1, h2, h3, h4⟩ | h4
 ·rw [hx, h4]; exact ⟨h1, h2, h3⟩
 ·rw [hx, h4] at hnb; exact absurd rfl hnb
theorem wpIn_value {F : Fence} {rd : Option Nat} (hF : RdOk E rd F) {o : Oper} {next : Act → World → Prop} {u : Value} {w' : World} (hnd : ∀ c, o.op ≠ .defer c) (hrun : (execOp x.eval o).run P w = .ok (.value u) w') (hk : next (x.put o.dst u) w') :
  o.wpIn F 0 P x w next Q := by
 refine ⟨fun f _ => hF.fn f, ?_⟩
 have hsem : o.semAt F.round x.eval = execOp x.eval o := Oper.semAt_eq _ _ _ hnd
 rw [hsem, hrun]
 exact hk
theorem wpIn_skip {F : Fence} {rd : Option Nat} (hF : RdOk E rd F) {o : Oper} {next : Act → World → Prop} {w' : World} (hnd : ∀ c, o.op ≠ .defer c) (hrun : (execOp x.eval o).run P w = .ok .skip w') (hk : next (x.put o.dst undef) w') :
  o.wpIn F 0 P x w next Q := by
 refine ⟨fun f _ => hF.fn f, ?_⟩
 have hsem : o.semAt F.round x.eval = execOp x.eval o := Oper.semAt_eq _ _ _ hnd
 rw [hsem, hrun]
 exact hk
theorem cOp_ins {op : Op} {kt : KT} {xm xk xv : XO} (hc : cOp P vm op = some (.ins kt xm xk xv)) :
  ∃ t m k v kty et, op = .insert t m k v ∧ P.underlying t = some (.map kty et) ∧ keyT P kty = some kt ∧ cO vm m = some xm ∧ cO vm k = some xk ∧ cO vm v = some xv := by
 cases op <;> simp only [cOp] at hc <;> try (cases hc; done)
 case insert t m k v =>
  split at hc
  ·rename_i kty et a b c hu ha hb hc'
   split at hc
   ·rename_i i hk; cases hc; exact ⟨t, m, k, v, kty, et, rfl, hu, hk, ha, hb, hc'⟩
   ·cases hc
  ·cases hc
 case call c =>
  exfalso
  unfold cCall at hc
  (repeat' split at hc) <;> cases hc
 case slice t p lo hi mx => exfalso; cases mx <;> simp only at hc <;> (repeat' split at hc) <;> cases hc
 case makeMap t r' => exfalso; cases r' <;> cases hc
 case next it isS => exfalso; cases isS <;> simp only at hc <;> (repeat' split at hc) <;> cases hc
 all_goals (exfalso; (repeat' split at hc) <;> cases hc)
theorem ins_run (S : HSim P W0 E h w) (hA : ASim E n vm a x) {o : Oper} {kt : KT} {xm xk xv : XO} (hc : cOp P vm o.op = some (.ins kt xm xk xv)) {M : Nat} {key val : AV} (hm : getX xm a = some (.map M)) (hk : getX xk a = some key)
  (hv : getX xv a = some val) (hp : plainKey kt key = true) (h2 : kt ≠ .two) {e : Loc} {xs : Array MapEntry} {ck : Nat} {es : List (AV × AV × Nat)} (he : E M = some e) (ho : w.heap[e.rb]? = some (.map xs ck)) (hx : EntsR E es xs.toList)
  (hmiss : ∀ q ∈ es, keyEq key q.1 = some false) :
  ∃ y z, cv E key = some y ∧ cv E val = some z ∧ (execOp x.eval o).run P w = .ok .skip { w with heap := w.heap.setIfInBounds e.rb (.map (xs.push { key := y, val := z, born := ck }) (ck + 1)) } := by
 obtain ⟨t, m, k, v, kty, et, hop, ht, hkt, hcm, hck, hcv⟩ := cOp_ins hc
 have hkv := opr_sound S hA hck hk
 have hvv := opr_sound S hA hcv hv
 have hK := keyK_of hkt hp
 obtain ⟨L⟩ := keyLaw (w := w) hK hkv
 obtain ⟨e', he', heq⟩ := cv_map (opr_sound S hA hcm hm)
 rw [he] at he'; cases he'
 have hd : ∃ d, P.underlying kty = some d ∧ KeyOk d key := by
  rcases hK with ⟨j, hd, i, m, rfl, hsm⟩ | ⟨hd, l, c, rfl⟩ | ⟨e, q, hd, hue, hs, hg, i, m, i', m', rfl, hsm, hsm'⟩
  ·exact ⟨_, hd, .inl ⟨j, rfl, i, m, rfl, hsm⟩⟩
  ·exact ⟨_, hd, .inr ⟨rfl, l, c, rfl⟩⟩
  ·cases kt <;> first | exact absurd rfl h2 | (simp [plainKey] at hp)
 obtain ⟨d, hd, hok⟩ := hd
 have hf : (Instr.findKey kty (x.eval k) xs.toList).run P w = .ok none w := MapKept.run_findKey hd (hx.miss hok hkv 0 hmiss)
 have hchk : (Instr.checkKey false 10000 kty (x.eval k)).run P w = .ok () w := L.chk false
 refine ⟨_, _, hkv, hvv, ?_⟩
 simp only [execOp, hop]
 simp [Instr.mapUpdate, run_underlying ht, heq, MapKept.run_getObj_map ho, hchk, hf, MapKept.run_setObj_map _ ho]
theorem Inv.nodup (I : Inv u P W0 n vm r ops qs Q E0 h0 listed done is l acc a a' h E x w) : done.Pairwise fun a b => a.p.i ≠ b.p.i := by
 have := I.placed.nodup
 rw [List.pairwise_map] at this
 exact this
theorem Inv.lt (I : Inv u P W0 n vm r ops qs Q E0 h0 listed done is l acc a a' h E x w) {M : Nat} {b : Blk} (hg : h.get M = some b) : M < h.next := by
 rcases Nat.lt_or_ge M h.next with h1 | h1
 ·exact h1
 ·rw [I.S.top M h1] at hg; cases hg
theorem Inv.late (hP : ProgOk P) (hR : RecOk P W0 r) (hd0 : ∀ b e, E0 b = some e → b < h0.next) (h64 : 64 ≤ h0.next) {rd : Option Nat} {F : Fence} (hF : RdOk E rd F) (I : Inv u P W0 n vm r ops qs Q E0 h0 listed done is l acc a a' h E x w) {t : Ent} (ht : t ∈ done) (hu : listed.getD t.p.i true = false) {o : Oper} (ho : ops[t.p.i]? = some o)
  (hpre : ∀ e ∈ o.after, Region.binds .any e = true → listed.getD e.on false = true) {K : Act → World → Prop}
  (ih : ∀ (a'' : A) (E' : Env) (x' : Act) (w' : World), RdOk E' rd F → Inv u P W0 n vm r ops qs Q E0 h0 (listed.setIfInBounds t.p.i true) done is l acc a a'' h E' x' w' → K x' w') :
  wpOpIn F 0 P ops Q t.p.i K x w := by
 have hpm : ∀ t ∈ done, t.p ∈ done.map (·.p) := fun t ht => List.mem_map_of_mem ht
 obtain ⟨⟨o', ho', hoq, hox⟩, hqq⟩ := I.placed.oper t.p (hpm t ht)
 have : o' = o := by simpa [ho] using ho'.symm
 subst this
 have hq : t.p.q = true := by
  cases hq : t.p.q with
  | true => rfl
  | false => exact (un_ls hu (I.eff t ht hq)).elim
 obtain ⟨hxq, hself⟩ := hqq hq
 have hnb : t.p.x.op ≠ .bad := fun hb => by rw [hb] at hxq; cases u <;> cases hxq
 obtain ⟨hg, hop, hd⟩ := cOper_parts hox hnb
 have hreads := I.reads (X := t.p.x) (m := t.p.m) ho hu hpre (fun L hL hi => I.placed.good t.p (hpm t ht) L hL hi)
  (fun s hs hsq hne hh => I.placed.conflict s.p (hpm s hs) t.p (hpm t ht) hsq hne hh)
  (fun s hs he => by
   obtain ⟨⟨o1, ho1, -, hx1⟩, -⟩ := I.placed.oper s.p (hpm s hs)
   rw [he, ho'] at ho1; cases ho1
   rw [hx1, ← hox]; exact hself)
 obtain ⟨c1, c2⟩ := oper_congr hreads
 obtain ⟨-, c3⟩ := operU_congr (u := u) hreads
 unfold wpOpIn
 simp only [ho]
 rcases (I.pend t ht hu).2 with ⟨hw, hv, hb, hkv⟩ | ⟨hw, hb, hkv, hal, hins, hrun⟩ | ⟨hw, hkv, hal, mk, blk, b, hb, hv, hwr, hrun, hEb, hbn, hget⟩ | ⟨hu1, hw, hb, hv, kt, xm, xk, xv, M, key, val, hxo, gm, gk, gv, hpk, hk2, hkv⟩
 ·rw [wanted_sound I.hA hg (by rw [c1]; exact hw)]
  simp only [Bool.false_eq_true, if_false]
  refine ⟨fun f _ => hF.fn f, ?_⟩
  refine ih _ E _ w hF (I.mark ht hu ho hpre I.S ?_ I.tr (I.un.mark I.nodup ht hu hkv (fun _ _ _ hh => hh) fun _ _ _ _ _ hh => hh) (fun b h1 _ _ => h1))
  rw [hv]
  exact put_sound I.hA hd cv_undef
 ·rw [wanted_sound I.hA hg (by rw [c1]; exact hw)]
  simp only [if_true]
  have hrun' : runOp t.p.x.op r a' h = .val t.v h := by rw [c2]; exact hrun
  refine oper_sound hP hR I.S I.hA hF hop hd (K := fun a h => .normal a h) (by rw [hrun']; simp [orK]) ?_ ?_
  ·intro E' a'' h'' x' w' htr hs ha hk
   rw [hrun'] at hk
   simp only [orK] at hk
   injection hk with hk1 hk2
   subst hk1; subst hk2
   refine ih _ E' _ w' (hF.up htr.up) (I.mark ht hu ho hpre hs ha (I.tr.trans htr) (I.un.mark I.nodup ht hu hkv (fun _ _ _ hh => hh) ?_) (fun b h1 h2 _ => by rw [htr.ext.low b h2]; exact h1))
   intro M l' L _ hgM hm
   exact hm.keep I.S hs htr.up hgM hgM fun hn => .inl (by rw [htr.ext.low M (I.lt hgM)]; exact hn)
  ·intro c h' E' ch w' hk
   rw [hrun'] at hk
   simp [orK] at hk
 ·rw [wanted_sound I.hA hg (by rw [c1]; exact hw)]
  simp only [if_true]
  have hrun' : ∀ h2, runOpU u t.p.x.op r a' h2 = .val (mk h2.next) (h2.new blk) := fun h2 => by rw [c3]; exact hrun h2
  obtain ⟨obj, u', hblk, hex, hcv⟩ := allocU_raw I.S I.hA hop hal hrun'
  have hnd : ∀ c, o'.op ≠ .defer c := by
   intro c hc
   rw [hc] at hop
   simp only [cOp] at hop
   (repeat' split at hop) <;> first | (cases hop; done) | (simp only [Option.some.injEq] at hop; rw [← hop] at hal; cases hal)
  refine wpIn_value hF hnd hex ?_
  have S' := I.S.place 0 hbn hEb hget hwr hblk
  have hup := Env.add_up (e := ⟨w.heap.size, 0, 0, none⟩) hEb
  refine ih (putX t.p.x.dst t.v a') _ _ _ (hF.up hup) (I.mark ht hu ho hpre S' ?_ ?_ (I.un.mark I.nodup ht hu hkv (fun _ _ _ hh => hh) ?_) ?_)
  ·exact put_sound (I.hA.up hup) hd (by rw [hv]; exact hcv _ b (by simp [Env.add]))
  ·have hb0 := (I.bnd t ht b hb).1
   exact ⟨⟨fun c e hc => hup c e (I.tr.up c e hc), fun c hc => by unfold Env.add; rw [if_neg (by omega)]; exact I.tr.ext.low c hc⟩, I.tr.next, I.tr.keep, I.tr.pure⟩
  ·intro M l' L _ hgM hm
   refine hm.keep I.S S' hup hgM hgM fun hn => ?_
   by_cases hMb : M = b
   ·exact .inr ⟨_, by unfold Env.add; rw [if_pos hMb], rfl⟩
   ·exact .inl (by unfold Env.add; rw [if_neg hMb]; exact hn)
  ·intro c hc _ hne
   unfold Env.add
   rw [if_neg (fun he => hne (by rw [he]; exact hb))]
   exact hc
 ·-- an entry comes in
  rw [wanted_sound I.hA hg (by rw [c1]; exact hw)]
  simp only [if_true]
  obtain ⟨r1, r2, r3⟩ := ins_reads hxo
  rw [hxo] at hop
  have gm' : getX xm a' = some (.map M) := by rw [hreads _ r1]; exact gm
  have gk' : getX xk a' = some key := by rw [hreads _ r2]; exact gk
  have gv' : getX xv a' = some val := by rw [hreads _ r3]; exact gv
  have hun := I.un
  unfold UOk at hun
  cases acc with
  | none => have := hun t ht; rw [hkv] at this; cases this
  | some p =>
   obtain ⟨M', l0⟩ := p
   simp only at hun
   obtain ⟨u1, u2, u3, u4, u5, u6, u7⟩ := hun
   have hMM : M = M' := u2 t ht _ hkv
   subst hMM
   have hul : listed.getD t.p.i false = false := by
    cases hh : listed.getD t.p.i false with
    | false => rfl
    | true => exact (un_ls hu hh).elim
   obtain ⟨e0, he0⟩ : ∃ e, E M = some e := by
    obtain ⟨_, _, _, _, _, _, _, _, _, hcm, _, _⟩ := cOp_ins hop
    obtain ⟨e', he', -⟩ := cv_map (opr_sound I.S I.hA hcm gm')
    exact ⟨e', he'⟩
   rcases u7 with ⟨hn, -⟩ | ⟨e, xs, ck, es, he, hob, hperm0, hx⟩
   ·rw [hn] at he0; cases he0
   have hmiss : ∀ q ∈ es, keyEq key q.1 = some false := by
    intro q hqm
    obtain ⟨s, hs, hsq⟩ := List.mem_filterMap.1 (hperm0.mem_iff.1 hqm)
    obtain ⟨hs1, hs2⟩ := List.mem_filter.1 hs
    obtain ⟨q', hq', rfl⟩ := Option.map_eq_some_iff.1 hsq
    exact u5 t ht s hs1 (fun hh => by rw [← hh, hul] at hs2; cases hs2) _ _ hkv hq'
   obtain ⟨y, z, hy, hz, hex⟩ := ins_run I.S I.hA hop gm' gk' gv' hpk hk2 he hob hx hmiss
   have hnd : ∀ c, o'.op ≠ .defer c := by
    intro c hc
    obtain ⟨_, _, _, _, _, _, h1, -⟩ := cOp_ins hop
    rw [h1] at hc; cases hc
   refine wpIn_skip hF hnd hex ?_
   have S' := I.S.pin (by omega : 64 ≤ M) he u3 (xs.push { key := y, val := z, born := ck }) (ck + 1)
   refine ih (putX t.p.x.dst t.v a') _ _ _ hF.pin (I.mark ht hu ho hpre S' ?_ (I.tr.pin u4 hd0) ?_ (fun b h1 _ _ => pinAt_none h1))
   ·rw [hv]; exact put_sound I.hA.pin hd cv_undef
   ·have hp := (filter_mark I.nodup ht hu).filterMap fun t => t.kv.map (·.2)
    have hperm' : (entsOf (done.filter fun s => (listed.setIfInBounds t.p.i true).getD s.p.i false)).Perm ((key, val, 0) :: entsOf (done.filter fun s => listed.getD s.p.i false)) := by
     refine hp.trans (.of_eq ?_)
     rw [List.filterMap_cons, hkv]
     rfl
    obtain ⟨e', q1, q2, -, -⟩ := pinAt_some (M := M) (o := .map (xs.push { key := y, val := z, born := ck }) (ck + 1)) he
    have hlt : e.rb < w.heap.size := (Array.getElem?_eq_some_iff.1 hob).1
    refine ⟨u1, u2, u3, u4, u5, u6, .inr ⟨e', _, _, es ++ [(key, val, 0)], q1, by rw [q2]; exact Array.getElem?_setIfInBounds_self_of_lt hlt, ?_, ?_⟩⟩
    ·exact (List.perm_append_singleton _ _).trans ((hperm0.cons _).trans hperm'.symm)
    ·rw [Array.toList_push]
     exact (hx.push hy hz).pin
theorem Inv.effect {p : Pl} {v : AV} {h1 : H} {is' : List Nat} {l' : List XDr} (I : Inv u P W0 n vm r ops qs Q E0 h0 listed done is l acc a a' h E x w) (hp : PlOk u P n vm ops.toList (done.map (·.p)) p) (hq : p.q = false) (hu : listed.getD p.i true = false)
  {o : Oper} (ho : ops[p.i]? = some o) (hpre : ∀ e ∈ o.after, Region.binds .any e = true → listed.getD e.on false = true) (hpl : Plan u P n vm ops.toList is' l' (p :: done.map (·.p)))
  (his : ∀ j, j ∈ is → j = p.i ∨ j ∈ is') (his' : ∀ j ∈ is', j ∈ is) (hl' : ∀ d ∈ l', d.quiet = true → ∀ u, d.o.dst = .v u → u ∈ qs)
  {E1 : Env} {x1 : Act} {w1 : World} (S1 : HSim P W0 E1 h1 w1) (hA1 : ASim E1 n vm (putX p.x.dst v a') x1) (t1 : Trans E h E1 h1) (hck : chkU acc h1 = true) (hst : SameT h h1)
  (hne : runDraw r qs u l' acc (putX p.x.dst v a) h1 ≠ .fail) (hq1 : ∀ e x' w', CROk P W0 E0 h0 n vm (runDraw r qs u l' acc (putX p.x.dst v a) h1) e x' w' → Q e x' w')
  (hlook : ∀ s ∈ done, listed.getD s.p.i true = false → s.p.q = true → xlooks s.p.x.op = true → wantedX s.p.x.guard a = some true → runOp s.p.x.op r a h = .val s.v h → (∀ k ∈ xreadsO s.p.x, getX k (putX p.x.dst v a) = getX k a) →
   (∀ k, hitX s.p.x.dst k = true → getX k (putX p.x.dst v a) = some s.v) → runOp s.p.x.op r a h1 = .val s.v h1) :
  Inv u P W0 n vm r ops qs Q E0 h0 (listed.setIfInBounds p.i true) (⟨p, v, none, none⟩ :: done) is' l' acc (putX p.x.dst v a) (putX p.x.dst v a') h1 E1 x1 w1 := by
 have hpm : ∀ t ∈ done, t.p ∈ done.map (·.p) := fun t ht => List.mem_map_of_mem ht
 have hlt := un_lt hu
 have hcl := I.closed' ho hlt hpre
 have hgood := hp.good I.placed.good
 have hun1 : UOk acc (listed.setIfInBounds p.i true) (⟨p, v, none, none⟩ :: done) h0 h1 E1 w1 := by
  have hU : UOk acc listed (⟨p, v, none, none⟩ :: done) h0 h E w := I.un.cons rfl fun _ _ _ hh => hh
  have hnd : (⟨p, v, none, none⟩ :: done : List Ent).Pairwise fun a b => a.p.i ≠ b.p.i := .cons (fun s hs he => hp.new s.p (hpm s hs) he.symm) I.nodup
  have hget : ∀ M l, acc = some (M, l) → h1.get M = some (.mapU [] false) := by
   intro M l hacc
   rw [hacc] at hck
   simp only [chkU] at hck
   split at hck
   ·assumption
   ·cases hck
  refine hU.mark (t := ⟨p, v, none, none⟩) hnd List.mem_cons_self hu rfl (fun M l hacc _ => hget M l hacc) fun M l L hacc hgM hm => ?_
  exact hm.keep I.S S1 t1.up hgM (hget M l hacc) fun hn => .inl (by rw [t1.ext.low M (I.lt hgM)]; exact hn)
 refine ⟨S1, hA1, by rw [defers_put, defers_put]; exact I.defs, I.tr.trans t1, hne, hq1, by simp [I.size], hcl, hpl, .cons hp I.placed, ?_, ?_, ?_, ?_, ?_, hun1, I.uf, ?_, ?_, ?_, hl'⟩
 ·intro j hj
  exact un_set' (fun he => hpl.notin j hj p (by simp) he.symm) (I.rest j (his' j hj))
 ·intro t ht hqt
  rcases List.mem_cons.1 ht with rfl | ht
  ·exact ls_set_self hlt
  ·exact ls_set' (I.eff t ht hqt)
 ·intro j hj
  rcases I.cover j hj with ⟨t, ht, hti⟩ | hj
  ·exact .inl ⟨t, by simp [ht], hti⟩
  ·rcases his j hj with rfl | hj
   ·exact .inl ⟨_, List.mem_cons_self, rfl⟩
   ·exact .inr hj
 ·intro k hk
  rw [getX_put, getX_put]
  split
  ·rfl
  ·refine I.agree k fun t ht hut => hk t (by simp [ht]) (un_set' (hp.new t.p (hpm t ht)) hut)
 ·intro t ht hut
  rcases List.mem_cons.1 ht with rfl | ht
  ·exact absurd rfl (un_set hut).1
  ·obtain ⟨hne', hut'⟩ := un_set hut
   obtain ⟨z1, z2, z3, z4⟩ := pairsOk_mem hp.pairs t.p (hpm t ht)
   have hnot : hits p.x.dst (xreadsO t.p.x) = false := by
    cases hh : hits p.x.dst (xreadsO t.p.x) with
    | false => rfl
    | true =>
     exfalso
     rcases ls_set (hgood _ hcl (ls_set_self hlt) _ (z4 hh)) with h2 | h2
     ·exact hne' h2
     ·exact un_ls hut' h2
   have hr : ∀ k ∈ xreadsO t.p.x, getX k (putX p.x.dst v a) = getX k a := fun k hk => by
    rw [getX_put, if_neg (by rw [hits_mem hnot k hk]; simp)]
   have hd : ∀ k, hitX t.p.x.dst k = true → getX k (putX p.x.dst v a) = getX k a := fun k hk => by
    rw [getX_put, if_neg (fun hh' => sameD_hit z1 hk hh')]
   refine (I.pend t ht hut').mono hr hd t1.next ?_ ?_
   ·intro b hb hEb hbn
    exact ⟨t1.keep b hbn hEb, by rw [t1.ext.low b hbn]; exact hEb⟩
   ·intro hal hins hw hrun
    have hqt : t.p.q = true := by
     cases hqt : t.p.q with
     | true => rfl
     | false => exact (un_ls hut' (I.eff t ht hqt)).elim
    obtain ⟨-, hqq⟩ := I.placed.oper t.p (hpm t ht)
    cases hl : xlooks t.p.x.op with
    | true => exact hlook t ht hut' hqt hl hw hrun hr (fun k hk => by rw [hd k hk]; exact (I.pend t ht hut').1 k hk)
    | false => exact (plain_val _ ((quietU (hqq hqt).1).resolve_left (fun hh => by rw [hins] at hh; cases hh.2)).1 hl hal hrun).2 h1 hst
 ·intro s hs t ht c hcs hct
  rcases List.mem_cons.1 hs with rfl | hs
  ·cases hcs
  ·rcases List.mem_cons.1 ht with rfl | ht
   ·cases hct
   ·exact I.dist s hs t ht c hcs hct
 ·intro t ht c hc
  rcases List.mem_cons.1 ht with rfl | ht
  ·cases hc
  ·have := I.bnd t ht c hc
   have := t1.next
   omega
 ·intro t ht hqt u hu'
  rcases List.mem_cons.1 ht with rfl | ht
  ·simp only at hqt; rw [hq] at hqt; cases hqt
  ·exact I.dq t ht hqt u hu'
theorem ents_pairwise (hnd : done.Pairwise fun a b => a.p.i ≠ b.p.i) (h5 : ∀ s ∈ done, ∀ t ∈ done, s.p.i ≠ t.p.i → ∀ q q', s.kv = some q → t.kv = some q' → keyEq q.2.1 q'.2.1 = some false) :
  (entsOf done).Pairwise fun a b => keyEq a.1 b.1 = some false ∧ keyEq b.1 a.1 = some false := by
 unfold entsOf
 rw [List.pairwise_filterMap]
 refine hnd.imp_of_mem ?_
 intro s t hs ht hne b hb b' hb'
 obtain ⟨q, hq, rfl⟩ := Option.map_eq_some_iff.1 hb
 obtain ⟨q', hq', rfl⟩ := Option.map_eq_some_iff.1 hb'
 exact ⟨h5 s hs t ht hne q q' hq hq', h5 t ht s hs (fun he => hne he.symm) q' q hq' hq⟩
theorem Inv.fin (I : Inv u P W0 n vm r ops qs Q E0 h0 listed done is l acc a a' h E x w) (hr : Region.ready .any ops listed = []) : Q .normal x w := by
 have hL : ∀ i o, ops.toList[i]? = some o → (∀ e ∈ o.after.toList, Region.binds .any e = true → listed.getD e.on false = true) → listed.getD i false = true := by
  intro i o ho hpre
  have ho' : ops[i]? = some o := by simpa using ho
  have hi : i < listed.size := by
   rw [I.size]
   rcases Nat.lt_or_ge i ops.size with h1 | h1
   ·exact h1
   ·rw [Array.getElem?_eq_none h1] at ho'; cases ho'
  by_cases hh : listed.getD i false = true
  ·exact hh
  ·exfalso
   have : i ∈ Region.ready .any ops listed := mem_ready.2 ⟨not_ls hi hh, o, ho', fun e he hb => hpre e (by simpa using he) hb⟩
   rw [hr] at this; cases this
 have hall := Placed.all (L := fun j => listed.getD j false = true) hL I.placed
 have hhead : ∀ (p : Pl), PlOk u P n vm ops.toList (done.map (·.p)) p → p.i ∈ is → False := by
  intro p hp hpi
  obtain ⟨o, ho, -, -, hm⟩ := hp.op
  refine un_ls (I.rest p.i hpi) (hL p.i o ho fun e he hb => ?_)
  obtain ⟨s, hs, hsi⟩ := predMask_found hm e he hb
  rw [← hsi]; exact hall s hs
 have hp := I.plan
 cases hp with
 | quiet h1 h2 h3 => exact (hhead _ h1 (by simp)).elim
 | eff h1 h2 h3 h4 h5 => exact (hhead _ h1 (by simp)).elim
 | two hu h1 h2 h3 h4 hl hl' h5 h6 h7 h8 h9 => exact (hhead _ h1 (by simp)).elim
 | nil =>
  have hag : ∀ k, getX k a' = getX k a := fun k => I.agree k fun t ht hut => (un_ls hut (hall t.p (List.mem_map_of_mem ht))).elim
  have key : ∀ h2, Trans E0 h0 E h2 → HSim P W0 E h2 w → runDraw r qs u [] acc a h = .normal a h2 → Q .normal x w := by
   intro h2 t2 S2 hrun
   refine I.q .normal x w ?_
   rw [hrun]
   refine ⟨E, t2, S2, I.hA.size, ?_, ?_, by rw [← I.defs]; exact I.hA.defers⟩
   ·intro t v hb hv
    exact I.hA.vars t v hb (by have := hag (.v t); exact this.trans hv)
   ·intro t v hb hv
    exact I.hA.log t v hb (by have := hag (.l t); exact this.trans hv)
  have hrun : runDraw r qs u [] acc a h = finU u acc a h := rfl
  cases u with
  | false => exact key h I.tr I.S hrun
  | true =>
   have hun := I.un
   have hne := I.ne
   rw [hrun] at hne
   cases acc with
   | none => exact absurd rfl hne
   | some p =>
    obtain ⟨M, l0⟩ := p
    cases l0 with
    | nil => exact absurd rfl hne
    | cons e0 l0 =>
     unfold UOk at hun
     simp only at hun
     obtain ⟨u1, u2, u3, u4, u5, u6, u7⟩ := hun
     have hfil : (done.filter fun t => listed.getD t.p.i false) = done := List.filter_eq_self.2 fun t ht => hall t.p (List.mem_map_of_mem ht)
     rw [hfil, ← u1] at u7
     rcases u7 with ⟨-, hn⟩ | ⟨e, xs, ck, es, he, hob, hperm, hx⟩
     ·cases hn
     ·have hpw : es.Pairwise fun a b => keyEq a.1 b.1 = some false ∧ keyEq b.1 a.1 = some false := by
       have h1 := ents_pairwise I.nodup u5
       rw [← u1] at h1
       exact (hperm.pairwise_iff fun hh => ⟨hh.2, hh.1⟩).2 h1
      refine key (h.put M (.mapU (e0 :: l0) true)) ⟨I.tr.ext, by rw [H.next_put]; exact I.tr.next, fun b hb hE => ?_, fun b hb hE hd => ?_⟩ ?_ hrun
      ·rw [H.get_put, if_neg (by omega)]; exact I.tr.keep b hb hE
      ·rcases List.mem_cons.1 hd with h1 | h1
       ·omega
       ·exact I.tr.pure b hb hE h1
      ·exact I.S.write he u3 rfl (by simp) ⟨xs, ck, rfl, (fun hf => by cases hf), fun _ => lookOk_of hx hperm hpw⟩ rfl hob (fun _ _ => rfl) rfl rfl
theorem Inv.panic (I : Inv u P W0 n vm r ops qs Q E0 h0 listed done is l acc a a' h E x w) {c : List PE} {h1 : H} (hrun : runDraw r qs u l acc a h = .pan c ⟨delAll qs a.vars, [], a.defers⟩ h1) {E1 : Env} {w1 : World} {ch : List PanicEntry}
  (t1 : Trans E h E1 h1) (S1 : HSim P W0 E1 h1 w1) (hch : ChOk E1 c ch) : Q (.panic ch) x w1 := by
 refine I.q (.panic ch) x w1 ?_
 rw [hrun]
 have hA := I.hA.up t1.up
 refine ⟨E1, I.tr.trans t1, S1, ⟨hA.size, ?_, ?_, by rw [← I.defs]; exact hA.defers⟩, hch⟩
 ·intro t v hb hv
  obtain ⟨hnq, hv'⟩ := delAll_get qs a.vars t v hv
  refine hA.vars t v hb ?_
  have := I.agree (.v t) fun s hs hus => by
   cases hsk : hitX s.p.x.dst (.v t) with
   | false => rfl
   | true =>
    exfalso
    have hq : s.p.q = true := by
     cases hq : s.p.q with
     | true => rfl
     | false => exact (un_ls hus (I.eff s hs hq)).elim
    rcases hitX_iff.1 hsk with ⟨t', hd, hk⟩ | ⟨t', hd, hk⟩
    ·cases hk; exact hnq (I.dq s hs hq t hd)
    ·cases hk
  exact this.trans hv'
 ·intro t v hb hv
  have hv' : findLog t [] = some v := hv
  rw [findLog_nil] at hv'; cases hv'
end
end Go.Ev
namespace Go.Ev
set_option linter.unusedSectionVars false
variable [Sig]
def cntU (f : Nat → Bool) : Nat → Nat
 | 0 => 0
 | n + 1 => cntU f n + (if f n then 1 else 0)
theorem cntU_same {f g : Nat → Bool} : ∀ n, (∀ j, j < n → f j = g j) → cntU f n = cntU g n
 | 0, _ => rfl
 | n + 1, h => by simp only [cntU, h n (by omega), cntU_same n (fun j hj => h j (by omega))]
theorem cntU_less {f g : Nat → Bool} {i : Nat} (hf : f i = true) (hg : g i = false) (ho : ∀ j, j ≠ i → f j = g j) : ∀ n, i < n → cntU g n + 1 = cntU f n
 | 0, h => by omega
 | n + 1, h => by
  simp only [cntU]
  by_cases hi : i = n
  ·subst hi
   rw [hf, hg, cntU_same i (fun j hj => ho j (by omega))]
   simp
  ·have := cntU_less hf hg ho n (by omega)
   rw [ho n (by omega)]
   omega
theorem cntU_pos {f : Nat → Bool} : ∀ n, cntU f n = 0 → ∀ j, j < n → f j = false
 | 0, _, j, hj => by omega
 | n + 1, h, j, hj => by
  simp only [cntU] at h
  by_cases hjn : j = n
  ·subst hjn
   cases hf : f j with
   | false => rfl
   | true => rw [hf] at h; simp at h
  ·exact cntU_pos n (by omega) j (by omega)
def left (listed : Array Bool) : Nat := cntU (fun j => !listed.getD j true) listed.size
theorem left_set {listed : Array Bool} {i : Nat} (hu : listed.getD i true = false) : left (listed.setIfInBounds i true) + 1 = left listed := by
 have hi := un_lt hu
 unfold left
 rw [Array.size_setIfInBounds]
 refine cntU_less (i := i) (by simp only [hu]; rfl) ?_ ?_ _ hi
 ·simp [Array.getD_eq_getD_getElem?, hi]
 ·intro j hj
  simp only [getD_set_ne true (fun he => hj he.symm)]
theorem st_run {r : Rec} {a : A} {h : H} {n : Nat} {x y : XO} {v : AV} {h' : H} (hr : runOp (.st n x y) r a h = .val v h') : ∃ b off u, getX x a = some (.ptr b off) ∧ getX y a = some u ∧ storeAt h n b off u = some h' ∧ v = .undef := by
 rw [runOp_eq0 rfl] at hr
 have hr' : rSt n x y a h = .val v h' := hr
 unfold rSt at hr'
 split at hr'
 ·rename_i b off hx
  split at hr'
  ·rename_i u hu
   split at hr'
   ·rename_i h2 hs; cases hr'; exact ⟨b, off, u, hx, hu, hs, rfl⟩
   ·cases hr'
  ·cases hr'
 ·cases hr'
theorem run_st {r : Rec} {a : A} {h : H} {n : Nat} {x y : XO} {h' : H} {b off : Nat} {u : AV} (hx : getX x a = some (.ptr b off)) (hy : getX y a = some u) (hs : storeAt h n b off u = some h') : runOp (.st n x y) r a h = .val .undef h' := by
 rw [runOp_eq0 rfl]
 show rSt n x y a h = _
 simp only [rSt, hx, hy, hs]
theorem storeAt_some {h h' : H} {n b off : Nat} {v : AV} (hs : storeAt h n b off v = some h') : ∃ blk, h' = h.put b blk ∧ ∀ h2 : H, h2.get b = h.get b → storeAt h2 n b off v = some (h2.put b blk) := by
 unfold storeAt at hs
 split at hs
 ·rename_i cs e tail hg
  split at hs
  ·rename_i vs hv
   split at hs
   ·rename_i hn
    split at hs
    ·rename_i l hl
     cases hs
     refine ⟨_, rfl, fun h2 h2g => ?_⟩
     unfold storeAt
     rw [h2g, hg]
     simp only [hv, hn, hl]
    ·cases hs
   ·cases hs
  ·cases hs
 ·cases hs
section
variable {u : Bool} {acc : UA} {P : Program} {W0 : Wb} {n vm : Nat} {r : Rec} {ops : Array Oper} {qs : List Nat} {Q : Exit → Act → World → Prop} {E0 : Env} {h0 : H}
theorem cOp_mkM {op : Op} (hc : cOp P vm op = some .mkM) : isQuiet op = true := by
 cases op <;> simp only [cOp] at hc <;> try (cases hc; done)
 case makeMap t r' => rfl
 case call c =>
  exfalso
  unfold cCall at hc
  (repeat' split at hc) <;> cases hc
 case slice t p lo hi mx => rfl
 case next it isS => exfalso; cases isS <;> simp only at hc <;> (repeat' split at hc) <;> cases hc
 all_goals (exfalso; (repeat' split at hc) <;> cases hc)
theorem isQuietU_of {op : Op} (h : isQuiet op = true) : isQuietU true op = true := by
 cases op <;> first | rfl | exact h
theorem effU {ops : List Oper} {ps : List Pl} {p : Pl} (hp : PlOk u P n vm ops ps p) (hq : p.q = false) : (∀ r a h, runOpU u p.x.op r a h = runOp p.x.op r a h) ∧ ∀ a h acc, accU u p.x.op a h acc = some acc := by
 cases u with
 | false => exact ⟨fun _ _ _ => rfl, fun _ _ _ => rfl⟩
 | true =>
  obtain ⟨o, ho, hoq, hox, -⟩ := hp.op
  rw [hq] at hoq
  have hm : p.x.op ≠ .mkM := by
   intro hm
   rcases cOper_cases P n vm ops o with ⟨g, xop, d, h1, h2, h3, h4⟩ | h4
   ·rw [hox, h4] at hm
    simp only at hm
    subst hm
    have := cOp_mkM h2
    rw [isQuietU_of this] at hoq; cases hoq
   ·rw [hox, h4] at hm; cases hm
  have hi : insX p.x.op = false := by
   cases hi : insX p.x.op with
   | false => rfl
   | true =>
    rcases cOper_cases P n vm ops o with ⟨g, xop, d, h1, h2, h3, h4⟩ | h4
    ·rw [hox, h4] at hi
     simp only at hi
     cases xop <;> simp only [insX] at hi <;> try (cases hi; done)
     obtain ⟨_, _, _, _, _, _, h5, -⟩ := cOp_ins h2
     rw [h5] at hoq; cases hoq
    ·rw [hox, h4] at hi; cases hi
  refine ⟨fun r a h => runOpU_eq hm hi, fun a h acc => ?_⟩
  cases hxo : p.x.op <;> rw [hxo] at hm hi <;> first | rfl | exact absurd rfl hm | (cases hi; done)
theorem Inv.chk {listed : Array Bool} {done : List Ent} {is : List Nat} {l : List XDr} {a a' : A} {h : H} {E : Env} {x : Act} {w : World} (I : Inv u P W0 n vm r ops qs Q E0 h0 listed done is l acc a a' h E x w) : chkU acc h = true := by
 have hun := I.un
 unfold UOk at hun
 cases acc with
 | none => rfl
 | some p =>
  obtain ⟨M, l0⟩ := p
  simp only at hun
  simp only [chkU, hun.2.2.1]
theorem Inv.now (hP : ProgOk P) (hR : RecOk P W0 r) {listed : Array Bool} {done : List Ent} {is : List Nat} {l : List XDr} {a a' : A} {h : H} {E : Env} {x : Act} {w : World} {rd : Option Nat} {F : Fence} (hF : RdOk E rd F)
  (I : Inv u P W0 n vm r ops qs Q E0 h0 listed done is l acc a a' h E x w) {p : Pl} (hp : PlOk u P n vm ops.toList (done.map (·.p)) p) (hu : listed.getD p.i true = false) {o : Oper} (ho : ops[p.i]? = some o)
  (hpre : ∀ e ∈ o.after, Region.binds .any e = true → listed.getD e.on false = true) {K : Act → World → Prop} {b : Bool} (hw : wantedX p.x.guard a = some b) (hrun : b = true → (∃ v h', runOp p.x.op r a h = .val v h') ∨ (∃ c h', runOp p.x.op r a h = .pan c h'))
  (hnot : b = false → p.x.op ≠ .bad → ∀ x', ASim E n vm (putX p.x.dst .undef a') x' → K x' w)
  (hnext : b = true → ∀ v h' E' x' w', runOp p.x.op r a h = .val v h' → Trans E h E' h' → HSim P W0 E' h' w' → ASim E' n vm (putX p.x.dst v a') x' → K x' w')
  (hpan : b = true → ∀ c h' E' ch w', runOp p.x.op r a h = .pan c h' → Trans E h E' h' → HSim P W0 E' h' w' → ChOk E' c ch → Q (.panic ch) x w') : wpOpIn F 0 P ops Q p.i K x w := by
 have hpm : ∀ t ∈ done, t.p ∈ done.map (·.p) := fun t ht => List.mem_map_of_mem ht
 obtain ⟨o', ho', hoq, hox, -⟩ := hp.op
 have : o' = o := by simpa [ho] using ho'.symm
 subst this
 have hreads := I.reads (X := p.x) (m := p.m) ho hu hpre (fun L hL hi => hp.good I.placed.good L hL hi)
  (fun s hs _ _ hh => (pairsOk_mem hp.pairs s.p (hpm s hs)).2.2.1 hh) (fun s hs he => absurd he (hp.new s.p (hpm s hs)))
 obtain ⟨c1, c2⟩ := oper_congr hreads
 rcases cOper_cases P n vm ops.toList o' with ⟨g, xop, d, h1, h2, h3, h4⟩ | h4
 ·rw [← hox] at h4
  have hg : cGuard vm ops.toList o'.guard = some p.x.guard := by rw [h4]; exact h1
  have hop : cOp P vm o'.op = some p.x.op := by rw [h4]; exact h2
  have hd : cDst n vm o'.dst = some p.x.dst := by rw [h4]; exact h3
  unfold wpOpIn
  simp only [ho]
  rw [wanted_sound I.hA hg (by rw [c1]; exact hw)]
  cases b with
  | false =>
   simp only [Bool.false_eq_true, if_false]
   refine ⟨fun f _ => hF.fn f, hnot rfl ?_ _ (put_sound I.hA hd cv_undef)⟩
   intro hb
   rw [hb] at hop
   have hne : ∀ op : Op, cOp P vm op ≠ some .bad := by
    intro op hc
    cases op <;> simp only [cOp] at hc <;> try (cases hc; done)
    case call c =>
     unfold cCall at hc
     (repeat' split at hc) <;> cases hc
    case slice t p lo hi mx => cases mx <;> simp only at hc <;> (repeat' split at hc) <;> cases hc
    case makeMap t r' => cases r' <;> cases hc
    case next it isS => cases isS <;> simp only at hc <;> (repeat' split at hc) <;> cases hc
    all_goals ((repeat' split at hc) <;> cases hc)
   exact hne _ hop
  | true =>
   simp only [if_true]
   have hcr : orK rd p.x.dst a' (fun a h => CR.normal a h) (runOp p.x.op r a' h) ≠ .fail := by
    rw [c2]
    rcases hrun rfl with ⟨v, h', hv⟩ | ⟨c, h', hv⟩ <;> rw [hv] <;> simp [orK]
   refine oper_sound hP hR I.S I.hA hF hop hd (K := fun a h => .normal a h) hcr ?_ ?_
   ·intro E' a'' h'' x' w' htr hs ha hk
    rw [c2] at hk
    rcases hrun rfl with ⟨v, h', hv⟩ | ⟨c, h', hv⟩
    ·rw [hv] at hk
     simp only [orK] at hk
     injection hk with hk1 hk2
     subst hk1; subst hk2
     exact hnext rfl v _ E' x' w' hv htr hs ha
    ·rw [hv] at hk; simp [orK] at hk
   ·intro c h' E' ch w' hk htr hs ha hch
    rw [c2] at hk
    rcases hrun rfl with ⟨v, h2, hv⟩ | ⟨c2', h2, hv⟩
    ·rw [hv] at hk; simp [orK] at hk
    ·rw [hv] at hk
     simp only [orK] at hk
     injection hk with hk1 hk2 hk3
     subst hk1; subst hk3
     exact hpan rfl _ _ E' ch w' hv htr hs hch
 ·rw [← hox] at h4
  have hb : b = true := by rw [h4] at hw; simp only [wantedX, Option.some.injEq] at hw; exact hw.symm
  subst hb
  exfalso
  rcases hrun rfl with ⟨v, h', hv⟩ | ⟨c, h', hv⟩ <;> rw [h4, show (⟨none, .bad, .no⟩ : XOper).op = .bad from rfl, runOp_bad] at hv <;> cases hv
theorem CROk.same {cr : A → H → CR} {e : Exit} {x : Act} {w : World} {a : A} {h1 h2 : H} (hc : CROk P W0 E0 h0 n vm (.normal a h1) e x w) (hn : h2.next = h1.next) (hg : ∀ b, h2.get b = h1.get b) (hdd : ∀ b, b < h0.next → b ∈ h2.dirty → b ∈ h1.dirty) (ho : HOk h1 → HOk h2) : CROk P W0 E0 h0 n vm (.normal a h2) e x w := by
 cases e <;> simp only [CROk] at hc ⊢
 obtain ⟨E', ht, hs, ha⟩ := hc
 exact ⟨E', ⟨ht.ext, by rw [hn]; exact ht.next, fun b hb hE => by rw [hg]; exact ht.keep b hb hE, fun b hb hE hd => ht.pure b hb hE (hdd b hb hd)⟩, hs.same hn hg (ho hs.ho), ha⟩
theorem draw_walk (hP : ProgOk P) (hR : RecOk P W0 r) (hFr : RecFr r) (hd0 : ∀ b e, E0 b = some e → b < h0.next) (h64 : 64 ≤ h0.next) {rd : Option Nat} {F : Fence} : ∀ (m : Nat) (listed : Array Bool) (done : List Ent) (is : List Nat) (l : List XDr) (acc : UA) (a a' : A) (h : H) (E : Env) (x : Act) (w : World),
  Inv u P W0 n vm r ops qs Q E0 h0 listed done is l acc a a' h E x w → left listed ≤ m → RdOk E rd F → wpAnyIn F 0 P .any ops Q m listed x w := by
 intro m
 induction m with
 | zero =>
  intro listed done is l acc a a' h E x w I hl hF
  have hr : Region.ready .any ops listed = [] := by
   cases hr : Region.ready .any ops listed with
   | nil => rfl
   | cons i rs =>
    exfalso
    have hi : i ∈ Region.ready .any ops listed := by rw [hr]; simp
    obtain ⟨hu, -⟩ := mem_ready.1 hi
    have := left_set hu
    omega
  exact ⟨hr, I.fin hr⟩
 | succ m ih =>
  intro listed done is l acc a a' h E x w I hl hF
  obtain ⟨done, is, l, acc, a, h, I, hck⟩ := advance _ is l done acc a h (Nat.le_refl _) I
  refine ⟨fun hr => I.fin hr, fun i hi => ?_⟩
  obtain ⟨hu, o, ho, hpre⟩ := mem_ready.1 hi
  have hpre' : ∀ e ∈ o.after, Region.binds .any e = true → listed.getD e.on false = true := hpre
  have hleft : left (listed.setIfInBounds i true) ≤ m := by have := left_set hu; omega
  have hisz : i < ops.size := by rw [← I.size]; exact un_lt hu
  rcases I.cover i hisz with ⟨t, ht, rfl⟩ | hii
  ·exact I.late hP hR hd0 h64 hF ht hu ho hpre' fun a'' E' x' w' hF' I' => ih _ _ _ _ _ _ _ _ _ _ _ I' hleft hF'
  ·have hpl := I.plan
   have hne := I.ne
   have hq0 := I.q
   have hlq := I.lq
   cases hpl with
   | nil => cases hii
   | quiet h1 h2 h3 =>
    rcases hck with hck | ⟨d, ds, hck, hdq⟩
    ·cases hck
    ·cases hck; cases hdq
   | eff hp hpq hag later hpl' =>
    rename_i p is' l' ag
    have hip : i = p.i := by
     rcases List.mem_cons.1 hii with rfl | hii'
     ·rfl
     ·have := later i hii' _ (I.closed' ho (un_lt hu) hpre') (ls_set_self (un_lt hu))
      rcases ls_set this with h2 | h2
      ·exact h2.symm
      ·exact (un_ls (I.rest p.i (by simp)) h2).elim
    subst hip
    obtain ⟨eU1, eU2⟩ := effU hp hpq
    have hrunc := runDraw_cons (r := r) (qs := qs) (u := u) (acc := acc) (a := a) (h := h) ⟨false, p.x, ag, none⟩ l'
    have heff : ∀ v h1 E1 x1 w1, runDraw r qs u (⟨false, p.x, ag, none⟩ :: l') acc a h = runDraw r qs u l' acc (putX p.x.dst v a) h1 → chkU acc h1 = true → SameT h h1 → HSim P W0 E1 h1 w1 → ASim E1 n vm (putX p.x.dst v a') x1 → Trans E h E1 h1 →
      (∀ s ∈ done, listed.getD s.p.i true = false → s.p.q = true → xlooks s.p.x.op = true → wantedX s.p.x.guard a = some true → runOp s.p.x.op r a h = .val s.v h → (∀ k ∈ xreadsO s.p.x, getX k (putX p.x.dst v a) = getX k a) →
       (∀ k, hitX s.p.x.dst k = true → getX k (putX p.x.dst v a) = some s.v) → runOp s.p.x.op r a h1 = .val s.v h1) →
      wpAnyIn F 0 P .any ops Q m (listed.setIfInBounds p.i true) x1 w1 := by
     intro v h1 E1 x1 w1 hrun hck1 hst S1 hA1 t1 hlook
     refine ih _ _ _ _ _ _ _ _ _ _ _ (I.effect hp hpq hu ho hpre' hpl' (fun j hj => List.mem_cons.1 hj) (fun j hj => List.mem_cons_of_mem _ hj) (fun d hd => I.lq d (List.mem_cons_of_mem _ hd)) S1 hA1 t1 hck1 hst ?_ ?_ hlook) hleft (hF.up t1.up)
     ·rw [← hrun]; exact I.ne
     ·rw [← hrun]; exact I.q
    cases hw : wantedX p.x.guard a with
    | none => simp only [hw] at hrunc; exact absurd hrunc I.ne
    | some b =>
     cases b with
     | false =>
      simp only [hw] at hrunc
      refine I.now hP hR hF hp hu ho hpre' hw (fun hb => by cases hb) ?_ (fun hb => by cases hb) (fun hb => by cases hb)
      intro _ _ x' hA'
      exact heff _ _ E x' w hrunc I.chk ⟨rfl, rfl⟩ I.S hA' (.refl _ _) (fun s _ _ _ _ _ hr _ _ => hr)
     | true =>
      simp only [hw, twoOk, eU1, eU2] at hrunc
      cases hop : runOp p.x.op r a h with
      | fail => simp only [hop] at hrunc; exact absurd hrunc I.ne
      | dfr d h' => simp only [hop] at hrunc; exact absurd hrunc I.ne
      | pan c h' =>
       simp only [hop] at hrunc
       refine I.now hP hR hF hp hu ho hpre' hw (fun _ => .inr ⟨c, h', hop⟩) (fun hb => by cases hb) (fun _ v h2 _ _ _ hv => by rw [hop] at hv; cases hv) ?_
       intro _ c2 h2 E' ch w' hv htr hs hch
       rw [hop] at hv; cases hv
       exact I.panic hrunc htr hs hch
      | val v h1 =>
       simp only [hop] at hrunc
       cases hck1 : chkU acc h1 with
       | false => simp only [hck1] at hrunc; exact absurd hrunc I.ne
       | true =>
       simp only [hck1] at hrunc
       have hst : SameT h h1 := by
        have hf := runOp_fr hFr p.x.op a h
        rw [hop] at hf
        exact ⟨Fr.asm hf, Fr.tx hf⟩
       refine I.now hP hR hF hp hu ho hpre' hw (fun _ => .inl ⟨v, h1, hop⟩) (fun hb => by cases hb) ?_ (fun _ c h2 _ _ _ hv => by rw [hop] at hv; cases hv)
       intro _ v2 h2 E1 x1 w1 hv t1 S1 hA1
       rw [hop] at hv; cases hv
       rcases hag with hmv | rfl
       ·have hh : h1 = h := by
         cases hxo : p.x.op <;> rw [hxo] at hmv <;> try (cases hmv; done)
         rename_i z
         rw [hxo] at hop
         exact pureD_mem rfl 2 hop
        subst hh
        have hag' : ∃ X, runDraw r qs u (⟨false, p.x, ag, none⟩ :: l') acc a h1 = X ∧ (X = runDraw r qs u l' acc (putX p.x.dst v a) h1 ∨ X = .fail) := by
         refine ⟨_, rfl, ?_⟩
         rw [hrunc]
         split
         ·exact .inl rfl
         ·split
          ·exact .inl rfl
          ·exact .inr rfl
        obtain ⟨X, hX, hX' | hX'⟩ := hag'
        ·exact heff v h1 E1 x1 w1 (hX.trans hX') hck1 hst S1 hA1 t1 (fun s _ _ _ _ _ hr _ _ => hr)
        ·exact absurd (hX.trans hX') I.ne
       ·have hunbit : ∀ s ∈ done, listed.getD s.p.i true = false → bit p.m s.p.i = false := by
         intro s hs hus
         cases hb : bit p.m s.p.i with
         | false => rfl
         | true =>
          exfalso
          rcases ls_set (hp.good I.placed.good _ (I.closed' ho (un_lt hu) hpre') (ls_set_self (un_lt hu)) _ hb) with h2 | h2
          ·exact hp.new s.p (List.mem_map_of_mem hs) h2
          ·exact un_ls hus h2
        split at hrunc
        ·rename_i hnil
         have hnil' : againOf p.m (done.map (·.p)) = [] := hnil
         refine heff v h1 E1 x1 w1 hrunc hck1 hst S1 hA1 t1 ?_
         intro s hs hus hsq hsl
         have := againOf_mem (List.mem_map_of_mem (f := (·.p)) hs) hsq hsl (hunbit s hs hus)
         rw [hnil'] at this; cases this
        ·split at hrunc
         ·rename_i hck2
          refine heff v h1 E1 x1 w1 hrunc hck1 hst S1 hA1 t1 ?_
          intro s hs hus hsq hsl hws hrs hreads hdst
          have hmem := againOf_mem (List.mem_map_of_mem (f := (·.p)) hs) hsq hsl (hunbit s hs hus)
          obtain ⟨c1, c2⟩ := oper_congr hreads
          obtain ⟨v2, h2, hr2, hg2⟩ := recheck_mem hck2 s.p.x hmem (by rw [c1]; exact hws)
          have hv2 : v2 = s.v := by
           unfold getD at hg2
           split at hg2
           ·cases hg2
           ·rename_i t hd
            have := hdst (.v t) (by rw [hd]; exact hitX_iff.2 (.inl ⟨t, rfl, rfl⟩))
            have hg3 : getX (.v t) (putX p.x.dst v a) = some v2 := hg2
            rw [this] at hg3; cases hg3; rfl
           ·rename_i t hd
            have := hdst (.l t) (by rw [hd]; exact hitX_iff.2 (.inr ⟨t, rfl, rfl⟩))
            have hg3 : getX (.l t) (putX p.x.dst v a) = some v2 := hg2
            rw [this] at hg3; cases hg3; rfl
          subst hv2
          have hh := (look_val _ hsl hr2).1
          subst hh
          rw [← c2]; exact hr2
         ·exact absurd hrunc I.ne
   | two hu0 hp hp' hpl1 hpl2 hlk hlk' hpq hpq' hx1 hx2 htwo =>
    rename_i p p' d1 d2 tt
    subst hu0
    have hacc := I.uf rfl
    subst hacc
    have hform : ∃ n1 X1 Y1 n2 X2 Y2, d1 = ⟨false, ⟨none, .st n1 X1 Y1, .no⟩, [], none⟩ ∧ d2 = ⟨false, ⟨none, .st n2 X2 Y2, .no⟩, [], none⟩ ∧ tt = (X1, X2) := by
     unfold twoSt at htwo
     split at htwo
     ·cases htwo; exact ⟨_, _, _, _, _, _, rfl, rfl, rfl⟩
     ·cases htwo
    obtain ⟨n1, X1, Y1, n2, X2, Y2, rfl, rfl, rfl⟩ := hform
    simp only at hx1 hx2
    have hnolook : ∀ (pp : Pl) (hok : PlOk false P n vm ops.toList (done.map (·.p)) pp), (∀ s ∈ done.map (·.p), s.q = true → xlooks s.x.op = true → bit pp.m s.i = true) → pp.i = i → ∀ s ∈ done, listed.getD s.p.i true = false → s.p.q = true → xlooks s.p.x.op = true → False := by
     intro pp hok hall hpi s hs hus hsq hsl
     have hmem : s.p ∈ done.map (·.p) := List.mem_map_of_mem hs
     have hb := hall s.p hmem hsq hsl
     rcases ls_set (hok.good I.placed.good _ (I.closed' ho (un_lt hu) hpre') (by rw [hpi]; exact ls_set_self (un_lt hu)) _ hb) with h2 | h2
     ·exact hok.new s.p hmem (by rw [hpi]; exact h2)
     ·exact un_ls hus h2
    have hrun0 : runDraw r qs false [⟨false, ⟨none, .st n1 X1 Y1, .no⟩, [], some (X1, X2)⟩, ⟨false, ⟨none, .st n2 X2 Y2, .no⟩, [], none⟩] none a h =
      (match twoOk (some (X1, X2)) a with
       | true => (match runOp (.st n1 X1 Y1) r a h with
        | .val v h' => runDraw r qs false [⟨false, ⟨none, .st n2 X2 Y2, .no⟩, [], none⟩] none a h'
        | .pan c h' => .pan c ⟨delAll qs a.vars, [], a.defers⟩ h'
        | _ => .fail)
       | false => .fail) := rfl
    have hrun1 : ∀ (nn : Nat) (X Y : XO) (hh : H), runDraw r qs false [⟨false, ⟨none, .st nn X Y, .no⟩, [], none⟩] none a hh = (match runOp (.st nn X Y) r a hh with
        | .val v h' => .normal a h'
        | .pan c h' => .pan c ⟨delAll qs a.vars, [], a.defers⟩ h'
        | _ => .fail) := fun _ _ _ _ => rfl
    have hstp : ∀ (nn : Nat) (X Y : XO) (hh : H), (∃ h', runOp (.st nn X Y) r a hh = .val .undef h') ∨ runOp (.st nn X Y) r a hh = .fail := by
     intro nn X Y hh
     rw [runOp_eq0 rfl]
     show (∃ h', rSt nn X Y a hh = .val .undef h') ∨ rSt nn X Y a hh = .fail
     unfold rSt
     split
     ·split
      ·split
       ·exact .inl ⟨_, rfl⟩
       ·exact .inr rfl
      ·exact .inr rfl
     ·exact .inr rfl
    simp only at hne hq0
    rw [hrun0] at hne hq0
    cases htw : twoOk (some (X1, X2)) a with
    | false => rw [htw] at hne; exact absurd rfl hne
    | true =>
     rw [htw] at hne hq0
     rcases hstp n1 X1 Y1 h with ⟨h1, hr1⟩ | hr1
     rotate_left
     ·rw [hr1] at hne; exact absurd rfl hne
     rw [hr1] at hne hq0
     simp only at hne hq0
     rcases hstp n2 X2 Y2 h1 with ⟨h12, hr2⟩ | hr2
     rotate_left
     ·rw [hrun1, hr2] at hne; exact absurd rfl hne
     have hq1 := hq0
     rw [hrun1, hr2] at hq1
     simp only at hq1
     obtain ⟨b1, o1, u1, e1, f1, g1, -⟩ := st_run hr1
     obtain ⟨b2, o2, u2, e2, f2, g2, -⟩ := st_run hr2
     have hbne : b1 ≠ b2 := by
      intro he
      simp only [twoOk, e1, e2, he, Nat.beq_refl] at htw
      cases htw
     obtain ⟨B1, rfl, k1⟩ := storeAt_some g1
     obtain ⟨B2, rfl, k2⟩ := storeAt_some g2
     have g2' := k2 h (by rw [H.get_put, if_neg (fun he => hbne he.symm)])
     have g1' := k1 (h.put b2 B2) (by rw [H.get_put, if_neg hbne])
     have hr2' : runOp (.st n2 X2 Y2) r a h = .val .undef (h.put b2 B2) := run_st e2 f2 g2'
     have hr1' : runOp (.st n1 X1 Y1) r a (h.put b2 B2) = .val .undef ((h.put b2 B2).put b1 B1) := run_st e1 f1 g1'
     have hlq0 : ∀ d ∈ ([] : List XDr), d.quiet = true → ∀ u, d.o.dst = .v u → u ∈ qs := fun d hd => by cases hd
     simp only [List.mem_cons, List.not_mem_nil, or_false] at hii
     rcases hii with rfl | rfl
     ·have hdst : p.x.dst = .no := by rw [← hx1]
      have hxop : p.x.op = .st n1 X1 Y1 := by rw [← hx1]
      have hxg : p.x.guard = none := by rw [← hx1]
      refine I.now hP hR hF hp hu ho hpre' (b := true) (by rw [hxg]; rfl) (fun _ => .inl ⟨_, _, by rw [hxop]; exact hr1⟩) (fun hb => by cases hb) ?_ (fun _ c h2 _ _ _ hv => by rw [hxop, hr1] at hv; cases hv)
      intro _ v2 h2 E1 x1 w1 hv t1 S1 hA1
      rw [hxop, hr1] at hv; cases hv
      have hput : putX p.x.dst AV.undef a = a := by rw [hdst]; rfl
      refine ih _ _ _ _ _ _ _ _ _ _ _ (I.effect hp hpq hu ho hpre' hpl1 (fun j hj => List.mem_cons.1 hj) (fun j hj => List.mem_cons_of_mem _ hj) (fun d hd => I.lq d (List.mem_cons_of_mem _ hd)) S1 hA1 t1 rfl ⟨rfl, rfl⟩ ?_ ?_ ?_) hleft (hF.up t1.up)
      ·rw [hput]; exact hne
      ·rw [hput]; exact hq0
      ·intro s hs hus hsq hsl
       exact (hnolook p hp hlk rfl s hs hus hsq hsl).elim
     ·have hdst : p'.x.dst = .no := by rw [← hx2]
      have hxop : p'.x.op = .st n2 X2 Y2 := by rw [← hx2]
      have hxg : p'.x.guard = none := by rw [← hx2]
      refine I.now hP hR hF hp' hu ho hpre' (b := true) (by rw [hxg]; rfl) (fun _ => .inl ⟨_, _, by rw [hxop]; exact hr2'⟩) (fun hb => by cases hb) ?_ (fun _ c h2 _ _ _ hv => by rw [hxop, hr2'] at hv; cases hv)
      intro _ v2 h2 E1 x1 w1 hv t1 S1 hA1
      rw [hxop, hr2'] at hv; cases hv
      have hput : putX p'.x.dst AV.undef a = a := by rw [hdst]; rfl
      refine ih _ _ _ _ _ _ _ _ _ _ _ (I.effect hp' hpq' hu ho hpre' hpl2 (fun j hj => by simp only [List.mem_cons, List.not_mem_nil, or_false] at hj ⊢; exact hj.symm) (fun j hj => by simp only [List.mem_cons, List.not_mem_nil, or_false] at hj ⊢; exact .inl hj) (fun d hd hdq => by simp only [List.mem_cons, List.not_mem_nil, or_false] at hd; subst hd; cases hdq) S1 hA1 t1 rfl ⟨rfl, rfl⟩ ?_ ?_ ?_) hleft (hF.up t1.up)
      ·rw [hput, hrun1, hr1']; simp
      ·rw [hput, hrun1, hr1']
       intro e x' w' hc
       refine hq1 e x' w' (CROk.same (cr := fun _ _ => .fail) hc rfl (fun b => ?_) (fun b _ hd => by simp only [H.put, List.mem_cons] at hd ⊢; rcases hd with h9 | h9 | h9 <;> simp [h9]) fun hh => hh)
       simp only [H.get_put]
       by_cases h1' : b = b1
       ·subst h1'; simp [hbne]
       ·simp [h1']
      ·intro s hs hus hsq hsl
       exact (hnolook p' hp' hlk' rfl s hs hus hsq hsl).elim
theorem quietVs_mem : ∀ {l : List XDr} {d : XDr}, d ∈ l → d.quiet = true → ∀ u, d.o.dst = .v u → u ∈ quietVs l
 | [], d, hd, _, _, _ => by cases hd
 | e :: l, d, hd, hq, u, hu => by
  simp only [quietVs]
  rcases List.mem_cons.1 hd with rfl | hd
  ·rw [hq, hu]; simp
  ·have := quietVs_mem hd hq u hu
   split
   ·exact List.mem_cons_of_mem _ this
   ·exact this
theorem coversB_mem {order : List Nat} : ∀ {n : Nat}, coversB order n = true → ∀ j, j < n → j ∈ order
 | 0, _, j, hj => by omega
 | n + 1, h, j, hj => by
  simp only [coversB, Bool.and_eq_true] at h
  by_cases he : j = n
  ·subst he; simpa using h.1
  ·exact coversB_mem h.2 j (by omega)
theorem draw_ok (hP : ProgOk P) (hR : RecOk P W0 r) (hFr : RecFr r) : DrawOk P W0 r := by
 intro E h w rd F n vm ops id a x Q S hA hF hne hQ
 unfold cDraw cDrawU at hne hQ
 split at hne
 ·rename_i l hcov hpl
  have hrun : runCode r rd (.draw (hasIns ops.toList) l (quietVs l)) a h = runDraw r (quietVs l) (hasIns ops.toList) l none ⟨a.vars, [], a.defers⟩ h := rfl
  simp only [hcov, hpl, hrun] at hne hQ
  refine wpIn_region_any hP.mixed ?_
  obtain ⟨plan, -⟩ := placeGo_plan hpl (fun s hs => by cases hs)
  have I : Inv (hasIns ops.toList) P W0 n vm r ops (quietVs l) Q E h (Array.replicate ops.size false) [] (eager (hasIns ops.toList) ops.toList) l none ⟨a.vars, [], a.defers⟩ ⟨a.vars, [], a.defers⟩ h E x { w with drawn := w.drawn + 1 } := by
   refine ⟨S.world rfl rfl rfl, hA.fresh, rfl, .refl _ _, hne, hQ, by simp, ?_, plan, .nil, ?_, ?_, ?_, fun _ _ => rfl, ?_, (fun t ht => by cases ht), (fun _ => rfl), ?_, ?_, ?_, fun d hd hq u hu => quietVs_mem hd hq u hu⟩
   ·intro i o _ hi
    simp only [Array.getD_eq_getD_getElem?, Array.getElem?_replicate] at hi
    split at hi <;> simp at hi
   ·intro i hi
    have hlt : i < ops.size := by
     have key : ∀ {u : Bool} {is : List Nat} {l : List XDr} {ps : List Pl}, Plan u P n vm ops.toList is l ps → ∀ j ∈ is, j < ops.size := by
      intro u is l ps hp
      have one : ∀ {ps : List Pl} {p : Pl}, PlOk u P n vm ops.toList ps p → p.i < ops.size := by
       intro ps p hp
       obtain ⟨o, ho, -⟩ := hp.op
       have := (List.getElem?_eq_some_iff.1 ho).1
       simpa using this
      induction hp with
      | nil => intro j hj; cases hj
      | quiet h1 h2 t ih => intro j hj; exact (List.mem_cons.1 hj).elim (fun he => he ▸ one h1) (fun hj => ih j hj)
      | eff h1 h2 h3 h4 t ih => intro j hj; exact (List.mem_cons.1 hj).elim (fun he => he ▸ one h1) (fun hj => ih j hj)
      | two _ h1 h2 t1 t2 _ _ _ _ _ _ _ ih1 ih2 =>
       intro j hj
       simp only [List.mem_cons, List.not_mem_nil, or_false] at hj
       exact hj.elim (fun he => he ▸ one h1) (fun he => he ▸ one h2)
     exact key plan i hi
    simp [Array.getD_eq_getD_getElem?, hlt]
   ·intro t ht; cases ht
   ·intro j hj; exact .inr (coversB_mem hcov j (by simpa using hj))
   ·intro t ht; cases ht
   ·intro s hs; cases hs
   ·intro t ht; cases ht
   ·intro t ht; cases ht
  refine draw_walk hP hR hFr S.dom S.low ops.size _ _ _ _ _ _ _ _ _ _ _ I ?_ hF
  have : ∀ k, cntU (fun j => !(Array.replicate ops.size false).getD j true) k ≤ k := by
   intro k
   induction k with
   | zero => simp [cntU]
   | succ k ih => simp only [cntU]; split <;> omega
  simpa [left] using this ops.size
 ·rename_i hno
  exact absurd rfl hne
end
end Go.Ev
namespace Go.Ev
set_option linter.unusedSectionVars false
variable [Sig]
section
variable {P : Program} {W0 : Wb} {E : Env} {h : H} {w : World}
theorem patZ_1 {K : Nat} {n : Nat} (h : Nat.ble n K = true) : ∃ d : Nat, dec (Int.ofNat n) = d ∧ d ≤ K := ⟨n, dec_of rfl, Nat.le_of_ble_eq_true h⟩
theorem pat_lt {tx : Tx} {m : Nat} {p : Nat × Nat} (h : plOf tx (.negSucc m) = some p) : p.2 < 65536 := by
 obtain ⟨rfl, -, -⟩ := plChk_some (show plChk _ tx m _ _ _ = some p from h)
 exact symR_lt m
theorem pat_nnM {M : Nat} (hM : 32768 = M) {tx : Tx} {p : Nat × Nat} (h : Nat.ble M p.2 = true) : M ≤ p.2 ∧ plV tx Sig.kap p = ((tx.place Sig.kap p.1 + (p.2 - M) : Nat) : Int) := by
 have h : M ≤ p.2 := Nat.le_of_ble_eq_true h
 have hMi : (32768 : Int) = M := by rw [← hM]; rfl
 refine ⟨h, ?_⟩
 unfold plV
 rw [hMi]
 omega
theorem patZ_2 {K M : Nat} (hM : 32768 = M) (hK : 600000 = K) {tb : Tx} (ht : TxOk tb) (hon : tb.on = true) {m : Nat} {p : Nat × Nat} (hp : plOf tb (.negSucc m) = some p) (h : Nat.ble M p.2 = true) : ∃ d : Nat, dec (.negSucc m) = d ∧ d ≤ K := by
 obtain ⟨h1, h2⟩ := plOf_val ht hon hp
 have h3 := txt_size ht hon (j := p.1) h2
 have h4 := (ht hon).2.2.2.1
 have hr : p.2 < 65536 := pat_lt hp
 obtain ⟨h5, h6⟩ := pat_nnM hM h
 have h7 : p.2 - M < 65536 := Nat.lt_of_le_of_lt (Nat.sub_le _ _) hr
 refine ⟨tb.place Sig.kap p.1 + (p.2 - M), by rw [h1, h6], ?_⟩
 rw [← hK]
 clear hM h5 h6 hr hK hp h1 h
 generalize p.2 - M = x at h7 ⊢
 omega
omit [Sig] in
theorem patP_some {M : Nat} {o : Option (Nat × Nat)} (h : patP M o = true) : ∃ p, o = some p ∧ Nat.ble M p.2 = true := by
 cases o with
 | none => cases h
 | some p => exact ⟨p, rfl, h⟩
omit [Sig] in
theorem patZ_cases {K : Nat} {z : Int} {b : Bool} (h : patZ' K z b = true) : (∃ n, z = .ofNat n ∧ Nat.ble n K = true) ∨ (∃ m, z = .negSucc m ∧ b = true) := by
 cases z with
 | ofNat n => exact .inl ⟨n, rfl, h⟩
 | negSucc m => exact .inr ⟨m, rfl, h⟩
theorem patZ_ok {K M : Nat} (hM : 32768 = M) (hK : 600000 = K) {tb : Tx} (ht : TxOk tb) (hon : tb.on = true) {z : Int} (h : patZ K M tb z = true) : ∃ d : Nat, dec z = d ∧ d ≤ K := by
 rcases patZ_cases h with ⟨n, rfl, hn⟩ | ⟨m, rfl, hb⟩
 ·exact patZ_1 hn
 ·obtain ⟨p, hp, hq⟩ := patP_some hb
  exact patZ_2 hM hK ht hon hp hq
def NN (K : Nat) (n : Int) : Prop := n = -1 ∨ ∃ d : Nat, n = d ∧ d ≤ K
mutual
theorem nnA_ok {K M : Nat} (hM : 32768 = M) (hK : 600000 = K) {tx : Tx} (ht : TxOk tx) (hon : tx.on = true) {E : Env} : ∀ {v : AV} {u : Value}, nnA K M tx v = true → cv E v = some u → ∃ d : Int, u = .int .i64 d ∧ NN K d
 | .int .i64 z, u, h, hu => by
  simp only [nnA] at h
  simp only [cv, Option.some.injEq] at hu
  obtain ⟨d, h1, h2⟩ := patZ_ok hM hK ht hon h
  exact ⟨d, by rw [← hu, h1], .inr ⟨d, rfl, h2⟩⟩
 | .rng b lo hi, u, h, hu => by
  simp only [nnA] at h
  simp only [cv] at hu
  split at hu
  ·rename_i e he
   split at hu
   ·rename_i hc
    cases hu
    refine ⟨_, rfl, ?_⟩
    unfold rngV
    split
    ·exact .inl rfl
    ·exact .inr ⟨_, rfl, Nat.le_trans hc.2 (Nat.le_of_ble_eq_true h)⟩
   ·cases hu
  ·cases hu
 | .sel i vs, u, h, hu => by
  simp only [nnA] at h
  simp only [cv] at hu
  split at h
  ·rename_i ks hks
   exact nnAL_ok hM hK ht hon h (by rw [Nat.zero_add]; exact (ht hon).2.2.1 i _ (by rw [← nthN_eq]; exact hks)) hu
  ·cases h
theorem nnAL_ok {K M : Nat} (hM : 32768 = M) (hK : 600000 = K) {tx : Tx} (ht : TxOk tx) (hon : tx.on = true) {E : Env} {ks : List Nat} : ∀ {vs : List AV} {n m : Nat} {u : Value}, nnAL K M tx ks n vs = true → n + m ∈ ks → cvN E vs m = some u → ∃ d : Int, u = .int .i64 d ∧ NN K d
 | v :: vs, n, m, u, h, hm, hu => by
  simp only [nnAL] at h
  match m with
  | 0 =>
   simp only [cvN] at hu
   rw [Nat.add_zero] at hm
   rw [memN_iff.2 hm] at h
   simp only at h
   split at h
   ·rename_i hv; exact nnA_ok hM hK ht hon hv hu
   ·cases h
  | m + 1 =>
   simp only [cvN] at hu
   have hm' : Nat.succ n + m ∈ ks := by rw [show Nat.succ n + m = n + (m + 1) by omega]; exact hm
   split at h
   ·split at h
    ·exact nnAL_ok hM hK ht hon h hm' hu
    ·cases h
   ·exact nnAL_ok hM hK ht hon h hm' hu
 | [], n, m, u, h, hm, hu => by simp only [cvN] at hu; cases hu
end
omit [Sig] in
theorem geAll_mem {n : Nat} : ∀ {l : List Nat}, geAll n l = true → ∀ b ∈ l, n ≤ b
 | [], _, b, hb => by cases hb
 | c :: l, h, b, hb => by
  simp only [geAll] at h
  split at h
  ·rename_i hc
   rcases List.mem_cons.1 hb with rfl | hb
   ·exact Nat.le_of_ble_eq_true hc
   ·exact geAll_mem h b hb
  ·cases h
omit [Sig] in
theorem patK_at {call : List AV → H → OR} (hfr : ∀ args h, FrO h (call args h)) {args : List AV} {h : H} : ∀ {qs : List (List (List Nat))} {n : Nat} {l : List PO} {n2 : Nat}, patK call args h qs n = some (l, n2) → ∀ q ∈ qs,
  ∃ n0 o n1, n ≤ n0 ∧ n1 ≤ n2 ∧ o ∈ l ∧ patO (patTx h.tx q) n0 (call args ⟨n0, h.t, h.asm, [], patTx h.tx q⟩) = some (o, n1)
 | [], n, l, n2, hk, q, hq => by cases hq
 | q0 :: qs, n, l, n2, hk, q, hq => by
  simp only [patK] at hk
  split at hk
  ·rename_i o n1 ho
   split at hk
   ·rename_i l' n' hk'
    cases hk
    have h1 := patK_le hfr hk'
    rcases List.mem_cons.1 hq with rfl | hq
    ·exact ⟨n, o, n1, Nat.le_refl _, h1, List.mem_cons_self .., ho⟩
    ·obtain ⟨n0, o', n1', g1, g2, g3, g4⟩ := patK_at hfr hk' q hq
     have h2 := hfr args ⟨n, h.t, h.asm, [], patTx h.tx q0⟩
     have : n ≤ n1 := by
      rcases patO_some ho with ⟨h', hc, -, -, rfl⟩ | ⟨t, k, c, z, h', hc, -, -, -, rfl⟩
      ·rw [hc] at h2; exact h2.next
      ·rw [hc] at h2; exact h2.next
     exact ⟨n0, o', n1', Nat.le_trans this g1, g2, List.mem_cons_of_mem _ g3, g4⟩
   ·cases hk
  ·cases hk
theorem sameO_mem {o : PO} : ∀ {l : List PO}, sameO o l = true → ∀ p ∈ l, p = o
 | [], _, p, hp => by cases hp
 | q :: l, h, p, hp => by
  simp only [sameO] at h
  split at h
  ·rename_i hc
   rcases List.mem_cons.1 hp with rfl | hp
   ·cases o <;> cases p <;> first | rfl | (cases hc; done) | skip
    simp only [Bool.and_eq_true] at hc
    rw [Nat.eq_of_beq_eq_true hc.1, ikeq_eq hc.2.1, Nat.eq_of_beq_eq_true hc.2.2]
   ·exact sameO_mem h p hp
  ·cases h
theorem HSim.pat (S : HSim P W0 E h w) {n : Nat} (hn : h.next ≤ n) {tx : Tx} (ht : TxOk tx) : HSim P W0 E ⟨n, h.t, h.asm, [], tx⟩ w :=
 ⟨S.size, S.base, S.os, S.out, Nat.le_trans S.low hn, S.glob, fun b e hb => Nat.lt_of_lt_of_le (S.dom b e hb) hn, fun b hb => S.top b (Nat.le_trans hn hb), S.blk, S.own, S.ronly, S.inj, ⟨S.ho.1, ht⟩⟩
theorem HSim.unpat {w' : World} (S : HSim P W0 E h w) {n : Nat} (hn : h.next ≤ n) {E' : Env} {h' : H} {tx : Tx} (S' : HSim P W0 E' h' w') (hf : Fr ⟨n, h.t, h.asm, [], tx⟩ h') (hd : ∀ b ∈ h'.dirty, n ≤ b) {N : Nat} (hN : h'.next ≤ N) {E2 : Env}
  (hE : ∀ b e, E2 b = some e → (∃ y, h.get b = some y) → E' b = some e) (hup : ∀ b e, E' b = some e → E2 b = some e) (hdom : ∀ b e, E2 b = some e → b < N) : HSim P W0 E2 ⟨N, h.t, h.asm, h.dirty, h.tx⟩ w' := by
 have hg : ∀ b x, H.get ⟨N, h.t, h.asm, h.dirty, h.tx⟩ b = some x → h.get b = some x ∧ h'.get b = some x := fun b x hx => by
  have hx : h.get b = some x := hx
  have hlt : b < h.next := by
   rcases Nat.lt_or_ge b h.next with hh | hh
   ·exact hh
   ·rw [S.top b hh] at hx; cases hx
  have := hf.keep b (.inl (Nat.lt_of_lt_of_le hlt hn)) fun hh => by have := hd b hh; omega
  exact ⟨hx, this.trans hx⟩
 have hnn : h.next ≤ N := Nat.le_trans hn (Nat.le_trans hf.next hN)
 refine ⟨S'.size, S'.base, S'.os, S'.out, Nat.le_trans S.low hnn, fun g hg => hup _ _ (S'.glob g hg), hdom, fun b hb => S.top b (Nat.le_trans hnn hb), ?_, ?_, ?_, ?_, S.ho⟩
 ·intro b e x he hx
  obtain ⟨h1, h2⟩ := hg b x hx
  obtain ⟨o, ho, hk⟩ := S'.blk b e x (hE b e he ⟨x, h1⟩) h2
  exact ⟨o, ho, hk.up hup⟩
 ·intro b e x he hx hw
  obtain ⟨h1, h2⟩ := hg b x hx
  exact S'.own b e x (hE b e he ⟨x, h1⟩) h2 hw
 ·intro b e cs el tl he hx
  obtain ⟨h1, h2⟩ := hg b _ hx
  exact S'.ronly b e cs el tl (hE b e he ⟨_, h1⟩) h2
 ·intro b c e f x y he hf' hx hy hw hw' hr
  obtain ⟨h1, h2⟩ := hg b x hx
  obtain ⟨h3, h4⟩ := hg c y hy
  exact S'.inj b c e f x y (hE b e he ⟨x, h1⟩) (hE c f hf' ⟨y, h3⟩) h2 h4 hw hw' hr
theorem patTx_ok {tx : Tx} (ht : TxOk tx) (hon : tx.on = true) {q : List (List Nat)} (hq : ∀ i ks, q[i]? = some ks → Sig.kap i ∈ ks) : TxOk (patTx tx q) := by
 intro _
 obtain ⟨h1, h2, h3, h4, h5, h6⟩ := ht hon
 have e1 : ∀ n j, (patTx tx q).fromB Sig.kap j n = tx.fromB Sig.kap j n := by
  intro n
  induction n with
  | zero => intro j; rfl
  | succ n ih => intro j; rw [Tx.fromB, Tx.fromB, ih]; rfl
 have e2 : ∀ j, (patTx tx q).place Sig.kap j = tx.place Sig.kap j := by
  intro j
  induction j with
  | zero => rfl
  | succ j ih => rw [Tx.place, Tx.place, ih]; rfl
 refine ⟨?_, ?_, hq, h4, ?_, fun hh => absurd rfl hh⟩
 ·rw [e1]; exact h1
 ·intro j r hj hr
  rw [e2]; exact h2 j r hj hr
 ·intro j r hj hr
  rw [e2]; exact h5 j r hj hr
theorem patC_sound {call : List AV → H → OR} {f : FuncId} (hfr : ∀ args h, FrO h (call args h))
  (hcall : ∀ (E : Env) (h : H) (w : World) (args : List AV) (us : List Value), HSim P W0 E h w → cvL E args = some us → Outs (call args h) → HasBody P f ∧ CallsIn Fence.wide 0 P f us.toArray w (EndOk P W0 E h (call args h)))
  {args : List AV} {us : List Value} (hon : h.tx.on = true) (hpt : h.tx.pats ≠ []) (S : HSim P W0 E h w) (ha : cvL E args = some us) (ho : Outs (patC call args h)) :
  HasBody P f ∧ CallsIn Fence.wide 0 P f us.toArray w (EndOk P W0 E h (patC call args h)) := by
 obtain ⟨h1, h2, h3, h4, h5, h6⟩ := S.ho.2 hon
 obtain ⟨q, hq, hkap⟩ := h6 hpt
 unfold patC at ho ⊢
 split at ho
 ·rename_i o l n hk
  split at ho
  ·rename_i hs
   try simp only [hk]
   try simp only [hs]
   obtain ⟨n0, o', n1, g1, g2, g3, g4⟩ := patK_at hfr hk q hq
   have ho' : o' = o := by
    rcases List.mem_cons.1 g3 with rfl | g3
    ·rfl
    ·exact sameO_mem hs o' g3
   subst ho'
   have S0 := S.pat g1 (patTx_ok S.ho.2 hon hkap)
   have hF := hfr args ⟨n0, h.t, h.asm, [], patTx h.tx q⟩
   rcases patO_some g4 with ⟨h', hc, rfl, hd, rfl⟩ | ⟨t, k, c, z, h', hc, rfl, hd, hz, rfl⟩
   ·rw [hc] at hF
    have hd := geAll_mem hd
    obtain ⟨hb, hcl⟩ := hcall E _ w args us S0 ha (by rw [hc]; trivial)
    refine ⟨hb, hcl.mono fun e w' he => ?_⟩
    rw [hc] at he
    obtain ⟨E', u, rfl, tr, S', hv⟩ := he
    refine ⟨E', u, rfl, ⟨⟨tr.ext.up, fun b hb => tr.ext.low b (Nat.lt_of_lt_of_le hb g1)⟩, Nat.le_trans g1 (Nat.le_trans hF.next g2), fun _ _ _ => rfl, fun _ _ _ hh => hh⟩,
     S.unpat g1 S' hF hd g2 (fun b e he _ => he) (fun b e he => he) (fun b e he => Nat.lt_of_lt_of_le (S'.dom b e he) g2), hv⟩
   ·rw [hc] at hF
    have hd := geAll_mem hd
    dsimp only
    rw [frc_eq]
    obtain ⟨hb, hcl⟩ := hcall E _ w args us S0 ha (by rw [hc]; trivial)
    refine ⟨hb, hcl.mono fun e w' he => ?_⟩
    rw [hc] at he
    obtain ⟨E', ch, rfl, tr, S', hv⟩ := he
    have key : ∃ d : Int, NN 600000 d ∧ ∃ q1, ch = [q1] ∧ q1.v = .iface t (.agg #[.int k (dec (.ofNat c)), .int .i64 d]) ∧ ∀ (E2 : Env) (x : AV), cv E2 x = some q1.v → ChOk E2 [⟨x, false⟩] ch := by
     match ch, hv with
     | [q1], ⟨v1, v2, v3, v4⟩ =>
      have v1 : cv E' (.iface t (.agg [.int k (.ofNat c), z])) = some q1.v := v1
      cases hz' : cv E' z with
      | none => simp [cv, cvC, hz'] at v1
      | some u =>
       obtain ⟨d, rfl, hd2⟩ := nnA_ok rfl rfl (patTx_ok S.ho.2 hon hkap) hon hz hz'
       cases hone : z.one with
       | false => simp [cv, cvC, hone] at v1
       | true =>
        simp only [cv, cvC, AV.one, hone, hz'] at v1
        refine ⟨d, hd2, q1, rfl, (Option.some.inj v1).symm, fun E2 x hx => ⟨hx, v2, v3, v4⟩⟩
     | [], hh => exact hh.elim
     | _ :: _ :: _, ⟨_, _, _, hh⟩ => exact hh.elim
    obtain ⟨d, hd2, q1, rfl, hq1, hck⟩ := key
    have hN : h'.next ≤ n := g2
    have hnone : E' n = none := by
     cases hx : E' n with
     | none => rfl
     | some e => have := S'.dom _ _ hx; omega
    have up : ∀ b e, E' b = some e → (if b = n then some ⟨d.toNat, (if d = -1 then 1 else 0), 0, none⟩ else E' b) = some e := fun b e he => by
     have : b ≠ n := fun hh => by rw [hh, hnone] at he; cases he
     rw [if_neg this]; exact he
    have hnn : h.next ≤ n := Nat.le_trans g1 (Nat.le_trans hF.next g2)
    refine ⟨fun b => if b = n then some ⟨d.toNat, (if d = -1 then 1 else 0), 0, none⟩ else E' b, [q1], rfl, ⟨⟨fun b e he => up b e (tr.ext.up b e he), fun b hb => ?_⟩, Nat.le_succ_of_le hnn, fun _ _ _ => rfl, fun _ _ _ hh => hh⟩,
     S.unpat g1 S' hF hd (Nat.le_succ_of_le g2) (fun b e he hy => ?_) up (fun b e he => ?_), ?_⟩
    ·show (if b = n then some ⟨d.toNat, (if d = -1 then 1 else 0), 0, none⟩ else E' b) = E b
     rw [if_neg (by omega)]
     exact tr.ext.low b (Nat.lt_of_lt_of_le hb g1)
    ·obtain ⟨y, hy⟩ := hy
     have he : (if b = n then some ⟨d.toNat, (if d = -1 then 1 else 0), 0, none⟩ else E' b) = some e := he
     have : b ≠ n := fun hh => by rw [hh, S.top n hnn] at hy; cases hy
     rw [if_neg this] at he
     exact he
    ·have he : (if b = n then some ⟨d.toNat, (if d = -1 then 1 else 0), 0, none⟩ else E' b) = some e := he
     by_cases hbn : b = n
     ·omega
     ·rw [if_neg hbn] at he
      have := S'.dom b e he
      omega
    ·refine hck _ _ ?_
     rw [hq1]
     simp only [cv, cvC, AV.one, if_pos]
     rcases hd2 with rfl | ⟨d0, rfl, hd0⟩
     ·rfl
     ·have hne : ¬ (d0 : Int) = -1 := by omega
      rw [if_pos ⟨by omega, by rw [Int.toNat_natCast]; exact hd0⟩, rngV, if_neg hne, if_neg (by omega), Int.toNat_natCast]
  ·exact ho.elim
 ·exact ho.elim
end
end Go.Ev
namespace Go.Ev
set_option linter.unusedSectionVars false
variable [Sig]
section
variable {P : Program} {W0 : Wb} {r : Rec}
theorem setParams_sound {E : Env} {vm : Nat} : ∀ {ps : List Tmp} {args : List AV} {us : List Value} {n : Nat} {t t1 : Tr AV} {tmps : Array Value}, setParams ps args n t = some t1 → cvL E args = some us → tmps.size = n → VarsOk E vm t tmps →
  us.length = ps.length ∧ ((ps.zip us).foldl (fun tmps (t, a) => tmps.setIfInBounds t a) tmps).size = n ∧ VarsOk E vm t1 ((ps.zip us).foldl (fun tmps (t, a) => tmps.setIfInBounds t a) tmps)
 | [], [], us, n, t, t1, tmps, h, hu, hs, hv => by
  simp only [setParams, Option.some.injEq] at h
  simp only [cvL, Option.some.injEq] at hu
  subst h; subst hu
  exact ⟨rfl, hs, hv⟩
 | p :: ps, v :: vs, us, n, t, t1, tmps, h, hu, hs, hv => by
  simp only [setParams] at h
  split at h
  ·rename_i hlt
   have hlt := blt_lt hlt
   simp only [cvL] at hu
   split at hu
   ·rename_i u l hcv hcl
    cases hu
    have hv' : VarsOk E vm (t.put p v) (tmps.setIfInBounds p u) := by
     intro s y hb hy
     rw [Tr.get_put] at hy
     split at hy
     ·rename_i he; subst he; cases hy; exact ⟨u, hcv, by simp [hs, hlt]⟩
     ·rename_i hne
      obtain ⟨z, hz, hz'⟩ := hv s y hb hy
      exact ⟨z, hz, by rw [Array.getElem?_setIfInBounds_ne (fun he => hne he.symm)]; exact hz'⟩
    obtain ⟨h1, h2, h3⟩ := setParams_sound (tmps := tmps.setIfInBounds p u) h hcl (by simp [hs]) hv'
    exact ⟨by simp [h1], by simpa using h2, by simpa using h3⟩
   ·cases hu
  ·cases h
 | [], _ :: _, us, n, t, t1, tmps, h, hu, hs, hv => by simp [setParams] at h
 | _ :: _, [], us, n, t, t1, tmps, h, hu, hs, hv => by simp [setParams] at h
theorem HSim.loop {E : Env} {h : H} {w : World} (S : HSim P W0 E h w) {l : Nat} {e : Loc} (he : E l = some e) {st : LoopState} {pend : Option Code} {t : Tr AV} {vm n : Nat} {ps : List Tmp} {asg body : Code} {d : Nat} (hg : h.get l = some (.loop st pend t vm n ps asg body d)) :
  ∃ L : Loop, w.heap[e.rb]? = some (.loop L) ∧ L.state = st ∧ L.pending = pend ∧ L.tmps.size = n ∧ VarsOk E vm t L.tmps ∧ L.params.toList = ps ∧ L.assign = asg ∧ L.body = body ∧ ∃ e', E d = some e' ∧ e'.rb = L.defers := by
 obtain ⟨o, ho, L, rfl, h1, h2, h3, h4, h5, h6, h7, h8⟩ := S.blk l e _ he hg
 exact ⟨L, ho, h1, h2, h3, h4, h5, h6, h7, h8⟩
theorem setLoop {E : Env} {h : H} {w : World} (S : HSim P W0 E h w) {l : Nat} {e : Loc} (he : E l = some e) {st : LoopState} {pend : Option Code} {t : Tr AV} {vm n : Nat} {ps : List Tmp} {asg body : Code} {d : Nat} (hg : h.get l = some (.loop st pend t vm n ps asg body d))
  {L : Loop} (hL : w.heap[e.rb]? = some (.loop L)) (st' : LoopState) (pend' : Option Code) :
  HSim P W0 E (h.put l (.loop st' pend' t vm n ps asg body d)) { w with heap := w.heap.setIfInBounds e.rb (.loop { L with state := st', pending := pend' }) } := by
 obtain ⟨L', hL', h1, h2, h3, h4, h5, h6, h7, h8⟩ := S.loop he hg
 rw [hL] at hL'; cases hL'
 have hlt : e.rb < w.heap.size := by
  rcases Nat.lt_or_ge e.rb w.heap.size with h1 | h1
  ·exact h1
  ·rw [Array.getElem?_eq_none h1] at hL; cases hL
 exact S.write he hg rfl (by simp) ⟨{ L with state := st', pending := pend' }, rfl, rfl, rfl, h3, h4, h5, h6, h7, h8⟩ (by simp) (by simp [hlt]) (fun k hk => by simp [Ne.symm hk]) rfl rfl
theorem evYield_sound (hP : ProgOk P) (hR : RecOk P W0 r) (hFr : RecFr r) {E : Env} {h : H} {w : World} {l : Nat} {e : Loc} {args : List AV} {us : List Value} (S : HSim P W0 E h w) (he : E l = some e) (hargs : cvL E args = some us) (ho : Outs (evYield P r l args h)) :
  ∃ f tmps asg body, (Instr.yield e.rb us.toArray).run P w = .ok (.round e.rb f tmps asg body) w ∧ RoundIn Fence.wide 0 P e.rb f tmps asg body w (EndOk P W0 E h (evYield P r l args h)) := by
 have hD := draw_ok hP hR hFr
 unfold evYield at ho ⊢
 split at ho
 ·rename_i pend0 t vm n ps asg body d0 hg
  try simp only [hg]
  split at ho
  ·rename_i t1 ht1
   try simp only [ht1]
   obtain ⟨L, hL, h1, h2, h3, h4, h5, h6, h7, h8⟩ := S.loop he hg
   obtain ⟨hlen, hsz, hv1⟩ := setParams_sound ht1 hargs h3 (resTr_ok S.ho.1 h4)
   have hzip : ((L.params.zip us.toArray).foldl (fun tmps (x : Tmp × Value) => tmps.setIfInBounds x.1 x.2) L.tmps) = ((ps.zip us).foldl (fun tmps (t, a) => tmps.setIfInBounds t a) L.tmps) := by
    rw [← Array.foldl_toList]
    simp [Array.toList_zip, h5]
   have hps : us.toArray.size = L.params.size := by
    have := congrArg List.length h5
    simp at this
    simp [hlen, this]
   have hget : (getObj e.rb).run P w = .ok (.loop L) w := by simp [getObj, Sem.run, hL]
   refine ⟨L.fn, (L.params.zip us.toArray).foldl (fun tmps (x : Tmp × Value) => tmps.setIfInBounds x.1 x.2) L.tmps, asg, body, ?_, ?_⟩
   ·simp only [Instr.yield, Instr.getLoop, hget, Sem.run_bind, Result.andThen_ok]
    simp [hps, h6, h7, Instr.getLoop, hget]
   ·rw [hzip]
    refine roundIn_of_wpIn trivial ?_
    have hF : RdOk E (some l) (Fence.wide.inRound e.rb) := ⟨e, he, rfl⟩
    have hne : runCode r (some l) (cCode P n vm asg) ⟨t1, [], []⟩ h ≠ .fail := fun hf => by rw [hf] at ho; exact ho.elim
    refine code_sound (W0 := W0) (n := n) (vm := vm) (rd := some l) hP hR hD asg E ⟨t1, [], []⟩ h _ w _ S ⟨hsz, hv1, (fun t v _ hh => by rw [findLog_nil] at hh; cases hh), trivial⟩ hF hne ?_
    intro ex x1 w1 hc
    cases hcr : runCode r (some l) (cCode P n vm asg) ⟨t1, [], []⟩ h with
    | fail => exact absurd hcr hne
    | exit _ _ _ => rw [hcr] at ho; exact ho.elim
    | goto _ _ _ => rw [hcr] at ho; exact ho.elim
    | ret _ _ => rw [hcr] at ho; exact ho.elim
    | pan _ _ _ => rw [hcr] at ho; exact ho.elim
    | normal a1 h1' =>
     simp only [hcr] at ho hc ⊢
     cases ex <;> simp only [CROk] at hc
     obtain ⟨E1, tr1, S1, A1⟩ := hc
     have he1 := tr1.up _ _ he
     split at ho
     ·rename_i pend2 t2 vm2 n2 ps2 asg2 body2 d2 hg1
      try simp only [hg1]
      obtain ⟨L1, hL1, q1, q2, -⟩ := S1.loop he1 hg1
      have S2 := setLoop S1 he1 hg1 hL1 .busy pend2
      have tr2 := tr1.trans (Trans.put (y := .loop .busy pend2 t2 vm2 n2 ps2 asg2 body2 d2) he1)
      have hbr : (Instr.beginRound e.rb).run P w1 = .ok () { w1 with heap := w1.heap.setIfInBounds e.rb (.loop { L1 with state := .busy, pending := pend2 }) } := by
       have hget1 : (getObj e.rb).run P w1 = .ok (.loop L1) w1 := by simp [getObj, Sem.run, hL1]
       have : ({ L1 with state := LoopState.busy } : Loop) = { L1 with state := .busy, pending := pend2 } := by rw [← q2]
       simp [Instr.beginRound, Instr.getLoop, hget1, setObj, Sem.run, hL1, q1, this]
      refine ⟨_, hbr, ?_⟩
      have hne2 : runCode r (some l) (cCode P n vm body) a1 (h1'.put l (.loop .busy pend2 t2 vm2 n2 ps2 asg2 body2 d2)) ≠ .fail := fun hf => by rw [hf] at ho; exact ho.elim
      refine code_sound (W0 := W0) (n := n) (vm := vm) (rd := some l) hP hR hD body E1 a1 _ _ _ _ S2 A1 (hF.up tr1.up) hne2 ?_
      intro ex2 x2 w2 hc2
      have fin : ∀ (j : Option Code) (a2 : A) (h2 : H), Outs (endRound l j a2 h2) → (∃ E', Trans E1 (h1'.put l (.loop .busy pend2 t2 vm2 n2 ps2 asg2 body2 d2)) E' h2 ∧ HSim P W0 E' h2 w2 ∧ ASim E' n vm a2 x2) →
        ∃ v w', (Instr.endRound e.rb j).run P w2 = .ok v w' ∧ EndOk P W0 E h (endRound l j a2 h2) (.returned v) w' := by
       intro j a2 h2 hout hh
       obtain ⟨E2, tr3, S3, A3⟩ := hh
       unfold endRound at hout ⊢
       have he2 := tr3.up _ _ he1
       split at hout
       ·rename_i st3 pend3 t3 vm3 n3 ps3 asg3 body3 d3 hdf hg3
        try simp only [hdf, hg3]
        obtain ⟨L3, hL3, -⟩ := S3.loop he2 hg3
        have hget3 : (getObj e.rb).run P w2 = .ok (.loop L3) w2 := by simp [getObj, Sem.run, hL3]
        clear hout
        cases j with
        | none =>
         have S4 := setLoop S3 he2 hg3 hL3 .ready none
         refine ⟨.bool true, _, ?_, E2, _, rfl, (tr2.trans tr3).trans (.put he2), S4, by simp [cv]⟩
         simp [Instr.endRound, Instr.getLoop, hget3, setObj, Sem.run, hL3]
        | some j =>
         have S4 := setLoop S3 he2 hg3 hL3 .done (some j)
         refine ⟨.bool false, _, ?_, E2, _, rfl, (tr2.trans tr3).trans (.put he2), S4, by simp [cv]⟩
         simp [Instr.endRound, Instr.getLoop, hget3, setObj, Sem.run, hL3]
       ·exact hout.elim
      cases hcr2 : runCode r (some l) (cCode P n vm body) a1 (h1'.put l (.loop .busy pend2 t2 vm2 n2 ps2 asg2 body2 d2)) with
      | fail => exact absurd hcr2 hne2
      | goto _ _ _ => rw [hcr2] at ho; exact ho.elim
      | pan _ _ _ => rw [hcr2] at ho; exact ho.elim
      | normal a2 h2' =>
       simp only [hcr2] at ho hc2 ⊢
       cases ex2 <;> simp only [CROk] at hc2
       exact fin none a2 h2' ho hc2
      | ret a2 h2' =>
       simp only [hcr2] at ho hc2 ⊢
       cases ex2 <;> simp only [CROk] at hc2
       exact fin (some .ret) a2 h2' ho hc2
      | exit id a2 h2' =>
       simp only [hcr2] at ho hc2 ⊢
       cases ex2 <;> simp only [CROk] at hc2
       obtain ⟨rfl, hc2⟩ := hc2
       exact fin (some (.exit id)) a2 h2' ho hc2
     ·exact ho.elim
  ·exact ho.elim
 ·exact ho.elim
theorem evCall_dfr (f : FuncId) (args : List AV) (h : H) (d : ADef) (h' : H) : evCall P r f args h ≠ .dfr d h' := by
 intro hh
 unfold evCall at hh
 (repeat' split at hh) <;> first | (cases hh; done) | exact evLeave_dfr _ _ _ _ _ hh
theorem evYield_dfr (l : Nat) (args : List AV) (h : H) (d : ADef) (h' : H) : evYield P r l args h ≠ .dfr d h' := by
 have he : ∀ j a h2, endRound l j a h2 ≠ .dfr d h' := by
  intro j a h2 hh
  unfold endRound at hh
  split at hh <;> cases hh
 intro hh
 unfold evYield at hh
 (repeat' split at hh) <;> first | (cases hh; done) | exact he _ _ _ hh
theorem fns_zero (P : Program) (O : Orc) : fns P O 0 = ⟨fun _ _ _ => .fail, fun _ _ _ _ => .fail, fun _ _ _ => .fail⟩ := rfl
theorem fns_succ (P : Program) (O : Orc) (n : Nat) : fns P O (n + 1) = ⟨callP P O (fns P O n), evLoop (fns P O n), evYield P (fns P O n)⟩ := rfl
def OrcOk (P : Program) (W0 : Wb) (O : Orc) : Prop := ∀ (f : FuncId) (args : List AV) (h : H) (ans : Ans), O f args h = some ans → HasBody P f ∧
 ∀ (E : Env) (w : World) (us : List Value), HSim P W0 E h w → cvL E args = some us → Outs (ansRun ans h) → CallsIn Fence.wide 0 P f us.toArray w (EndOk P W0 E h (ansRun ans h))
theorem ansRun_dfr (ans : Ans) (h : H) (d : ADef) (h' : H) : ansRun ans h ≠ .dfr d h' := by
 cases ans with
 | set n b off v res =>
  simp only [ansRun]
  split <;> intro hh <;> cases hh
 | tm ws ns n v =>
  simp only [ansRun]
  split <;> simp
 | _ => simp [ansRun]
theorem fns_ok (hP : ProgOk P) {O : Orc} (hO : OrcOk P W0 O) : ∀ n, RecOk P W0 (fns P O n)
 | 0 => by
  rw [fns_zero]
  exact ⟨fun _ _ _ _ _ _ _ _ ho => ho.elim, fun _ _ _ _ _ _ _ _ _ _ ho => ho.elim, fun _ _ _ _ _ hh => by simp at hh, fun _ _ _ _ _ hh => by simp at hh, fun _ _ _ _ _ _ _ _ _ _ _ _ _ hne => absurd rfl hne, fns_fr P O 0⟩
 | n + 1 => by
  have ih := fns_ok hP hO n
  rw [fns_succ]
  refine ⟨fun E h w f args us S ha ho => ?_,
   fun E h w l e args us S he ha ho => evYield_sound hP ih (fns_fr P O _) S he ha ho,
   fun f args h d h' => ?_, fun l args h d h' => evYield_dfr l args h d h',
   fun E h w rd F n vm c a x S hA hF hne => evLoop_sound hP ih (draw_ok hP ih (fns_fr P O _)) S hA hF hne, by rw [← fns_succ]; exact fns_fr P O (n + 1)⟩
  ·have hO' : ∀ (E : Env) (h : H) (w : World) (args : List AV) (us : List Value), HSim P W0 E h w → cvL E args = some us → Outs (callO P O (fns P O n) f args h) → HasBody P f ∧ CallsIn Fence.wide 0 P f us.toArray w (EndOk P W0 E h (callO P O (fns P O n) f args h)) := by
    intro E h w args us S ha ho
    simp only [callO] at ho ⊢
    split at ho
    ·rename_i ans hans
     try simp only [hans]
     exact ⟨(hO f args h ans hans).1, (hO f args h ans hans).2 E w us S ha ho⟩
    ·rename_i hans
     try simp only [hans]
     exact evCall_sound hP ih (draw_ok hP ih (fns_fr P O _)) S ha ho
   have hQ : ∀ (E : Env) (h : H) (w : World) (args : List AV) (us : List Value), HSim P W0 E h w → cvL E args = some us → Outs (callQ P O (fns P O n) f args h) → HasBody P f ∧ CallsIn Fence.wide 0 P f us.toArray w (EndOk P W0 E h (callQ P O (fns P O n) f args h)) := by
    intro E h w args us S ha ho
    simp only [callQ] at ho ⊢
    split at ho
    ·rename_i hon
     (try simp only [hon])
     exact hO' E h w args us S ha ho
    ·rename_i hon
     (try simp only [hon])
     split at ho
     ·rename_i hp
      (try simp only [hp])
      exact hO' E h w args us S ha ho
     ·rename_i l hp
      (try simp only [hp])
      split at ho
      ·rename_i c o hw
       (try simp only [hw])
       exact forkW_sound (fun args h => callO_fr (fns_fr P O _) f args h) hO' hon S ha ho
      ·rename_i hw
       (try simp only [hw])
       split at ho
       ·rename_i hl
        (try simp only [hl])
        exact hO' E h w args us S ha ho
       ·rename_i i hl
        (try simp only [hl])
        exact forkC_sound (fun args h => callO_fr (fns_fr P O _) f args h) hO' hon S ha ho
   simp only [callP] at ho ⊢
   split at ho
   ·rename_i hw
    (try simp only [hw])
    exact hQ E h w args us S ha ho
   ·rename_i hw
    (try simp only [hw])
    rw [Bool.and_eq_true] at hw
    refine patC_sound (fun args h => callQ_fr (fns_fr P O _) f args h) hQ hw.1 (fun hh => ?_) S ha ho
    have := hw.2
    unfold patWant at this
    rw [hh] at this
    cases this
  ·have hO' : ∀ args h d h', callO P O (fns P O n) f args h ≠ .dfr d h' := by
    intro args h d h'
    simp only [callO]
    split
    ·exact ansRun_dfr _ _ _ _
    ·exact evCall_dfr f args h d h'
   simp only [callP]
   split
   ·simp only [callQ]
    split
    ·exact hO' _ _ _ _
    ·split
     ·exact hO' _ _ _ _
     ·split
      ·intro hh
       unfold forkW at hh
       (repeat' split at hh) <;> cases hh
      ·split
       ·exact hO' _ _ _ _
       ·intro hh
        unfold forkC at hh
        (repeat' split at hh) <;> cases hh
   ·intro hh
    unfold patC frc at hh
    (repeat' split at hh) <;> cases hh
end
end Go.Ev
namespace Go.Ev
set_option linter.unusedSectionVars false
variable [Sig]
structure Keeps (w w' : World) : Prop where
 os : w'.os = w.os
 out : w'.output = w.output
 size : w.heap.size ≤ w'.heap.size
 block : ∀ k, k < w.heap.size → w'.heap[k]? = w.heap[k]?
omit [Sig] in
theorem Keeps.refl (w : World) : Keeps w w := ⟨rfl, rfl, Nat.le_refl _, fun _ _ => rfl⟩
omit [Sig] in
theorem Keeps.trans {a b c : World} (h : Keeps a b) (k : Keeps b c) : Keeps a c :=
 ⟨k.os.trans h.os, k.out.trans h.out, Nat.le_trans h.size k.size, fun i hi => (k.block i (Nat.lt_of_lt_of_le hi h.size)).trans (h.block i hi)⟩
def AV.plainB : AV → Bool
 | .bool _ | .int _ _ | .str _ _ | .nilptr | .nilslice | .nilmap | .nilfunc | .niliface => true
 | _ => false
theorem plain_one {v : AV} (h : v.plainB = true) : v.one = true := by cases v <;> first | rfl | cases h
theorem plain_cv {v : AV} (h : v.plainB = true) (E E' : Env) : cv E v = cv E' v := by cases v <;> first | (cases h; done) | simp [cv]
def allPlain : List AV → Bool
 | [] => true
 | v :: vs => v.plainB && allPlain vs
theorem allPlain_mem : ∀ {l : List AV}, allPlain l = true → ∀ v ∈ l, v.plainB = true
 | [], _, v, hv => by cases hv
 | x :: l, h, v, hv => by
  simp only [allPlain, Bool.and_eq_true] at h
  rcases List.mem_cons.1 hv with rfl | hv
  ·exact h.1
  ·exact allPlain_mem h.2 v hv
theorem allPlain_cvL : ∀ {l : List AV}, allPlain l = true → ∀ (E E' : Env), cvL E l = cvL E' l
 | [], _, E, E' => by simp [cvL]
 | x :: l, h, E, E' => by
  simp only [allPlain, Bool.and_eq_true] at h
  simp only [cvL, plain_cv h.1 E E', allPlain_cvL h.2 E E']
def E00 : Env := fun g => if g < 64 then some ⟨g, 0, 0, none⟩ else none
structure Tab where
 g : Nat
 cs : List AV
 raw : Option Value := none
noncomputable def tabTr : List Tab → Tr Blk
 | [] => .nil
 | t :: ts => (tabTr ts).put t.g (.cells t.cs 0 false true)
noncomputable def hInit (l : List Tab) : H := ⟨64, tabTr l, [], [], .off⟩
def TabOk (w : World) (t : Tab) : Prop := t.g < 64 ∧ ∃ (C : Array Value) (el : TypeId) (fz : Nat × Nat), w.heap[t.g]? = some (.cells C el fz) ∧ t.cs.length ≤ C.size ∧
 (∀ (i : Nat) (v : AV), t.cs[i]? = some v → v.plainB = true ∧ (∃ u, cv E00 v = some u ∧ C[i]? = some u)) ∧ ∀ v, t.raw = some v → C[0]? = some v
def TabsOk (w : World) (l : List Tab) : Prop := ∀ t ∈ l, TabOk w t
def TabsB (W0 : Wb) (l : List Tab) : Prop := TabsOk W0.toWorld l ∧ ∀ t ∈ l, ¬ W0.mu t.g
theorem TabsOk.b {w : World} {l : List Tab} (h : TabsOk w l) : TabsB w l := ⟨h, fun _ _ hm => hm⟩
theorem TabsOk.keeps {w w' : World} {l : List Tab} (h : TabsOk w l) (k : Keeps w w') : TabsOk w' l := by
 intro t ht
 obtain ⟨h1, C, el, fz, h2, h3, h4⟩ := h t ht
 have hlt : t.g < w.heap.size := by
  rcases Nat.lt_or_ge t.g w.heap.size with h5 | h5
  ·exact h5
  ·rw [Array.getElem?_eq_none h5] at h2; cases h2
 exact ⟨h1, C, el, fz, by rw [k.block _ hlt]; exact h2, h3, h4⟩
theorem tabTr_get : ∀ (l : List Tab) (b : Nat) (x : Blk), (tabTr l).get b = some x → ∃ t ∈ l, t.g = b ∧ x = .cells t.cs 0 false true
 | [], b, x, h => by rw [tabTr, Tr.get_nil] at h; cases h
 | t :: ts, b, x, h => by
  rw [tabTr, Tr.get_put] at h
  split at h
  ·rename_i he; cases h; exact ⟨t, by simp, he.symm, rfl⟩
  ·obtain ⟨s, hs, h1, h2⟩ := tabTr_get ts b x h; exact ⟨s, by simp [hs], h1, h2⟩
theorem start_sim {P : Program} {w : World} {l : List Tab} (ht : TabsOk w l) : HSim P w E00 (hInit l) w := by
 have hget : ∀ b x, (hInit l).get b = some x → ∃ t ∈ l, t.g = b ∧ x = .cells t.cs 0 false true := fun b x h => tabTr_get l b x h
 have hE : ∀ b e, E00 b = some e → b < 64 ∧ e = ⟨b, 0, 0, none⟩ := by
  intro b e h
  unfold E00 at h
  split at h
  ·cases h; exact ⟨by assumption, rfl⟩
  ·cases h
 refine ⟨Nat.le_refl _, fun _ _ _ => rfl, rfl, rfl, Nat.le_refl _, fun g hg => by simp [E00, hg], fun b e h => (hE b e h).1, ?_, ?_, ?_, ?_, ?_, (fun _ hp => by cases hp), (fun ht => by cases ht)⟩
 ·intro b hb
  cases h : (hInit l).get b with
  | none => rfl
  | some x =>
   obtain ⟨t, ht', rfl, -⟩ := hget b x h
   have h64 := (ht t ht').1
   have hb' : 64 ≤ t.g := hb
   omega
 ·intro b e x hb hx
  obtain ⟨t, ht', rfl, rfl⟩ := hget b x hx
  obtain ⟨-, rfl⟩ := hE _ e hb
  obtain ⟨-, C, el, fz, h2, h3, h4, -⟩ := ht t ht'
  refine ⟨_, h2, C, el, fz, rfl, (fun h => by cases h), by simpa using h3, ?_, (fun h => by cases h)⟩
  intro i v hv
  obtain ⟨h5, u, hu, hC⟩ := h4 i v hv
  exact ⟨plain_one h5, u, hu, by simpa using hC⟩
 ·intro b e x hb hx hw
  obtain ⟨t, -, -, rfl⟩ := hget b x hx
  cases hw
 ·intro b e cs el tl hb hx
  obtain ⟨t, ht', rfl, -⟩ := hget b _ hx
  obtain ⟨-, rfl⟩ := hE _ e hb
  obtain ⟨-, C, el, fz, h2, -⟩ := ht t ht'
  refine ⟨?_, fun hm => hm⟩
  show t.g < w.heap.size
  rcases Nat.lt_or_ge t.g w.heap.size with h5 | h5
  ·exact h5
  ·rw [Array.getElem?_eq_none h5] at h2; cases h2
 ·intro b c e f x y hb hc hx hy hxw
  obtain ⟨t, -, -, rfl⟩ := hget b x hx
  cases hxw
theorem HSim.keeps {P : Program} {w w' : World} {E : Env} {h : H} (S : HSim P w E h w') : Keeps w w' := ⟨S.os, S.out, S.size, fun k hk => S.base k hk fun hm => hm⟩
theorem run_sound {P : Program} {w : World} (hP : ProgOk P) {O : Orc} (hO : OrcOk P w O) {l : List Tab} (ht : TabsOk w l) {f : FuncId} {args : List AV} {us : List Value} {n : Nat} {v : AV} {h' : H}
  (hr : (fns P O n).call f args (hInit l) = .val v h') (hu : cvL E00 args = some us) :
  HasBody P f ∧ CallsIn Fence.wide 0 P f us.toArray w (fun e w' => ∃ E' u, e = .returned u ∧ HSim P w E' h' w' ∧ cv E' v = some u) := by
 have ho : Outs ((fns P O n).call f args (hInit l)) := by rw [hr]; trivial
 obtain ⟨h1, h2⟩ := (fns_ok hP hO n).call E00 (hInit l) w f args us (start_sim ht) hu ho
 refine ⟨h1, h2.mono fun e w' he => ?_⟩
 rw [hr] at he
 obtain ⟨E', u, he, -, hs, hv⟩ := he
 exact ⟨E', u, he, hs, hv⟩
def isV (v : AV) (o : OR) : Bool := match o with
 | .val u _ => AV.beq u v && u.plainB
 | _ => false
noncomputable def isRow (cs : List AV) (e : TypeId) (n : Nat) (o : OR) : Bool := match o with
 | .val (.slice b 0 m k true) h' => Nat.beq m n && Nat.beq k n && (match h'.get b with | some (.cells ds e' _ false) => AV.beqL ds cs && allPlain ds && Nat.beq e' e | _ => false)
 | _ => false
theorem run_val {P : Program} {w : World} (hP : ProgOk P) {O : Orc} (hO : OrcOk P w O) {l : List Tab} (ht : TabsOk w l) {f : FuncId} {args : List AV} {us : List Value} {n : Nat} {v : AV} {u : Value}
  (hr : isV v ((fns P O n).call f args (hInit l)) = true) (hu : cvL E00 args = some us) (hv : cv E00 v = some u) : Calls P f us.toArray w (fun e w' => e = .returned u ∧ Keeps w w') := by
 cases hc : (fns P O n).call f args (hInit l) with
 | val v' h' =>
  rw [hc] at hr
  simp only [isV, Bool.and_eq_true] at hr
  have := AV.beq_eq _ _ hr.1
  subst this
  obtain ⟨-, h2⟩ := run_sound hP hO ht hc hu
  rw [callsIn_wide] at h2
  refine h2.mono fun e w' he => ?_
  obtain ⟨E', u', rfl, hs, hv'⟩ := he
  rw [plain_cv hr.2 E' E00, hv] at hv'
  cases hv'
  exact ⟨rfl, hs.keeps⟩
 | fail => rw [hc] at hr; cases hr
 | pan _ _ => rw [hc] at hr; cases hr
 | dfr _ _ => rw [hc] at hr; cases hr
theorem HSim.adopt {P : Program} {W0 : Wb} {w w' : World} {E E' : Env} {h h' : H} (S : HSim P W0 E h w) (S' : HSim P w E' h' w') {b : Nat} {e : Loc} {cs : List AV} {el : TypeId} {tl : Bool} (hb : E' b = some e) (hg : h'.get b = some (.cells cs el tl false)) (hp : allPlain cs = true) :
  HSim P W0 (E.add h.next e) (h.new (.cells cs el false false)) w' := by
 have hf := S.fresh
 have hup := Env.add_up (e := e) hf
 have hget : ∀ c y, (h.new (.cells cs el false false)).get c = some y → (c = h.next ∧ y = .cells cs el false false) ∨ (c ≠ h.next ∧ h.get c = some y) := by
  intro c y hc
  rw [H.get_new] at hc
  split at hc
  ·cases hc; exact .inl ⟨by assumption, rfl⟩
  ·exact .inr ⟨by assumption, hc⟩
 have hE : ∀ c f, (E.add h.next e) c = some f → (c = h.next ∧ f = e) ∨ (c ≠ h.next ∧ E c = some f) := by
  intro c f hc
  unfold Env.add at hc
  split at hc
  ·cases hc; exact .inl ⟨by assumption, rfl⟩
  ·exact .inr ⟨by assumption, hc⟩
 have hlt : ∀ c f y, E c = some f → h.get c = some y → f.rb < w.heap.size := by
  intro c f y hc hy
  obtain ⟨o', ho', -⟩ := S.blk c f y hc hy
  rcases Nat.lt_or_ge f.rb w.heap.size with h1 | h1
  ·exact h1
  ·rw [Array.getElem?_eq_none h1] at ho'; cases ho'
 have hrb : w.heap.size ≤ e.rb := (S'.own b e _ hb hg rfl).resolve_right fun hm => hm
 refine ⟨Nat.le_trans S.size S'.size, ?_, S'.os.trans S.os, S'.out.trans S.out, by rw [H.next_new]; have := S.low; omega, fun g hg => hup g _ (S.glob g hg), ?_, ?_, ?_, ?_, ?_, ?_, S.ho.new _⟩
 ·intro r hr hm
  rw [S'.base r (Nat.lt_of_lt_of_le hr S.size) fun hm => hm]
  exact S.base r hr hm
 ·intro c f hc
  rw [H.next_new]
  rcases hE c f hc with ⟨rfl, -⟩ | ⟨-, hc'⟩
  ·omega
  ·have := S.dom c f hc'; omega
 ·intro c hc
  rw [H.next_new] at hc
  rw [H.get_new, if_neg (by omega)]
  exact S.top c (by omega)
 ·intro c f y hc hy
  rcases hget c y hy with ⟨rfl, rfl⟩ | ⟨hne, hy'⟩
  ·rcases hE _ f hc with ⟨-, rfl⟩ | ⟨hne, -⟩
   ·obtain ⟨o, ho, C, el', fz, h1, h2, h3, h4, h5⟩ := S'.blk b f _ hb hg
    refine ⟨o, ho, C, el', fz, h1, h2, h3, ?_, fun hh => by cases hh⟩
    intro i v hv
    obtain ⟨q1, u, hu, hC⟩ := h4 i v hv
    have hpl := allPlain_mem hp v (List.mem_of_getElem? hv)
    exact ⟨q1, u, by rw [plain_cv hpl _ E']; exact hu, hC⟩
   ·exact absurd rfl hne
  ·rcases hE c f hc with ⟨rfl, -⟩ | ⟨-, hc'⟩
   ·exact absurd rfl hne
   ·obtain ⟨o', ho', hok⟩ := S.blk c f y hc' hy'
    exact ⟨o', by rw [S'.base _ (hlt c f y hc' hy') fun hm => hm]; exact ho', hok.up hup⟩
 ·intro c f y hc hy hw
  rcases hget c y hy with ⟨rfl, rfl⟩ | ⟨hne, hy'⟩
  ·rcases hE _ f hc with ⟨-, rfl⟩ | ⟨hne, -⟩
   ·exact .inl (Nat.le_trans S.size hrb)
   ·exact absurd rfl hne
  ·rcases hE c f hc with ⟨rfl, -⟩ | ⟨-, hc'⟩
   ·exact absurd rfl hne
   ·exact S.own c f y hc' hy' hw
 ·intro c f cs' el' tl' hc hy
  rcases hget c _ hy with ⟨rfl, h1⟩ | ⟨hne, hy'⟩
  ·cases h1
  ·rcases hE c f hc with ⟨rfl, -⟩ | ⟨-, hc'⟩
   ·exact absurd rfl hne
   ·exact S.ronly c f cs' el' tl' hc' hy'
 ·intro c d f g y z hc hd hy hz hyw hzw hfg
  rcases hE c f hc with ⟨rfl, rfl⟩ | ⟨hne, hc'⟩
  ·rcases hE d g hd with ⟨rfl, rfl⟩ | ⟨hne', hd'⟩
   ·rfl
   ·rcases hget d z hz with ⟨rfl, -⟩ | ⟨-, hz'⟩
    ·exact absurd rfl hne'
    ·have := hlt d g z hd' hz'; omega
  ·rcases hget c y hy with ⟨rfl, -⟩ | ⟨-, hy'⟩
   ·exact absurd rfl hne
   ·rcases hE d g hd with ⟨rfl, rfl⟩ | ⟨hne', hd'⟩
    ·have := hlt c f y hc' hy'; omega
    ·rcases hget d z hz with ⟨rfl, -⟩ | ⟨-, hz'⟩
     ·exact absurd rfl hne'
     ·exact S.inj c d f g y z hc' hd' hy' hz' hyw hzw hfg
theorem HSim.grown {P : Program} {W0 : Wb} {w w' : World} {E : Env} {h : H} (S : HSim P W0 E h w) (k : Keeps w w') : HSim P W0 E h w' := by
 have hlt : ∀ c f y, E c = some f → h.get c = some y → f.rb < w.heap.size := by
  intro c f y hc hy
  obtain ⟨o', ho', -⟩ := S.blk c f y hc hy
  rcases Nat.lt_or_ge f.rb w.heap.size with h1 | h1
  ·exact h1
  ·rw [Array.getElem?_eq_none h1] at ho'; cases ho'
 refine ⟨Nat.le_trans S.size k.size, ?_, k.os.trans S.os, k.out.trans S.out, S.low, S.glob, S.dom, S.top, ?_, S.own, S.ronly, S.inj, S.ho⟩
 ·intro r hr hm
  rw [k.block r (Nat.lt_of_lt_of_le hr S.size)]
  exact S.base r hr hm
 ·intro c f y hc hy
  obtain ⟨o', ho', hok⟩ := S.blk c f y hc hy
  exact ⟨o', by rw [k.block _ (hlt c f y hc hy)]; exact ho', hok⟩
def AnsOk (P : Program) (l : List Tab) (f : FuncId) (args : List AV) (ans : Ans) : Prop := HasBody P f ∧ ∀ (W0 : Wb), TabsB W0 l → ∀ (E : Env) (h : H) (w : World) (us : List Value), HSim P W0 E h w → cvL E args = some us → Outs (ansRun ans h) →
 CallsIn Fence.wide 0 P f us.toArray w (EndOk P W0 E h (ansRun ans h))
theorem TabsB.sim {P : Program} {W0 : Wb} {w : World} {E : Env} {h : H} {l : List Tab} (ht : TabsB W0 l) (S : HSim P W0 E h w) : TabsOk w l := by
 intro t htm
 obtain ⟨h1, C, el, fz, h2, h3, h4⟩ := ht.1 t htm
 have hlt : t.g < W0.heap.size := by
  rcases Nat.lt_or_ge t.g W0.heap.size with h5 | h5
  ·exact h5
  ·rw [Array.getElem?_eq_none h5] at h2; cases h2
 exact ⟨h1, C, el, fz, by rw [S.base _ hlt (ht.2 t htm)]; exact h2, h3, h4⟩
theorem hasBody_of {P : Program} {f : FuncId} (h : (fnOf P f).isSome = true) : HasBody P f := by
 cases hf : fnOf P f with
 | none => rw [hf] at h; cases h
 | some xf => obtain ⟨fn, h1, h2, -⟩ := fnOf_some hf; exact ⟨fn, _, h1, h2⟩
theorem ans_row {P : Program} (hP : ProgOk P) {O : Orc} {l : List Tab} (hO : ∀ W : Wb, TabsB W l → OrcOk P W O) {f : FuncId} {args : List AV} {n N : Nat} {cs : List AV} {e : TypeId} (hb : (fnOf P f).isSome = true) (hpl : allPlain args = true)
  (hr : isRow cs e n ((fns P O N).call f args (hInit l)) = true) : AnsOk P l f args (.row cs e n) := by
 refine ⟨hasBody_of hb, fun W0 ht E h w us S hu _ => ?_⟩
 have htw := ht.sim S
 cases hc : (fns P O N).call f args (hInit l) with
 | fail => rw [hc] at hr; cases hr
 | pan _ _ => rw [hc] at hr; cases hr
 | dfr _ _ => rw [hc] at hr; cases hr
 | val v h' =>
  rw [hc] at hr
  unfold isRow at hr
  split at hr
  ·rename_i b m k h2 heq
   cases heq
   simp only [Bool.and_eq_true] at hr
   obtain ⟨⟨h1, h2⟩, h3⟩ := hr
   have := Nat.eq_of_beq_eq_true h1; subst this
   have := Nat.eq_of_beq_eq_true h2; subst this
   split at h3
   ·rename_i ds e' tl hg
    simp only [Bool.and_eq_true] at h3
    obtain ⟨⟨h4, h5⟩, h6⟩ := h3
    have := AV.beqL_eq _ _ h4; subst this
    have := Nat.eq_of_beq_eq_true h6; subst this
    obtain ⟨-, hcalls⟩ := run_sound hP (hO w htw.b) htw hc (by rw [allPlain_cvL hpl E00 E]; exact hu)
    refine hcalls.mono fun en w' he => ?_
    obtain ⟨E', u, rfl, hs, hv⟩ := he
    simp only [cv] at hv
    split at hv
    ·rename_i loc hloc
     simp only [if_true, Option.some.injEq] at hv
     refine ⟨E.add h.next loc, u, rfl, .new S.fresh, S.adopt hs hloc hg h5, ?_⟩
     simp only [cv, add_new, ← hv, if_true]
    ·cases hv
   ·cases h3
  ·cases hr
theorem ans_val {P : Program} (hP : ProgOk P) {O : Orc} {l : List Tab} (hO : ∀ W : Wb, TabsB W l → OrcOk P W O) {f : FuncId} {args : List AV} {N : Nat} {v : AV} (hb : (fnOf P f).isSome = true) (hpl : allPlain args = true)
  (hr : isV v ((fns P O N).call f args (hInit l)) = true) : AnsOk P l f args (.val v) := by
 refine ⟨hasBody_of hb, fun W0 ht E h w us S hu _ => ?_⟩
 have htw := ht.sim S
 cases hc : (fns P O N).call f args (hInit l) with
 | fail => rw [hc] at hr; cases hr
 | pan _ _ => rw [hc] at hr; cases hr
 | dfr _ _ => rw [hc] at hr; cases hr
 | val v' h' =>
  rw [hc] at hr
  simp only [isV, Bool.and_eq_true] at hr
  have := AV.beq_eq _ _ hr.1
  subst this
  obtain ⟨-, hcalls⟩ := run_sound hP (hO w htw.b) htw hc (by rw [allPlain_cvL hpl E00 E]; exact hu)
  refine hcalls.mono fun en w' he => ?_
  obtain ⟨E', u, rfl, hs, hv⟩ := he
  exact ⟨E, u, rfl, .refl _ _, S.grown hs.keeps, by rw [plain_cv hr.2 E E']; exact hv⟩
theorem noOrc_ok {P : Program} {W0 : Wb} : OrcOk P W0 noOrc := fun f args h ans hh => by cases hh
end Go.Ev
namespace Go.Ev
open Go.RowKit Go.WideShapes Go.ChangeShapes
set_option linter.unusedSectionVars false
variable [Sig]
theorem tab_of_var {H : Type} {enc : TypeId × Value → H} {P : Program} {W : World} {name : String} {g t et n base fuel : Nat} {spare : Nat → Bool} {held : Bool} {k : IntKind} {cs : Array Value} {p : List MemPlace} {ks : List Int} (hks : (ks.all fun z => !symB z) = true) (hg : P.globalNamed name = some g) (hg64 : g < 64)
  (hv : W.var? P name = some cs) (ht : P.underlying t = some (.array n et)) (he : P.underlying et = some (.int k)) (hc : P.cellsOf et = 1)
  (hd : DataW.trod enc P W base spare held fuel t cs.toList = some (.agg (ks.map fun m => .lit (.int k m)), p)) : TabOk W { g := g, cs := ks.map fun m => .int k m } := by
 obtain ⟨xs, m, -, hx, -, hn, hel⟩ := DataW.trod_array ht hd
 simp only [Prod.mk.injEq, DataW.agg.injEq] at hx
 obtain ⟨hx, -⟩ := hx
 have hlen : ks.length = n := by rw [← hn]; have := congrArg List.length hx; simpa using this
 refine ⟨hg64, ?_⟩
 simp only [World.var?, hg, Option.bind_some] at hv
 split at hv
 ·rename_i C el fz hC
  simp only [Option.some.injEq] at hv
  subst hv
  have key : ∀ i, i < n → ∃ z, ks[i]? = some z ∧ C[i]? = some (.int k z) := by
   intro i hi
   have h1 := hel i hi
   have hxi : ∃ x, xs[i]? = some x := ⟨xs[i]'(by omega), List.getElem?_eq_getElem (by omega)⟩
   obtain ⟨x, hxi⟩ := hxi
   rw [hxi, hc] at h1
   obtain ⟨z, e1, e2, -⟩ := DataW.trod_int he h1
   have h2 : (xs.map (·.1))[i]? = some (.lit (.int k z)) := by rw [List.getElem?_map, hxi, e2]; rfl
   rw [← hx, List.getElem?_map] at h2
   cases hk : ks[i]? with
   | none => rw [hk] at h2; cases h2
   | some z' =>
    rw [hk] at h2
    simp only [Option.map_some, Option.some.injEq, DataW.lit.injEq, Lit.int.injEq, true_and] at h2
    subst h2
    refine ⟨z', rfl, ?_⟩
    have h3 : ((C.toList.drop (i * 1)).take 1)[0]? = some (.int k z') := by rw [e1]; rfl
    simpa [List.getElem?_take, List.getElem?_drop] using h3
  refine ⟨C, el, fz, hC, ?_, ?_, fun _ h => by cases h⟩
  ·simp only [List.length_map, hlen]
   rcases Nat.lt_or_ge C.size n with h1 | h1
   ·obtain ⟨z, -, h2⟩ := key C.size h1
    rw [Array.getElem?_eq_none (Nat.le_refl _)] at h2
    cases h2
   ·exact h1
  ·intro i v hv
   rw [List.getElem?_map] at hv
   cases hk : ks[i]? with
   | none => rw [hk] at hv; cases hv
   | some z =>
    rw [hk] at hv
    simp only [Option.map_some, Option.some.injEq] at hv
    subst hv
    have hi : i < n := by rw [← hlen]; exact (List.getElem?_eq_some_iff.1 hk).1
    obtain ⟨z', h1, h2⟩ := key i hi
    rw [hk] at h1; cases h1
    have hz : symB z = false := by simpa using List.all_eq_true.1 hks z (List.mem_of_getElem? hk)
    exact ⟨rfl, .int k z, cv_mk hz, h2⟩
 ·cases hv
omit [Sig] in
theorem Keeps.frame {W W' : World} (h : Keeps W W') (may : MemPlace → Prop) : W.keptBut W' may := by
 refine ⟨h.os, h.out, fun i hi => ?_⟩
 rw [h.block i hi]
 cases ho : W.heap[i]? with
 | none => rfl
 | some o => cases o <;> simp
theorem args_nil {E : Env} : cvL E [] = some [] := by simp [cvL]
theorem args_cons {E : Env} {x : AV} {v : Value} {xs : List AV} {vs : List Value} (h : absC v = some x) (hs : cvL E xs = some vs) : cvL E (x :: xs) = some (v :: vs) := by
 simp only [cvL, (absC_cv (E := E) h).2, hs]
theorem run_true {P : Program} {w : World} (hP : ProgOk P) {O : Orc} (hO : OrcOk P w O) {l : List Tab} (ht : TabsOk w l) {f : FuncId} {us : List Value} {args : List AV} {n : Nat}
  (hu : cvL E00 args = some us) (hr : isV (.bool true) ((fns P O n).call f args (hInit l)) = true) : Calls P f us.toArray w (fun e w' => e = .returned (.bool true) ∧ Keeps w w') :=
 run_val hP hO ht hr hu (by simp [cv])
section
variable {H : Type} {enc : TypeId × Value → H} {P : Program}
omit [Sig] in
theorem post_of_keeps {f : Func} {s : ChangeSpec} {apart fresh handsOn again : Bool} {W W' : World} {args : Array Value} {v : Value} {ds gs : List (DataW H)} {before pa pv : List MemPlace}
  (hW : DataW.Whole enc P f.params.toList s.vars apart W args.toList ds gs before)
  (hres : ∀ (b : Nat) (sp : Nat → Bool) (hd : Bool), DataW.TrodAll enc P W' b sp hd f.resultTypes.toList (v.resultList f.resultTypes.size) (s.fn H (ds ++ gs)).results [])
  (hargs : ∀ sp : Nat → Bool, (∀ p ∈ before, sp p.block = true) → DataW.TrodAll enc P W' 0 sp true f.params.toList args.toList (s.fn H (ds ++ gs)).args pa)
  (hvars : ∀ sp : Nat → Bool, (∀ p ∈ before, sp p.block = true) → DataW.TrodVars enc P W' sp s.vars (s.fn H (ds ++ gs)).vars pv)
  (hps : before = pa ++ pv) (hb : Keeps W W')
  (hok : ∀ (j : Nat) (t : TypeId) (r : Value), f.resultTypes[j]? = some t → (v.resultList f.resultTypes.size)[j]? = some r → Value.okWide P W' .any 0 t r) :
  s.post enc P f apart fresh handsOn again W args v W' := by
 have hlt : ∀ p ∈ before, p.block < W.heap.size := fun p hp => hW.lt p hp
 have hold : ∀ p ∈ before, (fun b => decide (b < W.heap.size)) p.block = true := fun p hp => by simpa using hlt p hp
 refine ⟨ds, gs, before, [], pa, pv, hW, hres _ _ _, hargs _ hold, hvars _ hold, World.keptBut_mono (fun p hp => ⟨hp, ?_⟩) (hb.frame (· ∈ before)), fun _ => ?_⟩
 ·rw [hps, List.mem_append] at hp
  exact Or.inr hp
 ·obtain ⟨_, _, _, _, _, hz, hn⟩ := hW
  refine ⟨hok, _, _, ([] ++ pa) ++ pv, ⟨[] ++ pa, pv, trodAll_append (hargs _ (fun _ _ => rfl)) (hres _ _ _), hvars _ (fun _ _ => rfl), rfl, ?_, ?_⟩, ?_⟩
  ·intro b off hp
   have hin : MemPlace.cell b off ∈ before := by rw [hps]; simpa using hp
   have hbk := hb.block b (hlt _ hin)
   have h2 := hz b off hin
   simp only [World.frozen?] at h2 ⊢
   rw [hbk]; exact h2
  ·intro ha
   have := hn ha
   rw [hps] at this
   simpa using this
  ·intro p hp _
   rw [hps]
   simpa using hp
end
end Go.Ev
namespace Go.Ev
def symIx (m : Nat) : Nat := (m / 4294967296) % 65536
def valOf (v0 : Nat → Nat → Nat → Nat → Int) (n : Int) : Int := match n with
 | .ofNat _ => 0
 | .negSucc m => (match symId m with
  | 0 => v0 0 (symIx m) (symMd m) (symR m)
  | 1 => IntKind.u64.wrap (v0 0 (symIx m) (symMd m) (symR m))
  | 2 => v0 2 (symIx m) (symMd m) (symR m)
  | 3 => v0 2 (symIx m) (symMd m) (symR m) % 256
  | 4 => v0 4 (symIx m) (symMd m) (symR m)
  | 5 => v0 4 (symIx m) (symMd m) (symR m) / 2
  | k => v0 k (symIx m) (symMd m) (symR m))
def SymOk (id md r : Nat) (a : Int) : Prop := match id with
 | 0 => IntKind.u64.wrap a % (md : Int) = (r : Int)
 | 2 => a % 256 % (md : Int) = (r : Int)
 | 4 => a % (md : Int) = (r : Int)
 | _ => True
def ValOk (v0 : Nat → Nat → Nat → Nat → Int) : Prop := ∀ (id ix md r : Nat), r < md → r < 256 → SymOk id md r (v0 id ix md r)
theorem symId_big {m : Nat} {k : Nat} (h : symId m = k + 1) : symB (.negSucc m) = true := by
 have h1 : (m - 1180591620717411303424) / 281474976710656 = k + 1 := h
 show Nat.ble 1180591620717411303424 m = true
 refine Nat.ble_eq_true_of_le ?_
 rcases Nat.lt_or_ge m 1180591620717411303424 with h2 | h2
 ·rw [Nat.sub_eq_zero_of_le (Nat.le_of_lt h2)] at h1
  simp at h1
 ·exact h2
theorem div_next (B c m : Nat) (hc : 0 < c) (hm : B ≤ m) : (m + c - B) / c = (m - B) / c + 1 := by
 rw [show m + c - B = (m - B) + c by omega, Nat.add_div_right _ hc]
theorem mod_next (d k m : Nat) (hd : 0 < d) : ((m + (65536 * k) * d) / d) % 65536 = (m / d) % 65536 := by
 rw [Nat.add_mul_div_right _ _ hd, Nat.add_mul_mod_self_left]
theorem mod_next1 (k m : Nat) : (m + 65536 * k) % 65536 = m % 65536 := Nat.add_mul_mod_self_left _ _ _
theorem symNext (m : Nat) (hm : 1180591620717411303424 ≤ m) : symId (Nat.add m 281474976710656) = symId m + 1 ∧ symIx (Nat.add m 281474976710656) = symIx m ∧ symMd (Nat.add m 281474976710656) = symMd m ∧ symR (Nat.add m 281474976710656) = symR m :=
 ⟨div_next 1180591620717411303424 281474976710656 m (by decide) hm, mod_next 4294967296 1 m (by decide), mod_next 65536 65536 m (by decide), mod_next1 4294967296 m⟩
theorem u64_wrap_range (n : Int) : 0 ≤ IntKind.u64.wrap n ∧ IntKind.u64.wrap n < 18446744073709551616 := by
 have h : IntKind.u64.wrap n = n % 18446744073709551616 := by simp [IntKind.wrap, IntKind.bits, IntKind.signed]
 rw [h]
 omega
theorem pow2B_cases {md : Nat} (h : pow2B md = true) : ∃ k, k ≤ 8 ∧ 1 ≤ k ∧ md = 2 ^ k := by
 simp only [pow2B, Bool.or_eq_true] at h
 rcases h with ((((((h | h) | h) | h) | h) | h) | h) | h
 ·exact ⟨1, by decide, by decide, Nat.eq_of_beq_eq_true h⟩
 ·exact ⟨2, by decide, by decide, Nat.eq_of_beq_eq_true h⟩
 ·exact ⟨3, by decide, by decide, Nat.eq_of_beq_eq_true h⟩
 ·exact ⟨4, by decide, by decide, Nat.eq_of_beq_eq_true h⟩
 ·exact ⟨5, by decide, by decide, Nat.eq_of_beq_eq_true h⟩
 ·exact ⟨6, by decide, by decide, Nat.eq_of_beq_eq_true h⟩
 ·exact ⟨7, by decide, by decide, Nat.eq_of_beq_eq_true h⟩
 ·exact ⟨8, by decide, by decide, Nat.eq_of_beq_eq_true h⟩
theorem land_low (x c k : Nat) (hc : c < 2 ^ k) : x &&& c = (x % 2 ^ k) &&& c := by
 have h1 : (x &&& c) % 2 ^ k = (x % 2 ^ k) &&& (c % 2 ^ k) := Nat.and_mod_two_pow
 rw [Nat.mod_eq_of_lt hc] at h1
 rw [← h1]
 exact (Nat.mod_eq_of_lt (Nat.lt_of_le_of_lt Nat.and_le_right hc)).symm
theorem i64_toNat (n : Int) : (BitVec.ofInt IntKind.i64.bits n).toNat = (n % 18446744073709551616).toNat := by
 show (BitVec.ofInt 64 n).toNat = _
 rw [BitVec.toNat_ofInt]
 rfl
theorem i64_wrap_small (r : Nat) (h : r < 256) : IntKind.i64.wrap (r : Int) = (r : Int) := by
 simp [IntKind.wrap, IntKind.bits, IntKind.signed]
 omega
theorem and_low (P : Program) (w : World) (t : TypeId) (n : Int) (c r k : Nat) (hk : k ≤ 8) (hc : c < 2 ^ k) (hr : n % ((2 ^ k : Nat) : Int) = (r : Int)) :
  (binOp .and t (.int .i64 n) (.int .i64 (c : Int))).run P w = .ok (.int .i64 ((r &&& c : Nat) : Int)) w := by
 have hk2 : (2 : Nat) ^ k ≤ 256 := by
  have : (2 : Nat) ^ k ≤ 2 ^ 8 := Nat.pow_le_pow_right (by decide) hk
  simpa using this
 have hc256 : c < 256 := Nat.lt_of_lt_of_le hc hk2
 have e1 : (BitVec.ofInt IntKind.i64.bits n &&& BitVec.ofInt IntKind.i64.bits (c : Int)).toNat = r &&& c := by
  rw [BitVec.toNat_and, i64_toNat, i64_toNat]
  have e2 : ((c : Int) % 18446744073709551616).toNat = c := by omega
  rw [e2, land_low _ c k hc]
  have e3 : (n % 18446744073709551616).toNat % 2 ^ k = r := by
   have h8 : k = 0 ∨ k = 1 ∨ k = 2 ∨ k = 3 ∨ k = 4 ∨ k = 5 ∨ k = 6 ∨ k = 7 ∨ k = 8 := by omega
   rcases h8 with rfl | rfl | rfl | rfl | rfl | rfl | rfl | rfl | rfl <;> (simp only [Nat.reducePow] at hr ⊢; omega)
  rw [e3]
 have e4 : IntKind.i64.wrap ((r &&& c : Nat) : Int) = ((r &&& c : Nat) : Int) := i64_wrap_small _ (Nat.lt_of_le_of_lt Nat.and_le_right hc256)
 show (Op.intBits .and .i64 n (c : Int)).run P w = _
 unfold Op.intBits
 simp only [e1]
 rw [e4]
 rfl
theorem sig_and255 (v0 : Nat → Nat → Nat → Nat → Int) (P : Program) (w : World) (t : TypeId) (m n : Nat) (hb : symB (.negSucc m) = true) (hb' : symB (.negSucc n) = true) (hid : symId m = 2) (e1 : symId n = 3) (e2 : symIx n = symIx m) (e3 : symMd n = symMd m) (e4 : symR n = symR m) :
  (binOp .and t (.int .i64 (decV (valOf v0) (.negSucc m))) (.int .i64 (decV (valOf v0) (.ofNat 255)))).run P w = .ok (.int .i64 (decV (valOf v0) (.negSucc n))) w := by
 have a1 : decV (valOf v0) (.negSucc m) = v0 2 (symIx m) (symMd m) (symR m) := by simp only [decV, hb, valOf, hid]
 have a2 : decV (valOf v0) (.negSucc n) = v0 2 (symIx m) (symMd m) (symR m) % 256 := by simp only [decV, hb', valOf, e1, e2, e3, e4]
 have a3 : decV (valOf v0) (.ofNat 255) = ((255 : Nat) : Int) := rfl
 rw [a1, a2, a3]
 generalize v0 2 (symIx m) (symMd m) (symR m) = x
 have hr : x % ((2 ^ 8 : Nat) : Int) = (((x % 256).toNat : Nat) : Int) := by simp only [Nat.reducePow]; omega
 rw [and_low P w t x 255 (x % 256).toNat 8 (by decide) (by decide) hr]
 have h3 : ((x % 256).toNat &&& 255 : Nat) = (x % 256).toNat := by
  have := Nat.and_two_pow_sub_one_eq_mod (x % 256).toNat 8
  simp only [Nat.reducePow, Nat.reduceSub] at this
  rw [this]; omega
 rw [h3]
 have h4 : (((x % 256).toNat : Nat) : Int) = x % 256 := by omega
 rw [h4]
theorem sig_shr1 (v0 : Nat → Nat → Nat → Nat → Int) (P : Program) (w : World) (t : TypeId) (j : IntKind) (m n : Nat) (hb : symB (.negSucc m) = true) (hb' : symB (.negSucc n) = true) (hid : symId m = 4) (e1 : symId n = 5) (e2 : symIx n = symIx m) (e3 : symMd n = symMd m) (e4 : symR n = symR m) :
  (binOp .shr t (.int .i64 (decV (valOf v0) (.negSucc m))) (.int j (decV (valOf v0) (.ofNat 1)))).run P w = .ok (.int .i64 (decV (valOf v0) (.negSucc n))) w := by
 have a1 : decV (valOf v0) (.negSucc m) = v0 4 (symIx m) (symMd m) (symR m) := by simp only [decV, hb, valOf, hid]
 have a2 : decV (valOf v0) (.negSucc n) = v0 4 (symIx m) (symMd m) (symR m) / 2 := by simp only [decV, hb', valOf, e1, e2, e3, e4]
 have a3 : decV (valOf v0) (.ofNat 1) = 1 := rfl
 rw [a1, a2, a3]
 generalize v0 4 (symIx m) (symMd m) (symR m) = x
 show (Op.shift .shr .i64 x j 1).run P w = _
 have h5 : (x.fdiv 2) = x / 2 := Int.fdiv_eq_ediv_of_nonneg x (by decide)
 simp [Op.shift, IntKind.bits, h5]
theorem sig_bin (v0 : Nat → Nat → Nat → Nat → Int) (h0 : ValOk v0) : ∀ (P : Program) (w : World) (op : BinOp) (t : TypeId) (i j k : IntKind) (a b z : Int), symBin op i a j b = some (k, z) → (binOp op t (.int i (decV (valOf v0) a)) (.int j (decV (valOf v0) b))).run P w = .ok (.int k (decV (valOf v0) z)) w := by
 intro P w op t i j k a b z h
 unfold symBin at h
 split at h
 ·rename_i m c
  have e2 : decV (valOf v0) (.ofNat c) = (c : Int) := rfl
  split at h
  ·-- 1, .rem
   rename_i hid
   split at h
   ·rename_i hc
    simp only [Bool.and_eq_true] at hc
    obtain ⟨⟨hc1, hc2⟩, hc3⟩ := hc
    have hc1 := Nat.eq_of_beq_eq_true hc1
    have hc2 : symR m < c := Nat.le_of_ble_eq_true hc2
    have hc3 : symR m < 256 := Nat.le_of_ble_eq_true hc3
    cases h
    have hb := symId_big (k := 0) hid
    have e1 : decV (valOf v0) (.negSucc m) = IntKind.u64.wrap (v0 0 (symIx m) (symMd m) (symR m)) := by simp only [decV, hb, valOf, hid]
    have e3 : decV (valOf v0) (.ofNat (symR m)) = (symR m : Int) := rfl
    rw [e1, e2, e3]
    obtain ⟨hr1, hr2⟩ := u64_wrap_range (v0 0 (symIx m) (symMd m) (symR m))
    have hmod : IntKind.u64.wrap (v0 0 (symIx m) (symMd m) (symR m)) % (symMd m : Int) = (symR m : Int) := h0 0 (symIx m) (symMd m) (symR m) (by rw [← hc1]; exact hc2) hc3
    rw [← hc1] at hmod
    have hcne : (c : Int) ≠ 0 := by omega
    have htm : (IntKind.u64.wrap (v0 0 (symIx m) (symMd m) (symR m))).tmod (c : Int) = (symR m : Int) := by
     rw [Int.tmod_eq_emod_of_nonneg hr1]; rw [hc1] at hmod ⊢; exact hmod
    have hcn : c ≠ 0 := by omega
    simp [binOp, Op.intDiv, hcn, htm]
   ·cases h
  ·-- 2, .and
   rename_i hid
   split at h
   ·rename_i hc
    have hc := Nat.eq_of_beq_eq_true hc
    subst hc
    cases h
    have hb := symId_big (k := 1) hid
    have hm : 1180591620717411303424 ≤ m := Nat.le_of_ble_eq_true hb
    obtain ⟨f1, f2, f3, f4⟩ := symNext m hm
    rw [hid] at f1
    exact sig_and255 v0 P w t m _ hb (symId_big (k := 2) f1) hid f1 f2 f3 f4
   ·cases h
  ·-- 3, .rem
   rename_i hid
   split at h
   ·rename_i hc
    simp only [Bool.and_eq_true] at hc
    obtain ⟨⟨hc1, hc2⟩, hc3⟩ := hc
    have hc1 := Nat.eq_of_beq_eq_true hc1
    have hc2 : symR m < c := Nat.le_of_ble_eq_true hc2
    have hc3 : symR m < 256 := Nat.le_of_ble_eq_true hc3
    cases h
    have hb := symId_big (k := 2) hid
    have e1 : decV (valOf v0) (.negSucc m) = v0 2 (symIx m) (symMd m) (symR m) % 256 := by simp only [decV, hb, valOf, hid]
    have e3 : decV (valOf v0) (.ofNat (symR m)) = (symR m : Int) := rfl
    rw [e1, e2, e3]
    have hmod : v0 2 (symIx m) (symMd m) (symR m) % 256 % (symMd m : Int) = (symR m : Int) := h0 2 (symIx m) (symMd m) (symR m) (by rw [← hc1]; exact hc2) hc3
    generalize v0 2 (symIx m) (symMd m) (symR m) = x at hmod ⊢
    rw [← hc1] at hmod
    have hcn : c ≠ 0 := by omega
    have htm : (x % 256).tmod (c : Int) = (symR m : Int) := by
     rw [Int.tmod_eq_emod_of_nonneg (Int.emod_nonneg _ (by decide))]; exact hmod
    simp [binOp, Op.intDiv, hcn, htm]
   ·cases h
  ·-- 4, .and
   rename_i hid
   split at h
   ·rename_i hc
    simp only [Bool.and_eq_true] at hc
    obtain ⟨⟨hc1, hc2⟩, hc3⟩ := hc
    have hc2 : c < symMd m := Nat.le_of_ble_eq_true hc2
    have hc3 : symR m < symMd m := Nat.le_of_ble_eq_true hc3
    obtain ⟨k, hk, -, hmd⟩ := pow2B_cases hc1
    cases h
    have hb := symId_big (k := 3) hid
    have e1 : decV (valOf v0) (.negSucc m) = v0 4 (symIx m) (symMd m) (symR m) := by simp only [decV, hb, valOf, hid]
    have h256 : symMd m ≤ 256 := by
     rw [hmd]
     have : (2 : Nat) ^ k ≤ 2 ^ 8 := Nat.pow_le_pow_right (by decide) hk
     simpa using this
    have hmod : v0 4 (symIx m) (symMd m) (symR m) % (symMd m : Int) = (symR m : Int) := h0 4 (symIx m) (symMd m) (symR m) hc3 (by omega)
    rw [e1, e2]
    exact and_low P w t _ c (symR m) k hk (by rw [← hmd]; exact hc2) (by rw [← hmd]; exact hmod)
   ·cases h
  ·-- 4, .shr
   rename_i hid
   split at h
   ·rename_i hc
    have hc := Nat.eq_of_beq_eq_true hc
    subst hc
    cases h
    have hb := symId_big (k := 3) hid
    have hm : 1180591620717411303424 ≤ m := Nat.le_of_ble_eq_true hb
    obtain ⟨f1, f2, f3, f4⟩ := symNext m hm
    rw [hid] at f1
    exact sig_shr1 v0 P w t _ m _ hb (symId_big (k := 4) f1) hid f1 f2 f3 f4
   ·cases h
  ·-- 5, .and
   rename_i hid
   split at h
   ·rename_i hc
    simp only [Bool.and_eq_true] at hc
    obtain ⟨⟨hc1, hc2⟩, hc3⟩ := hc
    have hc2 : c + c < symMd m := Nat.le_of_ble_eq_true hc2
    have hc3 : symR m < symMd m := Nat.le_of_ble_eq_true hc3
    obtain ⟨k, hk, hk1, hmd⟩ := pow2B_cases hc1
    cases h
    have hb := symId_big (k := 4) hid
    have e1 : decV (valOf v0) (.negSucc m) = v0 4 (symIx m) (symMd m) (symR m) / 2 := by simp only [decV, hb, valOf, hid]
    have h256 : symMd m ≤ 256 := by
     rw [hmd]
     have : (2 : Nat) ^ k ≤ 2 ^ 8 := Nat.pow_le_pow_right (by decide) hk
     simpa using this
    have hmod : v0 4 (symIx m) (symMd m) (symR m) % (symMd m : Int) = (symR m : Int) := h0 4 (symIx m) (symMd m) (symR m) hc3 (by omega)
    rw [e1, e2]
    obtain ⟨k, rfl⟩ : ∃ l, k = l + 1 := ⟨k - 1, by omega⟩
    refine and_low P w t _ c (symR m / 2) k (by omega) ?_ ?_
    ·rw [Nat.pow_succ] at hmd; omega
    ·generalize v0 4 (symIx m) (symMd m) (symR m) = n at hmod ⊢
     rw [hmd] at hmod
     have h8 : k = 0 ∨ k = 1 ∨ k = 2 ∨ k = 3 ∨ k = 4 ∨ k = 5 ∨ k = 6 ∨ k = 7 := by omega
     rcases h8 with rfl | rfl | rfl | rfl | rfl | rfl | rfl | rfl <;> (simp only [Nat.reducePow, Nat.reduceAdd] at hmod ⊢; omega)
   ·cases h
  ·cases h
 ·cases h
theorem sig_conv_at (v0 : Nat → Nat → Nat → Nat → Int) (m n : Nat) (hs : symB (.negSucc m) = true) (hid : symId m = 0) (e1 : symId n = 1) (e2 : symIx n = symIx m) (e3 : symMd n = symMd m) (e4 : symR n = symR m) :
  IntKind.u64.wrap (decV (valOf v0) (.negSucc m)) = decV (valOf v0) (.negSucc n) := by
 have hb := symId_big (k := 0) e1
 simp only [decV, hs, hb, valOf, hid, e1, e2, e3, e4]
theorem symConv_form {i k : IntKind} {a z : Int} (h : symConv i k a = some z) : ∃ m, a = .negSucc m ∧ symId m = 0 ∧ k = .u64 ∧ z = .negSucc (Nat.add m 281474976710656) := by
 cases a with
 | ofNat n => cases h
 | negSucc m =>
  simp only [symConv] at h
  split at h
  ·rename_i hid
   exact ⟨m, rfl, hid, rfl, (Option.some.inj h).symm⟩
  ·cases h
theorem sig_conv (v0 : Nat → Nat → Nat → Nat → Int) : ∀ (i k : IntKind) (a z : Int), symB a = true → symConv i k a = some z → k.wrap (decV (valOf v0) a) = decV (valOf v0) z := by
 intro i k a z hs h
 obtain ⟨m, ha, hid, hk, hz⟩ := symConv_form h
 rw [ha] at hs
 have hm : 1180591620717411303424 ≤ m := Nat.le_of_ble_eq_true hs
 obtain ⟨e1, e2, e3, e4⟩ := symNext m hm
 rw [hid] at e1
 rw [ha, hk, hz]
 exact sig_conv_at v0 m _ hs hid e1 e2 e3 e4
abbrev sigOf (v0 : Nat → Nat → Nat → Nat → Int) (h0 : ValOk v0) : Sig := ⟨valOf v0, sig_bin v0 h0, sig_conv v0, fun _ => 0, .empty⟩
structure SArg where
 id : Nat
 ix : Nat
 md : Nat
 r : Nat
 a : Int
def symVal : List SArg → Nat → Nat → Nat → Nat → Int
 | [], _, _, _, r => (r : Int)
 | s :: l, id, ix, md, r => if id = s.id ∧ ix = s.ix ∧ md = s.md ∧ r = s.r then s.a else symVal l id ix md r
theorem symOk_self (id md r : Nat) (h : r < md) (h2 : r < 256) : SymOk id md r (r : Int) := by
 unfold SymOk
 split
 ·have e : IntKind.u64.wrap (r : Int) = (r : Int) := by
   have : IntKind.u64.wrap (r : Int) = (r : Int) % 18446744073709551616 := by simp [IntKind.wrap, IntKind.bits, IntKind.signed]
   rw [this]; omega
  rw [e]
  exact Int.emod_eq_of_lt (by omega) (by omega)
 ·have e : (r : Int) % 256 = (r : Int) := by omega
  rw [e]
  exact Int.emod_eq_of_lt (by omega) (by omega)
 ·exact Int.emod_eq_of_lt (by omega) (by omega)
 ·trivial
theorem symVal_ok : ∀ {l : List SArg}, (∀ s ∈ l, SymOk s.id s.md s.r s.a) → ValOk (symVal l)
 | [], _ => fun id _ md r h1 h2 => symOk_self id md r h1 h2
 | s :: l, h => by
  intro id ix md r h1 h2
  unfold symVal
  split
  ·rename_i he
   obtain ⟨rfl, rfl, rfl, rfl⟩ := he
   exact h s (by simp)
  ·exact symVal_ok (fun x hx => h x (by simp [hx])) id ix md r h1 h2
theorem symOk_ex (id md : Nat) (hid : id = 0 ∨ id = 2 ∨ id = 4) (hmd : 0 < md) (a : Int) : ∃ r, r < md ∧ SymOk id md r a := by
 have key : ∀ z : Int, ∃ r, r < md ∧ z % (md : Int) = (r : Int) := fun z => by
  have h1 := Int.emod_nonneg z (b := (md : Int)) (by omega)
  have h2 := Int.emod_lt_of_pos z (b := (md : Int)) (by omega)
  exact ⟨(z % (md : Int)).toNat, by omega, by omega⟩
 rcases hid with rfl | rfl | rfl
 ·exact key _
 ·exact key _
 ·exact key _
end Go.Ev
