/- Operations that make new blocks, or write. -/
import Derived.Laws.RangeString
import Derived.Test.YtbflihggpacblaaGreatDoorEvOpR
import Derived.Laws.AppendOwn
set_option linter.unusedVariables false
set_option linter.unusedSimpArgs false
namespace Go.Ev
open Go.MapKept (bytes_beq run_findKey)
set_option linter.unusedSectionVars false
variable [Sig]

/-- what a piece of a run does to the memory's shape -/
structure Trans (E : Env) (h : H) (E' : Env) (h' : H) : Prop where
  ext : Ext E h.next E'
  next : h.next ≤ h'.next
  keep : ∀ b, b < h.next → E b = none → h'.get b = h.get b
theorem Trans.refl (E : Env) (h : H) : Trans E h E h := ⟨.refl _ _, Nat.le_refl _, fun _ _ _ => rfl⟩
theorem Trans.trans {E E' E'' : Env} {h h' h'' : H} (s : Trans E h E' h') (t : Trans E' h' E'' h'') : Trans E h E'' h'' :=
  ⟨s.ext.trans t.ext s.next, Nat.le_trans s.next t.next, fun b hb he => by
    rw [t.keep b (Nat.lt_of_lt_of_le hb s.next) (by rw [s.ext.low b hb]; exact he), s.keep b hb he]⟩
theorem Trans.up {E E' : Env} {h h' : H} (s : Trans E h E' h') : ∀ b e, E b = some e → E' b = some e := s.ext.up

section
variable {P : Program} {W0 : World} {E : Env} {h : H} {w : World} {n vm : Nat} {a : A} {x : Act}

theorem Trans.new {e : Loc} {y : Blk} (hE : E h.next = none) : Trans E h (E.add h.next e) (h.new y) :=
  ⟨Ext.add hE, by rw [H.next_new]; omega, fun b hb _ => by rw [H.get_new, if_neg (by omega)]⟩
theorem Trans.put {b : Nat} {e : Loc} {y : Blk} (hE : E b = some e) : Trans E h E (h.put b y) :=
  ⟨.refl _ _, Nat.le_refl _, fun c hc he => by rw [H.get_put, if_neg (fun h' => by subst h'; rw [hE] at he; cases he)]⟩

theorem HSim.world (S : HSim P W0 E h w) {w' : World} (h1 : w'.heap = w.heap) (h2 : w'.os = w.os) (h3 : w'.output = w.output) : HSim P W0 E h w' :=
  ⟨by rw [h1]; exact S.size, by rw [h1]; exact S.base, by rw [h2]; exact S.os, by rw [h3]; exact S.out, S.low, S.glob, S.dom, S.top, by rw [h1]; exact S.blk, S.own, S.ronly, S.inj⟩

/-- what an operation that ends with a value does -/
def OpOk (P : Program) (W0 : World) (E : Env) (h : H) (w : World) (s : Sem Next) (v : AV) (h' : H) : Prop :=
  ∃ E' u w', Trans E h E' h' ∧ HSim P W0 E' h' w' ∧ cv E' v = some u ∧ (s.run P w = .ok (.value u) w' ∨ (u = undef ∧ s.run P w = .ok .skip w'))
theorem Quiet.ok {s : Sem Next} {v : AV} {h' : H} (S : HSim P W0 E h w) (q : h' = h ∧ Quiet P E w s v) : OpOk P W0 E h w s v h' := by
  obtain ⟨rfl, u, hu, hr⟩ := q
  exact ⟨E, u, w, .refl _ _, S, hu, .inl hr⟩

theorem add_new (b : Nat) (e : Loc) : (E.add b e) b = some e := by simp [Env.add]

/-- a new row -/
theorem newRow_sound (S : HSim P W0 E h w) {cs : List AV} {C R : List Value} (el : TypeId) (tl : Bool) (ex : Nat) (hc : cvC E cs = some C) (ht : tl = true → ∃ m, szT P el = some m ∧ R.length = ex * m) :
    (newRow el (C ++ R).toArray).run P w = .ok ⟨w.heap.size, 0, none⟩ { w with heap := w.heap.push (.cells (C ++ R).toArray el) } ∧
    HSim P W0 (E.add h.next ⟨w.heap.size, 0, ex, none⟩) (h.new (.cells cs el tl false)) { w with heap := w.heap.push (.cells (C ++ R).toArray el) } := by
  refine ⟨by simp [newRow, newObj, Sem.run], S.alloc ex rfl ?_⟩
  intro E' hE
  have hl := cvC_length hc
  refine ⟨_, _, (0, 0), rfl, fun _ => ⟨rfl, rfl⟩, by simp; omega, ?_, ?_⟩
  · intro i v hi
    obtain ⟨h1, u, hu, hu'⟩ := cvC_get hc i v hi
    refine ⟨h1, u, cv_up hE v u hu, ?_⟩
    have hlt : i < C.length := (List.getElem?_eq_some_iff.1 hu').1
    simp only [Nat.zero_add, List.getElem?_toArray]
    rw [List.getElem?_append_left hlt]
    exact hu'
  · intro htl
    obtain ⟨m, hm, hR⟩ := ht htl
    exact ⟨m, hm, by simp; omega⟩

theorem new_sound (S : HSim P W0 E h w) {t : TypeId} {z : List AV} (hz : zeroC P t = some z) {v : AV} {h' : H} (hr : rNew z t a h = .val v h') :
    OpOk P W0 E h w (do pure (.value (← Instr.alloc t true (.tuple #[])))) v h' := by
  cases hr
  obtain ⟨i, zv, hi, hzv, hzc, hzl⟩ := zeroC_run (E := E) hz
  obtain ⟨h1, h2⟩ := newRow_sound (R := []) S t false 0 hzc (by simp)
  refine ⟨_, .pointer (some ⟨w.heap.size, 0, none⟩), _, .new S.fresh, h2, by simp [cv, add_new], .inl ?_⟩
  simp only [List.append_nil, Array.toArray_toList] at h1
  simp [Instr.alloc, zeroValue, typeInfo, hi, hzv, newVar, h1]

theorem box_sound (S : HSim P W0 E h w) (hA : ASim E n vm a x) {t : TypeId} {p : Operand} {xp : XO} (hp : cO vm p = some xp) {v : AV} {h' : H} (hr : rBox t xp a h = .val v h') :
    OpOk P W0 E h w (do pure (.value (← Instr.box t (x.eval p)))) v h' := by
  unfold rBox at hr
  split at hr
  · rename_i u hu
    split at hr
    · rename_i cs hcs
      cases hr
      have hc := cells_cv hcs (opr_sound S hA hp hu)
      obtain ⟨h1, h2⟩ := newRow_sound (R := []) S t false 0 hc (by simp)
      refine ⟨_, .pointer (some ⟨w.heap.size, 0, none⟩), _, .new S.fresh, h2, by simp [cv, add_new], .inl ?_⟩
      simp only [List.append_nil, Array.toArray_toList] at h1
      simp [Instr.box, newVar, h1]
    · cases hr
  · cases hr

theorem mkM_sound (S : HSim P W0 E h w) {t : TypeId} {v : AV} {h' : H} (hr : rMkM a h = .val v h') : OpOk P W0 E h w (do pure (.value (← Instr.makeMap t none))) v h' := by
  cases hr
  have h2 := S.alloc 0 (x := .map [] 0) (o := .map #[] 0) rfl (fun E' _ => ⟨#[], rfl, trivial⟩)
  refine ⟨_, .map (some w.heap.size), _, .new S.fresh, h2, by simp [cv, add_new], .inl ?_⟩
  simp [Instr.makeMap, newObj, Sem.run]

theorem repL_length (z : List AV) : ∀ m, (repL m z).length = m * z.length
  | 0 => by simp [repL]
  | m + 1 => by simp [repL, repL_length z m, Nat.add_mul]; omega
theorem repL_cv {z : List AV} {Z : List Value} (hz : cvC E z = some Z) : ∀ m, cvC E (repL m z) = some ((List.range (m * Z.length)).map fun i => Z.toArray[i % Z.toArray.size]!)
  | 0 => by simp [repL, cvC]
  | m + 1 => by
    have ih := repL_cv hz m
    have key : (List.range ((m + 1) * Z.length)).map (fun i => Z.toArray[i % Z.toArray.size]!) = Z ++ (List.range (m * Z.length)).map fun i => Z.toArray[i % Z.toArray.size]! := by
      apply List.ext_getElem?
      intro i
      by_cases hi : i < Z.length
      · rw [List.getElem?_append_left hi]
        have h1 : i < (m + 1) * Z.length := by rw [Nat.add_mul]; omega
        simp [h1, Nat.mod_eq_of_lt hi, hi]
      · rw [List.getElem?_append_right (by omega)]
        simp only [List.getElem?_map, List.getElem?_range']
        by_cases h1 : i < (m + 1) * Z.length
        · have h2 : i - Z.length < m * Z.length := by rw [Nat.add_mul] at h1; omega
          have h3 : i % Z.length = (i - Z.length) % Z.length := (Nat.mod_eq_sub_mod (by omega))
          simp [h1, h2, h3]
        · have h2 : ¬ (i - Z.length < m * Z.length) := by rw [Nat.add_mul] at h1; omega
          simp [h1, h2]
    rw [key]
    exact cvC_append hz ih

theorem fillL_nochange : True := trivial

theorem buildS_sound (S : HSim P W0 E h w) (hA : ASim E n vm a x) {t e : TypeId} {len sz : Nat} {z : List AV} {ps : Array (Nat × Operand)} {xl : List (Nat × Nat × XO)} (he : elemT P t = some e) (hs : szT P e = some sz) (hz : zeroC P e = some z)
    (hlt : Nat.blt (Nat.mul len sz) 10000 = true) (hc : cParts vm (fun i => some (Nat.mul i sz, sz)) ps.toList = some xl) {v : AV} {h' : H} (hr : rBuildS e len (repL len z) xl a h = .val v h') :
    OpOk P W0 E h w (do pure (.value (← Instr.buildSlice t len (ps.map fun (i, y) => (i, x.eval y))))) v h' := by
  unfold rBuildS at hr
  split at hr
  · rename_i l hl
    split at hr
    · rename_i cs hcs
      cases hr
      obtain ⟨i, zv, hi, hzv, hzc, hzl⟩ := zeroC_run (E := E) hz
      have hut : P.underlying t = some (.slice e) := by
        unfold elemT at he
        split at he
        · rename_i e' hu; cases he; exact hu
        · cases he
      have hsz : i.size = sz := by
        obtain ⟨i', hi', hs'⟩ := szT_info hs
        rw [hi] at hi'; cases hi'; exact hs'
      have hzl2 := cvC_length hzc
      have hzsz : zv.cells.size = sz := by simp at hzl2; omega
      have hlt' : len * sz < 10000 := blt_lt hlt
      obtain ⟨C', hC', hfill⟩ := fill_sound S hA hc hl hcs (repL_cv hzc len)
      obtain ⟨h1, h2⟩ := newRow_sound (R := []) S e false 0 hC' (by simp)
      refine ⟨_, .slice (some ⟨w.heap.size, 0, none⟩) len len, _, .new S.fresh, h2, by simp [cv, add_new], .inl ?_⟩
      simp only [List.append_nil] at h1
      have hmap : (ps.map fun (i, y) => (i, x.eval y)).toList = ps.toList.map fun p => (p.1, x.eval p.2) := by simp
      have hne : ¬ (len * sz > 2 ^ 24) := by omega
      have hfill' : Instr.fill (fun i => some (i * sz, sz)) ((Array.range (len * sz)).map (fun i => (if len * sz = 0 then (#[] : Array Value) else zv.cells)[i % (if len * sz = 0 then (#[] : Array Value) else zv.cells).size]!)) (ps.toList.map fun p => (p.1, x.eval p.2)) = some C'.toArray := by
        rw [← hfill]
        congr 1
        apply Array.ext'
        by_cases h0 : len * sz = 0
        · simp [h0, hzsz]
        · simp [h0, hzsz]
      by_cases h0 : len * sz = 0
      · simp only [h0, if_true] at hfill'
        simp [Instr.buildSlice, run_underlying hut, sizeOf, typeInfo, hi, hsz, hne, h0, hmap, hfill', h1]
        simp [h0] at hfill'
        simp [hfill', h1]
      · simp only [h0, if_false] at hfill'
        simp [Instr.buildSlice, run_underlying hut, sizeOf, typeInfo, hi, hsz, hne, h0, hmap, hfill', h1, zeroValue, hzv]
    · cases hr
  · cases hr

theorem elemT_under {t e : TypeId} (he : elemT P t = some e) : P.underlying t = some (.slice e) := by
  unfold elemT at he
  split at he
  · rename_i e' hu; cases he; exact hu
  · cases he
theorem bytesT_info {t m : Nat} (hs : bytesT P t = some m) : ∃ i, P.info? t = some i ∧ i.bytes = m := by
  unfold bytesT at hs
  cases hi : P.info? t with
  | none => rw [hi] at hs; cases hs
  | some i => rw [hi] at hs; cases hs; exact ⟨i, rfl, rfl⟩

theorem mkS_sound (S : HSim P W0 E h w) (hA : ASim E n vm a x) {t e : TypeId} {sz by_ : Nat} {z : List AV} {p q : Operand} {xp xq : XO} (he : elemT P t = some e) (hs : szT P e = some sz) (hb : bytesT P e = some by_) (hz : zeroC P e = some z)
    (hp : cO vm p = some xp) (hq : cO vm q = some xq) {v : AV} {h' : H} (hr : rMkS e sz by_ z xp xq a h = .val v h') :
    OpOk P W0 E h w (do pure (.value (← Instr.makeSlice t (x.eval p) (x.eval q)))) v h' := by
  unfold rMkS at hr
  split at hr
  · rename_i k l k' c hg hg'
    split at hr
    · rename_i hcond
      cases hr
      simp only [Bool.and_eq_true] at hcond
      obtain ⟨⟨⟨h1, h2⟩, h3⟩, h4⟩ := hcond
      have h1 := Nat.le_of_ble_eq_true h1
      have h2 := blt_lt h2
      have h3 : c * by_ < 1000000 := blt_lt h3
      have h4 : c * sz < 100000 := blt_lt h4
      have hut := elemT_under he
      obtain ⟨i, zv, hi, hzv, hzc, hzl⟩ := zeroC_run (E := E) hz
      have hsz : i.size = sz := by
        obtain ⟨i', hi', hs'⟩ := szT_info hs
        rw [hi] at hi'; cases hi'; exact hs'
      have hby : i.bytes = by_ := by
        obtain ⟨i', hi', hs'⟩ := bytesT_info hb
        rw [hi] at hi'; cases hi'; exact hs'
      have hzl2 := cvC_length hzc
      have hzsz : zv.cells.size = sz := by simp at hzl2; omega
      have e1 := cv_int (opr_sound S hA hp hg)
      have e2 := cv_int (opr_sound S hA hq hg')
      have w1 : IntKind.i64.wrap (Int.ofNat l) = Int.ofNat l := wrap_nat .i64 l (by simp only [kindTop]; omega)
      have w2 : IntKind.i64.wrap (Int.ofNat c) = Int.ofNat c := wrap_nat .i64 c (by simp only [kindTop]; omega)
      obtain ⟨hn1, hn2⟩ := newRow_sound (R := []) S e false 0 (repL_cv hzc c) (by simp)
      refine ⟨_, .slice (some ⟨w.heap.size, 0, none⟩) l c, _, .new S.fresh, hn2, by simp [cv, add_new], .inl ?_⟩
      simp only [List.append_nil] at hn1
      have c1 : ¬ ((Int.ofNat c : Int) < 0) := by simp
      have c2 : ¬ ((i.bytes : Int) * (Int.ofNat c) > 2 ^ 48) := by
        have : (i.bytes : Int) * (Int.ofNat c) = ((c * by_ : Nat) : Int) := by rw [hby]; simp [Int.mul_comm]
        rw [this]; omega
      have c3 : ¬ ((Int.ofNat l : Int) < 0) := by simp
      have c4 : ¬ ((Int.ofNat l : Int) > Int.ofNat c) := by simp; omega
      have c5 : ¬ (c * i.bytes > roomBytes) := by rw [hby]; simp only [roomBytes]; omega
      have hcells : ((Array.range (c * sz)).map (fun i => zv.cells[i % zv.cells.size]!)) = (List.map (fun i => zv.cells.toList.toArray[i % zv.cells.toList.toArray.size]!) (List.range (c * zv.cells.toList.length))).toArray := by
        apply Array.ext'
        simp [hzsz]
      have c2' : ¬ (281474976710656 < (i.bytes : Int) * (c : Int)) := by
        have := c2
        simp only [Int.ofNat_eq_natCast] at this
        omega
      have c4' : ¬ ((c : Int) < (l : Int)) := by omega
      by_cases h0 : c * sz = 0
      · have hcells0 : (List.map (fun i => zv.cells.toList.toArray[i % zv.cells.toList.toArray.size]!) (List.range (c * zv.cells.toList.length))).toArray = #[] := by
          simp [hzsz, h0]
        have hr0 : Array.map (fun _ : Nat => (default : Value)) (Array.range 0) = #[] := by simp
        rw [hcells0] at hn1
        simp only [Instr.makeSlice, e1, e2, asInt, asIntOf, Sem.run_bind, run_underlying hut, Sem.run_pure, Result.andThen_ok, typeInfo, w1, w2, c1, c2, c3, c4, decide_false, Bool.or_false, Bool.false_or]
        simp [hi, c5, askRoom, sizeOf, typeInfo, hsz, h0, hcells0, c2', c4', hr0, hn1, h1]
        simp [hzsz, h0]
      · rw [← hcells] at hn1
        rw [List.append_nil, ← hcells]
        simp only [Instr.makeSlice, e1, e2, asInt, asIntOf, Sem.run_bind, run_underlying hut, Sem.run_pure, Result.andThen_ok, typeInfo, w1, w2, c1, c2, c3, c4, decide_false, Bool.or_false, Bool.false_or]
        simp [hi, c5, askRoom, sizeOf, typeInfo, hsz, h0, c2', c4', hn1, h1, zeroValue, hzv]
    · cases hr
  · cases hr

theorem st_sound (S : HSim P W0 E h w) (hA : ASim E n vm a x) {t : TypeId} {m : Nat} {p q : Operand} {xp xq : XO} (hs : szT P t = some m) (hp : cO vm p = some xp) (hq : cO vm q = some xq) {v : AV} {h' : H}
    (hr : rSt m xp xq a h = .val v h') : OpOk P W0 E h w (do Instr.storeAt t (x.eval p) (x.eval q); pure .skip) v h' := by
  unfold rSt at hr
  split at hr
  · rename_i b off hg
    split at hr
    · rename_i y hy
      split at hr
      · rename_i h'' hst
        cases hr
        obtain ⟨e, he, heq⟩ := cv_ptr (opr_sound S hA hp hg)
        obtain ⟨w', hrun, hsim⟩ := store_sound S he hs (opr_sound S hA hq hy) hst
        refine ⟨E, undef, w', ?_, hsim, by simp [AV.undef, cv, cvL, undef], .inr ⟨rfl, by simp [Instr.storeAt, heq, Instr.sureAddr, hrun]⟩⟩
        unfold storeAt at hst
        split at hst
        · split at hst
          · split at hst
            · split at hst
              · cases hst; exact .put he
              · cases hst
            · cases hst
          · cases hst
        · cases hst
      · cases hr
    · cases hr
  · cases hr

/-! append -/
/-- a block moves: it is dead, a new one lies in its place -/
theorem HSim.move (S : HSim P W0 E h w) {b : Nat} {e e' : Loc} {y y' : Blk} {o' : Obj} {w' : World} (hb : E b = some e) (hy : h.get b = some y) (hyw : y.wr = true) (hrb : e'.rb = e.rb)
    (hyw' : y'.wr = true) (ho' : ∀ E', (∀ c f, E c = some f → E' c = some f) → BlkOk P E' e' o' y') (hsz : w'.heap.size = w.heap.size) (hat : w'.heap[e.rb]? = some o')
    (hoth : ∀ k, k ≠ e.rb → w'.heap[k]? = w.heap[k]?) (hos : w'.os = w.os) (hout : w'.output = w.output) : HSim P W0 (E.add h.next e') ((h.put b .dead).new y') w' := by
  have hown := S.own b e y hb hy hyw
  have hf := S.fresh
  have hup := Env.add_up (e := e') hf
  have hnb : b < h.next := S.dom b e hb
  have hget : ∀ c z, ((h.put b .dead).new y').get c = some z → (c = h.next ∧ z = y') ∨ (c ≠ h.next ∧ c = b ∧ z = .dead) ∨ (c ≠ h.next ∧ c ≠ b ∧ h.get c = some z) := by
    intro c z hc
    rw [H.get_new] at hc
    split at hc
    · rename_i hcn; cases hc; exact .inl ⟨hcn, rfl⟩
    · rename_i hcn
      have hcn' : c ≠ h.next := hcn
      rw [H.get_put] at hc
      split at hc
      · rename_i hcb; cases hc; exact .inr (.inl ⟨hcn', hcb, rfl⟩)
      · rename_i hcb; exact .inr (.inr ⟨hcn', hcb, hc⟩)
  have hE : ∀ c f, (E.add h.next e') c = some f → (c = h.next ∧ f = e') ∨ (c ≠ h.next ∧ E c = some f) := by
    intro c f hc
    unfold Env.add at hc
    split at hc
    · cases hc; exact .inl ⟨by assumption, rfl⟩
    · exact .inr ⟨by assumption, hc⟩
  have hrbw : ∀ c f z, c ≠ b → E c = some f → h.get c = some z → z.wr = true → f.rb ≠ e.rb := fun c f z hcb hc hz hzw hrb' => hcb (S.inj c b f e z y hc hb hz hy hzw hyw hrb')
  refine ⟨by rw [hsz]; exact S.size, ?_, by rw [hos, S.os], by rw [hout, S.out], by rw [H.next_new]; have := S.low; show 64 ≤ h.next + 1; omega, fun g hg => hup g _ (S.glob g hg), ?_, ?_, ?_, ?_, ?_, ?_⟩
  · intro r hr
    rw [hoth r (by omega)]
    exact S.base r hr
  · intro c f hc
    rw [H.next_new]
    show c < h.next + 1
    rcases hE c f hc with ⟨rfl, -⟩ | ⟨-, hc'⟩
    · omega
    · have := S.dom c f hc'; omega
  · intro c hc
    rw [H.next_new] at hc
    have hc' : h.next + 1 ≤ c := hc
    have hcn : c ≠ (h.put b .dead).next := by show c ≠ h.next; omega
    rw [H.get_new, if_neg hcn, H.get_put, if_neg (by omega)]
    exact S.top c (by omega)
  · intro c f z hc hz
    rcases hget c z hz with ⟨rfl, rfl⟩ | ⟨hcn, rfl, rfl⟩ | ⟨hcn, hcb, hz'⟩
    · rcases hE _ f hc with ⟨-, rfl⟩ | ⟨hne, -⟩
      · exact ⟨o', by rw [hrb]; exact hat, ho' _ hup⟩
      · exact absurd rfl hne
    · rcases hE _ f hc with ⟨hne, -⟩ | ⟨-, hc'⟩
      · exact absurd hne hcn
      · rw [hb] at hc'; cases hc'
        exact ⟨o', hat, trivial⟩
    · rcases hE _ f hc with ⟨hne, -⟩ | ⟨-, hc'⟩
      · exact absurd hne hcn
      · obtain ⟨o, ho, hok⟩ := S.blk c f z hc' hz'
        by_cases hfe : f.rb = e.rb
        · cases z with
          | cells cs el tl ro =>
            cases ro with
            | false => exact absurd hfe (hrbw c f _ hcb hc' hz' rfl)
            | true => have := S.ronly c f cs el tl hc' hz'; omega
          | dead => exact ⟨o', by rw [hfe]; exact hat, trivial⟩
          | map es cl => exact absurd hfe (hrbw c f _ hcb hc' hz' rfl)
          | siter l c' p => exact absurd hfe (hrbw c f _ hcb hc' hz' rfl)
          | loop st pend vars vm n ps asg body d => exact absurd hfe (hrbw c f _ hcb hc' hz' rfl)
          | deferred fr => exact absurd hfe (hrbw c f _ hcb hc' hz' rfl)
          | mapU es fin => exact absurd hfe (hrbw c f _ hcb hc' hz' rfl)
        · exact ⟨o, by rw [hoth _ hfe]; exact ho, hok.up hup⟩
  · intro c f z hc hz hw
    rcases hget c z hz with ⟨rfl, rfl⟩ | ⟨hcn, rfl, rfl⟩ | ⟨hcn, hcb, hz'⟩
    · rcases hE _ f hc with ⟨-, rfl⟩ | ⟨hne, -⟩
      · rw [hrb]; exact hown
      · exact absurd rfl hne
    · cases hw
    · rcases hE _ f hc with ⟨hne, -⟩ | ⟨-, hc'⟩
      · exact absurd hne hcn
      · exact S.own c f z hc' hz' hw
  · intro c f cs el tl hc hz
    rcases hget c _ hz with ⟨rfl, hzz⟩ | ⟨hcn, rfl, hzz⟩ | ⟨hcn, hcb, hz'⟩
    · rw [← hzz] at hyw'; simp [Blk.wr] at hyw'
    · cases hzz
    · rcases hE _ f hc with ⟨hne, -⟩ | ⟨-, hc'⟩
      · exact absurd hne hcn
      · exact S.ronly c f cs el tl hc' hz'
  · intro c d f g z z' hc hd hz hz' hzw hzw' hfg
    rcases hget c z hz with ⟨rfl, rfl⟩ | ⟨hcn, rfl, rfl⟩ | ⟨hcn, hcb, hz1⟩
    · rcases hget d z' hz' with ⟨rfl, rfl⟩ | ⟨hdn, rfl, rfl⟩ | ⟨hdn, hdb, hz2⟩
      · rfl
      · cases hzw'
      · rcases hE _ f hc with ⟨-, rfl⟩ | ⟨hne, -⟩
        · rcases hE _ g hd with ⟨hne, -⟩ | ⟨-, hd'⟩
          · exact absurd hne hdn
          · exact absurd (by rw [← hfg, hrb]) (hrbw d g z' hdb hd' hz2 hzw')
        · exact absurd rfl hne
    · cases hzw
    · rcases hE _ f hc with ⟨hne, -⟩ | ⟨-, hc'⟩
      · exact absurd hne hcn
      · rcases hget d z' hz' with ⟨rfl, rfl⟩ | ⟨hdn, rfl, rfl⟩ | ⟨hdn, hdb, hz2⟩
        · rcases hE _ g hd with ⟨-, rfl⟩ | ⟨hne, -⟩
          · exact absurd (by rw [hfg, hrb]) (hrbw c f z hcb hc' hz1 hzw)
          · exact absurd rfl hne
        · cases hzw'
        · rcases hE _ g hd with ⟨hne, -⟩ | ⟨-, hd'⟩
          · exact absurd hne hdn
          · exact S.inj c d f g z z' hc' hd' hz1 hz2 hzw hzw' hfg

/-- what is appended -/
theorem srcCells_sound (S : HSim P W0 E h w) {sz k : Nat} {y : AV} {new : List AV} {u : Value} (hu : cv E y = some u) (hs : srcCells h sz y = some (k, new)) :
    ∃ news, cvC E new = some news ∧ new.length = k * sz ∧ (Builtin.lenOf u).run P w = .ok k w ∧ (∀ w' : World, w'.heap = w.heap → (Builtin.firstCells sz k u).run P w' = .ok news.toArray w') := by
  unfold srcCells at hs
  split at hs
  · cases hs
    simp only [cv, Option.some.injEq] at hu
    subst hu
    exact ⟨[], by simp [cvC], by simp, by simp [Builtin.lenOf], fun w' _ => by simp [Builtin.firstCells]⟩
  · rename_i b off m cap ex
    split at hs
    · rename_i cs el tl ro hg
      split at hs
      · rename_i l hl
        split at hs
        · rename_i r hr
          cases hs
          obtain ⟨e, he, rfl⟩ := cv_slice hu
          obtain ⟨C, el', fz, hC, -, -, hcells, -⟩ := S.cells he hg
          obtain ⟨vs, hvs, hlen, hj⟩ := hcells.part hl hr
          have hlen' := cvC_length hvs
          refine ⟨vs, hvs, by rw [← hlen', hlen]; rfl, by simp [Builtin.lenOf], fun w' hw' => ?_⟩
          refine run_firstCells_some (P := P) w' sz k ⟨e.rb, e.ro + off, none⟩ _ _ vs hlen (fun j v hv => ?_)
          rw [Addr.add_lit, cell_of (by rw [hw']; exact hC)]
          exact hj j v hv
        · cases hs
      · cases hs
    · cases hs
  · rename_i m c
    split at hs
    · rename_i hb
      cases hs
      have hsz := Nat.eq_of_beq_eq_true hb
      subst hsz
      cases cv_str hu
      refine ⟨(bytesOf k c).map fun b => Value.int .u8 (b.toNat : Int), ?_, by simp [bytesOf_length], by simp [Builtin.lenOf, strB_size], fun w' _ => ?_⟩
      · refine cvC_of_get _ _ (by simp) ?_
        intro i v hi
        simp only [List.getElem?_map, Option.map_eq_some_iff] at hi
        obtain ⟨b, hb, rfl⟩ := hi
        exact ⟨rfl, .int .u8 (b.toNat : Int), cv_mk, by simp [hb]⟩
      · simp only [Builtin.firstCells, Sem.run_pure, Result.ok.injEq, and_true]
        have : (strB k c).extract 0 k = strB k c := by
          rw [strB_extract k c 0 k (by omega) (Nat.le_refl _)]
          simp only [Nat.pow_zero, Nat.div_one, Nat.sub_zero]
          unfold strB
          rw [bytesOf_mod]
        rw [this]
        simp [strB]
    · cases hs
  · cases hs

theorem zeroCells_length {zv : Value} {sz : Nat} (hz : zv.cells.size = sz) (m : Nat) : (Builtin.zeroCells zv.cells m).toList.length = m * sz := by
  simp [Builtin.zeroCells, hz]

/-- the arm that grows -/
theorem app_grow (S : HSim P W0 E h w) {t u ty e : TypeId} {d : TypeDesc} {i : TypeInfo} {zv : Value} {sz sLen sCap k : Nat} {base : Option Addr} {old new : List AV} {olds news : List Value} {y : Value}
    (ht : P.underlying t = some (.slice e)) (hd : P.underlying u = some d) (hdd : (∃ e', d = .slice e') ∨ d = .string) (hi : P.info? e = some i) (hsz : i.size = sz) (hz : i.zero = some zv) (hzs : zv.cells.size = sz)
    (hlen : (Builtin.lenOf y).run P w = .ok k w) (hnew : ∀ w' : World, w'.heap = w.heap → (Builtin.firstCells sz k y).run P w' = .ok news.toArray w')
    (hold : ∀ w' : World, w'.heap = w.heap → (Builtin.firstCells sz sLen (.slice base sLen sCap)).run P w' = .ok olds.toArray w')
    (hco : cvC E old = some olds) (hcn : cvC E new = some news) (hg : sCap < sLen + k) (h1 : (sLen + k) * i.bytes < 1000000000) (h2 : sLen + k < 1000000000) :
    ∃ ex w', (Builtin.append_ #[t, u] ty #[.slice base sLen sCap, y]).run P w = .ok (.slice (some ⟨w.heap.size, 0, none⟩) (sLen + k) (sLen + k + ex)) w' ∧
      HSim P W0 (E.add h.next ⟨w.heap.size, 0, ex, none⟩) (h.new (.cells (old ++ new) e true false)) w' := by
  have hge := grownCap_ge w (sLen + k) sCap e
  have hfit : ¬ (281474976710656 < Builtin.nextslicecap (sLen + k) sCap * i.bytes) := by
    have := growslice_fits hg (bytes := i.bytes) (by omega)
    omega
  have h63 : ¬ (9223372036854775807 < ((sLen : Int) + (k : Int))) := by omega
  have hn : ¬ (sLen + k ≤ sCap) := by omega
  have hszT : szT P e = some sz := by simp [szT, hi, hsz]
  obtain ⟨hr, hs⟩ := newRow_sound (R := (Builtin.zeroCells zv.cells (grownCap w (sLen + k) sCap e - (sLen + k))).toList) (S.world (w' := w.drew) rfl rfl rfl) e true (grownCap w (sLen + k) sCap e - (sLen + k)) (cvC_append hco hcn)
    (fun _ => ⟨sz, hszT, zeroCells_length hzs _⟩)
  refine ⟨_, _, ?_, hs⟩
  have hcap : sLen + k + (grownCap w (sLen + k) sCap e - (sLen + k)) = grownCap w (sLen + k) sCap e := by omega
  rw [hcap]
  have hnew' := hnew w.drew rfl
  have hold' := hold w.drew rfl
  have hrow : (olds ++ news ++ (Builtin.zeroCells zv.cells (grownCap w (sLen + k) sCap e - (sLen + k))).toList).toArray = olds.toArray ++ news.toArray ++ Builtin.zeroCells zv.cells (grownCap w (sLen + k) sCap e - (sLen + k)) := by
    apply Array.ext'; simp
  rw [hrow] at hr ⊢
  have hr2 := hr
  rw [Array.append_assoc] at hr2
  simp only [grownCap] at hr2
  rcases hdd with ⟨e', rfl⟩ | rfl
  · simp [Builtin.append_, run_underlying ht, run_underlying hd, sizeOf, typeInfo, zeroValue, hi, hz, hsz, hlen, hn, h63, hfit, Question.forced, hnew', hold', grownCap, askRoom]
    rw [hr2]
    simp
    refine congrArg (fun c => w.drew.heap.push (Obj.cells c e)) ?_
    apply Array.ext'
    simp
  · simp [Builtin.append_, run_underlying ht, run_underlying hd, sizeOf, typeInfo, zeroValue, hi, hz, hsz, hlen, hn, h63, hfit, Question.forced, hnew', hold', grownCap, askRoom]
    rw [hr2]
    simp
    refine congrArg (fun c => w.drew.heap.push (Obj.cells c e)) ?_
    apply Array.ext'
    simp

/-- the arm with room -/
theorem app_room {t u ty e : TypeId} {d : TypeDesc} {i : TypeInfo} {sz sLen sCap k : Nat} {ad : Addr} {news : List Value} {y : Value} {w' : World}
    (ht : P.underlying t = some (.slice e)) (hd : P.underlying u = some d) (hdd : (∃ e', d = .slice e') ∨ d = .string) (hi : P.info? e = some i) (hsz : i.size = sz)
    (hlen : (Builtin.lenOf y).run P w = .ok k w) (hnew : (Builtin.firstCells sz k y).run P w = .ok news.toArray w) (hg : sLen + k ≤ sCap)
    (hst : (storeCells (ad.add (sLen * sz)) news).run P w = .ok () w') :
    (Builtin.append_ #[t, u] ty #[.slice (some ad) sLen sCap, y]).run P w = .ok (.slice (some ad) (sLen + k) sCap) w' := by
  rcases hdd with ⟨e', rfl⟩ | rfl
  · simp [Builtin.append_, run_underlying ht, run_underlying hd, sizeOf, typeInfo, hi, hsz, hlen, hg, hnew, hst]
  · simp [Builtin.append_, run_underlying ht, run_underlying hd, sizeOf, typeInfo, hi, hsz, hlen, hg, hnew, hst]

theorem app_nil {t u ty e : TypeId} {d : TypeDesc} {i : TypeInfo} {sz : Nat} {news : List Value} {y : Value}
    (ht : P.underlying t = some (.slice e)) (hd : P.underlying u = some d) (hdd : (∃ e', d = .slice e') ∨ d = .string) (hi : P.info? e = some i) (hsz : i.size = sz)
    (hlen : (Builtin.lenOf y).run P w = .ok 0 w) (hnew : (Builtin.firstCells sz 0 y).run P w = .ok news.toArray w) :
    (Builtin.append_ #[t, u] ty #[.slice none 0 0, y]).run P w = .ok (.slice none 0 0) w := by
  rcases hdd with ⟨e', rfl⟩ | rfl
  · simp [Builtin.append_, run_underlying ht, run_underlying hd, sizeOf, typeInfo, hi, hsz, hlen, hnew]
  · simp [Builtin.append_, run_underlying ht, run_underlying hd, sizeOf, typeInfo, hi, hsz, hlen, hnew]

theorem append_sound (S : HSim P W0 E h w) {t u ty e : TypeId} {d : TypeDesc} {sz by_ : Nat} {z : List AV} (ht : P.underlying t = some (.slice e)) (hd : P.underlying u = some d) (hdd : (∃ e', d = .slice e') ∨ d = .string)
    (hs : szT P e = some sz) (hb : bytesT P e = some by_) (hz : zeroC P e = some z) {s y v : AV} {sv yv : Value} {h' : H} (hsv : cv E s = some sv) (hyv : cv E y = some yv) (hr : evAppend e sz by_ h s y = some (v, h')) :
    OpOk P W0 E h w (do pure (.value (← Builtin.append_ #[t, u] ty #[sv, yv]))) v h' := by
  obtain ⟨i, zv, hi, hzv, hzc, hzl⟩ := zeroC_run (E := E) hz
  have hsz : i.size = sz := by
    obtain ⟨i', hi', hs'⟩ := szT_info hs
    rw [hi] at hi'; cases hi'; exact hs'
  have hby : i.bytes = by_ := by
    obtain ⟨i', hi', hs'⟩ := bytesT_info hb
    rw [hi] at hi'; cases hi'; exact hs'
  have hzl2 := cvC_length hzc
  have hzsz : zv.cells.size = sz := by simp at hzl2; omega
  unfold evAppend at hr
  split at hr
  · rename_i k new hsrc
    obtain ⟨news, hcn, hnl, hlen, hfirst⟩ := srcCells_sound S hyv hsrc
    split at hr
    · simp only [cv, Option.some.injEq] at hsv
      subst hsv
      split at hr
      · cases hr
        refine ⟨E, .slice none 0 0, w, .refl _ _, S, by simp [cv], .inl ?_⟩
        simp [app_nil ht hd hdd hi hsz hlen (hfirst w rfl)]
      · rename_i hk0
        split at hr
        · rename_i hbd
          cases hr
          simp only [Bool.and_eq_true] at hbd
          have hb1 : k * by_ < 1000000000 := blt_lt hbd.1
          have hb2 : k < 1000000000 := blt_lt hbd.2
          obtain ⟨ex, w', hrun, hsim⟩ := app_grow S (old := []) (olds := []) (base := none) (sLen := 0) (sCap := 0) (ty := ty) ht hd hdd hi hsz hzv hzsz hlen hfirst (fun w' _ => by simp [Builtin.firstCells]) (by simp [cvC]) hcn
            (by have : k ≠ 0 := hk0; omega) (by rw [hby]; simpa using hb1) (by omega)
          simp only [List.nil_append, Nat.zero_add] at hrun hsim
          refine ⟨_, _, w', .new S.fresh, hsim, by simp only [cv, add_new]; rfl, .inl ?_⟩
          simp [hrun]
        · cases hr
    · rename_i b off len cap ex
      obtain ⟨e1, he1, rfl⟩ := cv_slice hsv
      split at hr
      · rename_i cs be tail hg
        obtain ⟨C, fz, hC, hfz, hCs, hcells, htl⟩ := S.cellsW he1 hg
        split at hr
        · rename_i hroom
          have hroom' : len + k ≤ cap := Nat.le_of_ble_eq_true hroom
          split at hr
          · rename_i l hl
            cases hr
            obtain ⟨w', hst, hsim⟩ := writeCells_sound S he1 hg hcn hl
            refine ⟨E, .slice (some ⟨e1.rb, e1.ro + off, none⟩) (len + k) (if ex then cap else cap + e1.ex), w', .put he1, hsim, by simp [cv, he1], .inl ?_⟩
            have hst' : (storeCells ((⟨e1.rb, e1.ro + off, none⟩ : Addr).add (len * sz)) news).run P w = .ok () w' := by
              rw [Addr.add_lit, Nat.add_assoc]; exact hst
            simp [app_room (sCap := if ex then cap else cap + e1.ex) ht hd hdd hi hsz hlen (hfirst w rfl) (by split <;> omega) hst']
          · cases hr
        · rename_i hroom
          have hroom' : ¬ (len + k ≤ cap) := fun hle => by
            have hbb : Nat.ble (Nat.add len k) cap = true := Nat.ble_eq_true_of_le hle
            rw [hbb] at hroom; cases hroom
          split at hr
          · rename_i l hdl
            split at hr
            · rename_i old htk
              obtain ⟨olds, hco, hol, hoj⟩ := hcells.part hdl htk
              have hol' := cvC_length hco
              have hfo : ∀ w' : World, w'.heap = w.heap → ∀ c, (Builtin.firstCells sz len (.slice (some ⟨e1.rb, e1.ro + off, none⟩) len c)).run P w' = .ok olds.toArray w' := by
                intro w' hw' c
                refine run_firstCells_some (P := P) w' sz len _ _ _ olds hol (fun j v hv => ?_)
                rw [Addr.add_lit, cell_of (by rw [hw']; exact hC)]
                exact hoj j v hv
              split at hr
              · rename_i hbd
                simp only [Bool.and_eq_true] at hbd
                have hb1 : (len + k) * by_ < 1000000000 := blt_lt hbd.1
                have hb2 : len + k < 1000000000 := blt_lt hbd.2
                split at hr
                · cases hr
                  obtain ⟨ex', w', hrun, hsim⟩ := app_grow S (base := some ⟨e1.rb, e1.ro + off, none⟩) (sLen := len) (sCap := cap) (ty := ty) ht hd hdd hi hsz hzv hzsz hlen hfirst (fun w' hw' => hfo w' hw' cap) hco hcn
                    (by omega) (by rw [hby]; exact hb1) hb2
                  refine ⟨_, _, w', .new S.fresh, hsim, by simp only [cv, add_new]; rfl, .inl ?_⟩
                  simp [hrun]
                · split at hr
                  · rename_i htail
                    cases hr
                    simp only [Bool.and_eq_true] at htail
                    obtain ⟨⟨ht1, ht2⟩, ht3⟩ := htail
                    have ht2 := Nat.eq_of_beq_eq_true ht2
                    have ht3 := Nat.eq_of_beq_eq_true ht3
                    rw [lenL_eq] at ht2
                    subst ht3
                    have ht2' : off + cap * sz = cs.length := ht2
                    obtain ⟨m, hm, hCsz⟩ := htl ht1
                    rw [hs] at hm
                    cases hm
                    have hfz' := hfz rfl
                    subst hfz'
                    by_cases hfit : len + k ≤ cap + e1.ex
                    · -- in place
                      have hnl' := cvC_length hcn
                      have hmul : (len + k) * sz ≤ (cap + e1.ex) * sz := Nat.mul_le_mul_right _ hfit
                      rw [Nat.add_mul, Nat.add_mul] at hmul
                      have hlt : e1.ro + off + len * sz + news.length ≤ C.size := by
                        rw [hnl', hnl, hCsz]; omega
                      have hst := run_storeCells_at P e1.rb (e1.ro + off + len * sz) be news 0 C w hC (by omega) (cvC_oneCell hcn)
                      have hst' := hst
                      rw [← Addr.add_lit e1.rb (e1.ro + off) (len * sz)] at hst'
                      have holn : old.length = len * sz := by rw [← hol', hol]; rfl
                      refine ⟨E.add h.next ⟨e1.rb, e1.ro + off, cap + e1.ex - (len + k), none⟩, .slice (some ⟨e1.rb, e1.ro + off, none⟩) (len + k) (cap + e1.ex),
                        w.setRow e1.rb (List.take (e1.ro + off + len * sz + 0) C.toList ++ news ++ List.drop (e1.ro + off + len * sz + 0 + news.length) C.toList).toArray, ?_, ?_, ?_, .inl ?_⟩
                      rotate_left 3
                      · simp only [Bool.false_eq_true, if_false]
                        simp [app_room (sCap := cap + e1.ex) ht hd hdd hi hsz hlen (hfirst w rfl) hfit hst']
                      · exact (Trans.put he1).trans (Trans.new (h := h.put b .dead) S.fresh)
                      · refine S.move he1 hg rfl rfl rfl ?_ (by simp) (setRow_heap w e1.rb C _ be _ hC) (fun k hk => setRow_other w e1.rb k _ hk) rfl rfl
                        intro E' hE'
                        refine ⟨_, _, (0, 0), rfl, fun _ => ⟨rfl, rfl⟩, ?_, ?_, ?_⟩
                        · simp only [List.size_toArray, List.length_append, List.length_take, List.length_drop, Array.length_toList, hnl', hnl, holn]
                          rw [hnl', hnl] at hlt
                          omega
                        · intro j v hv
                          have hlt2 := hlt
                          rw [hnl', hnl] at hlt2
                          have eA : (C.toList.take (e1.ro + off + len * sz + 0)).length = e1.ro + off + len * sz := by simp; omega
                          by_cases hjo : j < old.length
                          · rw [List.getElem?_append_left hjo] at hv
                            obtain ⟨hone, uu, huu, huu'⟩ := cvC_get hco j v hv
                            refine ⟨hone, uu, cv_up hE' v uu huu, ?_⟩
                            show (List.toArray _)[e1.ro + off + j]? = some uu
                            have := hoj j uu huu'
                            rw [List.getElem?_toArray, List.append_assoc, List.getElem?_append_left (by omega), List.getElem?_take, if_pos (by omega)]
                            simpa using this
                          · rw [List.getElem?_append_right (by omega)] at hv
                            obtain ⟨hone, uu, huu, huu'⟩ := cvC_get hcn _ v hv
                            refine ⟨hone, uu, cv_up hE' v uu huu, ?_⟩
                            show (List.toArray _)[e1.ro + off + j]? = some uu
                            have hjn : j - old.length < news.length := (List.getElem?_eq_some_iff.1 huu').1
                            rw [List.getElem?_toArray, List.append_assoc, List.getElem?_append_right (by omega), eA, List.getElem?_append_left (by omega)]
                            have : e1.ro + off + j - (e1.ro + off + len * sz) = j - old.length := by omega
                            rw [this]
                            exact huu'
                        · intro _
                          refine ⟨sz, hs, ?_⟩
                          rw [hnl', hnl] at hlt
                          simp only [List.size_toArray, List.length_append, List.length_take, List.length_drop, Array.length_toList, hnl', hnl, holn]
                          have hsub : (cap + e1.ex - (len + k)) * sz = (cap + e1.ex) * sz - (len + k) * sz := Nat.sub_mul _ _ _
                          rw [hsub, Nat.add_mul, Nat.add_mul]
                          omega
                      · simp only [cv, add_new]
                        simp
                        omega
                    · -- a new array
                      have S' : HSim P W0 E (h.put b .dead) w := S.write he1 hg rfl (by simp) (x' := .dead) (o' := .cells C be (0, 0)) trivial rfl hC (fun _ _ => rfl) rfl rfl
                      obtain ⟨ex', w', hrun, hsim⟩ := app_grow S' (base := some ⟨e1.rb, e1.ro + off, none⟩) (sLen := len) (sCap := cap + e1.ex) (ty := ty) ht hd hdd hi hsz hzv hzsz hlen hfirst (fun w' hw' => hfo w' hw' _) hco hcn
                        (by omega) (by rw [hby]; exact hb1) hb2
                      refine ⟨_, .slice (some ⟨w.heap.size, 0, none⟩) (len + k) (len + k + ex'), w', (Trans.put he1).trans (Trans.new (h := h.put b .dead) S.fresh), hsim, ?_, .inl ?_⟩
                      · show cv (E.add h.next _) _ = _
                        simp only [cv, add_new]
                        rfl
                      · simp only [Bool.false_eq_true, if_false]
                        simp [hrun]
                  · cases hr
              · cases hr
            · cases hr
          · cases hr
      · cases hr
    · cases hr
  · cases hr

theorem app_sound (S : HSim P W0 E h w) (hA : ASim E n vm a x) {t u ty e : TypeId} {sz by_ : Nat} {z : List AV} {p q : Operand} {xp xq : XO} (he : elemT P t = some e) (hu : appT P u = true)
    (hs : szT P e = some sz) (hb : bytesT P e = some by_) (hz : zeroC P e = some z) (hp : cO vm p = some xp) (hq : cO vm q = some xq) {v : AV} {h' : H} (hr : rApp e sz by_ xp xq a h = .val v h') :
    OpOk P W0 E h w (do pure (.value (← Builtin.append_ #[t, u] ty #[x.eval p, x.eval q]))) v h' := by
  have hdd : ∃ d, P.underlying u = some d ∧ ((∃ e', d = .slice e') ∨ d = .string) := by
    unfold appT at hu
    split at hu
    · rename_i e' hd; exact ⟨_, hd, .inl ⟨_, rfl⟩⟩
    · rename_i hd; exact ⟨_, hd, .inr rfl⟩
    · cases hu
  obtain ⟨d, hd, hdd⟩ := hdd
  unfold rApp at hr
  split at hr
  · rename_i s y hg hg'
    split at hr
    · rename_i r h'' hap
      cases hr
      exact append_sound S (elemT_under he) hd hdd hs hb hz (opr_sound S hA hp hg) (opr_sound S hA hq hg') hap
    · cases hr
  · cases hr

theorem appZ_run (S : HSim P W0 E h w) {t u ty e : TypeId} {i : TypeInfo} {zv : Value} {z : List AV} {sz k : Nat} (ht : P.underlying t = some (.slice e)) (hd : P.underlying u = some (.int .i64))
    (hi : P.info? e = some i) (hz : i.zero = some zv) (hzc : cvC E z = some zv.cells.toList) (hsz : i.size = sz) (hzs : zv.cells.size = sz) (h0 : 0 < k * sz) (h1 : k * i.bytes < 1000000000) (h2 : k < 1000000000) :
    ∃ ex w', (Builtin.append_ #[t, u] ty #[.slice none 0 0, .int .i64 (k : Int)]).run P w = .ok (.slice (some ⟨w.heap.size, 0, none⟩) k (k + ex)) w' ∧
      HSim P W0 (E.add h.next ⟨w.heap.size, 0, ex, none⟩) (h.new (.cells (repL k z) e true false)) w' := by
  have hk : 0 < k := Nat.pos_of_mul_pos_right h0
  have hge := grownCap_ge w k 0 e
  have hfit : ¬ (281474976710656 < Builtin.nextslicecap k 0 * i.bytes) := by
    have := growslice_fits hk (bytes := i.bytes) (by omega)
    omega
  have h63 : ¬ (9223372036854775807 < (k : Int)) := by omega
  have hn : ¬ (k ≤ 0) := by omega
  have hszT : szT P e = some sz := by simp [szT, hi, hsz]
  obtain ⟨hr, hs⟩ := newRow_sound (R := (Builtin.zeroCells zv.cells (grownCap w k 0 e - k)).toList) (S.world (w' := w.drew) rfl rfl rfl) e true (grownCap w k 0 e - k) (repL_cv hzc k)
    (fun _ => ⟨sz, hszT, zeroCells_length hzs _⟩)
  refine ⟨_, _, ?_, hs⟩
  have hcap : k + (grownCap w k 0 e - k) = grownCap w k 0 e := by omega
  rw [hcap]
  have w1 : IntKind.i64.wrap (k : Int) = (k : Int) := wrap_nat .i64 k (by simp only [kindTop]; omega)
  have c2 : ¬ (281474976710656 < (k : Int) * (i.bytes : Int)) := by
    have : (k : Int) * (i.bytes : Int) = ((k * i.bytes : Nat) : Int) := by simp
    rw [this]; omega
  have hrow : ∀ m : Nat, (List.map (fun i => zv.cells.toList.toArray[i % zv.cells.toList.toArray.size]!) (List.range (k * zv.cells.toList.length)) ++ (Builtin.zeroCells zv.cells m).toList).toArray = Builtin.zeroCells zv.cells k ++ Builtin.zeroCells zv.cells m := by
    intro m
    apply Array.ext'
    simp [Builtin.zeroCells]
  rw [hrow] at hr ⊢
  simp only [grownCap] at hr
  have hk0 : k ≠ 0 := by omega
  have hneg : ¬ ((k : Int) < 0) := by omega
  have hf : (Builtin.firstCells sz 0 (.slice none 0 0)).run P w.drew = .ok #[] w.drew := by simp [Builtin.firstCells]
  simp [Builtin.append_, run_underlying ht, run_underlying hd, sizeOf, typeInfo, zeroValue, hi, hz, hsz, hn, h63, hfit, Question.forced, grownCap, askRoom, asInt, asIntOf, w1, c2, Nat.ne_of_gt h0, hk0, hneg, hf]
  rw [hr]
  simp
theorem appZ_sound (S : HSim P W0 E h w) (hA : ASim E n vm a x) {t u ty e : TypeId} {sz by_ : Nat} {z : List AV} {p q : Operand} {xp xq : XO} (he : elemT P t = some e) (hu : P.underlying u = some (.int .i64))
    (hs : szT P e = some sz) (hb : bytesT P e = some by_) (hz : zeroC P e = some z) (hp : cO vm p = some xp) (hq : cO vm q = some xq) {v : AV} {h' : H} (hr : rAppZ e sz by_ z xp xq a h = .val v h') :
    OpOk P W0 E h w (do pure (.value (← Builtin.append_ #[t, u] ty #[x.eval p, x.eval q]))) v h' := by
  unfold rAppZ at hr
  split at hr
  · rename_i k hg hg'
    split at hr
    · rename_i hcond
      cases hr
      simp only [Bool.and_eq_true] at hcond
      obtain ⟨⟨h1, h2⟩, h3⟩ := hcond
      have h1 : 0 < k * sz := blt_lt h1
      have h2 : k * by_ < 1000000000 := blt_lt h2
      have h3 := blt_lt h3
      obtain ⟨i, zv, hi, hzv, hzc, hzl⟩ := zeroC_run (E := E) hz
      have hsz : i.size = sz := by
        obtain ⟨i', hi', hs'⟩ := szT_info hs
        rw [hi] at hi'; cases hi'; exact hs'
      have hby : i.bytes = by_ := by
        obtain ⟨i', hi', hs'⟩ := bytesT_info hb
        rw [hi] at hi'; cases hi'; exact hs'
      have hzl2 := cvC_length hzc
      have hzsz : zv.cells.size = sz := by simp at hzl2; omega
      have e1 := opr_sound S hA hp hg
      simp only [cv, Option.some.injEq] at e1
      have e2 := cv_int (opr_sound S hA hq hg')
      obtain ⟨ex, w', hrun, hsim⟩ := appZ_run S (ty := ty) (elemT_under he) hu hi hzv hzc hsz hzsz h1 (by rw [hby]; exact h2) (by omega)
      refine ⟨_, .slice (some ⟨w.heap.size, 0, none⟩) k (k + ex), w', .new S.fresh, hsim, by simp [cv, add_new], .inl ?_⟩
      rw [← e1, e2]
      have e3 : (Int.ofNat k : Int) = (k : Int) := rfl
      rw [e3, Sem.run_bind, hrun]
      rfl
    · cases hr
  · cases hr

/-! an entry of a map -/
theorem setK_sound {kty : TypeId} {k v : AV} {u z : Value} (L : KeyLaw P w kty E k u) (hk : cv E k = some u) (hv : cv E v = some z) :
    ∀ {es es' : List (AV × AV × Nat)} {xs : List MapEntry} {clock c' : Nat} (i : Nat), EntsOk E es xs → setK k v es clock = some (es', c') →
    (L.F xs i none ∧ c' = clock + 1 ∧ EntsOk E es' (xs ++ [{ key := u, val := z, born := clock }])) ∨
    (∃ j y e, L.F xs i (some (i + j, y)) ∧ xs[j]? = some e ∧ e.key = u ∧ c' = clock ∧ EntsOk E es' (xs.modify j fun e => { e with key := u, val := z }))
  | [], es', [], clock, c', i, _, hr => by
    simp only [setK, Option.some.injEq, Prod.mk.injEq] at hr
    obtain ⟨rfl, rfl⟩ := hr
    exact .inl ⟨L.nil i, rfl, hk, hv, rfl, trivial⟩
  | [], _, _ :: _, _, _, _, hh, _ => hh.elim
  | (_, _, _) :: _, _, [], _, _, _, hh, _ => hh.elim
  | (y, vv, b) :: es, es', e :: xs, clock, c', i, ⟨h1, h2, h3, h4⟩, hr => by
    simp only [setK] at hr
    split at hr
    · rename_i hq
      cases hr
      have hsame := L.cmp _ _ _ h1 hq
      have hkey : e.key = u := L.same _ hsame
      exact .inr ⟨0, e.val, e, L.hit e xs i hsame, rfl, hkey, rfl, by simpa [List.modify] using ⟨hk, hv, h3, h4⟩⟩
    · rename_i hq
      split at hr
      · rename_i r c2 hrec
        cases hr
        have hsame := L.cmp _ _ _ h1 hq
        rcases setK_sound L hk hv (i + 1) h4 hrec with ⟨hf, hc, hok⟩ | ⟨j, y', e', hf, hj, hke, hc, hok⟩
        · exact .inl ⟨L.miss e xs i _ hsame hf, hc, h1, h2, h3, hok⟩
        · refine .inr ⟨j + 1, y', e', L.miss e xs i _ hsame ?_, by simpa using hj, hke, hc, h1, h2, h3, hok⟩
          rw [show i + (j + 1) = i + 1 + j by omega]; exact hf
      · cases hr
    · cases hr

theorem upd_sound (S : HSim P W0 E h w) (hA : ASim E n vm a x) {t kty et : TypeId} {kt : KT} {m k v : Operand} {xm xk xv : XO} (ht : P.underlying t = some (.map kty et)) (hkt : keyT P kty = some kt)
    (hm : cO vm m = some xm) (hk : cO vm k = some xk) (hv : cO vm v = some xv) {r : AV} {h' : H} (hr : rUpd kt xm xk xv a h = .val r h') :
    OpOk P W0 E h w (do Instr.mapUpdate t (x.eval m) (x.eval k) (x.eval v); pure .skip) r h' := by
  unfold rUpd at hr
  split at hr
  · rename_i b key val hgm hgk hgv
    split at hr
    · rename_i es clock hpk hg
      split at hr
      · rename_i es' c' hset
        cases hr
        have hkv := opr_sound S hA hk hgk
        have hvv := opr_sound S hA hv hgv
        obtain ⟨L⟩ := keyLaw (w := w) (keyK_of hkt hpk) hkv
        obtain ⟨e, he, heq⟩ := cv_map (opr_sound S hA hm hgm)
        obtain ⟨o, ho, xs, rfl, hes⟩ := S.blk b e _ he hg
        have hck : (Instr.checkKey false 10000 kty (x.eval k)).run P w = .ok () w := L.chk false
        have hlt : e.rb < w.heap.size := by
          rcases Nat.lt_or_ge e.rb w.heap.size with h1 | h1
          · exact h1
          · rw [Array.getElem?_eq_none h1] at ho; cases ho
        have fin : ∀ (xs' : Array MapEntry), EntsOk E es' xs'.toList → HSim P W0 E (h.put b (.map es' c')) { w with heap := w.heap.setIfInBounds e.rb (.map xs' c') } := by
          intro xs' hxs'
          refine S.write he hg rfl (by simp) ⟨xs', rfl, hxs'⟩ (by simp) (by simp [hlt]) (fun k hk => by simp [Ne.symm hk]) rfl rfl
        rcases setK_sound L hkv hvv 0 hes hset with ⟨hf, rfl, hok⟩ | ⟨j, y, e', hf, hj, hke, rfl, hok⟩
        · have hf := L.fin _ _ hf
          refine ⟨E, undef, _, .put he, fin (xs.push { key := x.eval k, val := x.eval v, born := clock }) (by simpa using hok), by simp [AV.undef, cv, cvL, undef], .inr ⟨rfl, ?_⟩⟩
          simp [Instr.mapUpdate, run_underlying ht, heq, MapKept.run_getObj_map ho, hck, hf, MapKept.run_setObj_map _ ho]
        · have hf := L.fin _ _ hf
          have hmod : (xs.modify j fun e => { e with key := x.eval k, val := x.eval v }).toList = xs.toList.modify j fun e => { e with key := x.eval k, val := x.eval v } := by
            simp
          refine ⟨E, undef, _, .put he, fin (xs.modify j fun e => { e with key := x.eval k, val := x.eval v }) (by rw [hmod]; exact hok), by simp [AV.undef, cv, cvL, undef], .inr ⟨rfl, ?_⟩⟩
          have hj' : xs[j]? = some e' := by simpa using hj
          simp [Instr.mapUpdate, run_underlying ht, heq, MapKept.run_getObj_map ho, hck, hf, MapKept.run_setObj_map _ ho, hj', hke, Instr.keyThatStays, L.bits]
      · cases hr
    · cases hr
  · cases hr

theorem rngS_sound (S : HSim P W0 E h w) (hA : ASim E n vm a x) {t : TypeId} {p : Operand} {xp : XO} (ht : P.underlying t = some .string) (hp : cO vm p = some xp) {v : AV} {h' : H} (hr : rRngS xp a h = .val v h') :
    OpOk P W0 E h w (do pure (.value (← Instr.range t (x.eval p)))) v h' := by
  unfold rRngS at hr
  split at hr
  · rename_i l c hg
    cases hr
    have heq := cv_str (opr_sound S hA hp hg)
    have h2 := S.alloc 0 (x := .siter l c 0) (o := .stringIter (strB l c) 0) rfl (fun E' _ => ⟨rfl, rfl⟩)
    refine ⟨_, .pointer (some ⟨w.heap.size, 0, none⟩), _, .new S.fresh, h2, by simp [cv, add_new], .inl ?_⟩
    rw [heq]
    simp [Instr.range, run_underlying ht, newObj, Sem.run]
  · cases hr
theorem nextS_sound (S : HSim P W0 E h w) (hA : ASim E n vm a x) {ty : TypeId} {p : Operand} {xp : XO} (hp : cO vm p = some xp) {v : AV} {h' : H} (hr : rNextS xp a h = .val v h') :
    OpOk P W0 E h w (do pure (.value (← Instr.next (x.eval p) true ty))) v h' := by
  unfold rNextS at hr
  split at hr
  · rename_i b hg
    split at hr
    · rename_i l c pos hb
      obtain ⟨e, he, heq⟩ := cv_ptr (opr_sound S hA hp hg)
      obtain ⟨o, ho, rfl, hro⟩ := S.blk b e _ he hb
      rw [hro, Nat.add_zero] at heq
      have hlt : e.rb < w.heap.size := by
        rcases Nat.lt_or_ge e.rb w.heap.size with h1 | h1
        · exact h1
        · rw [Array.getElem?_eq_none h1] at ho; cases ho
      split at hr
      · rename_i hpos
        have hpos := blt_lt hpos
        split at hr
        · rename_i hm
          have hm := blt_lt hm
          simp only [frc_eq] at hr
          cases hr
          have h1 : pos < (strB l c).size := by rw [strB_size]; exact hpos
          have hbyte : ((strB l c)[pos]'h1).toNat = c / 256 ^ pos % 256 := by
            have h2 := bytesOf_get l c pos hpos
            have h3 : (bytesOf l c)[pos]'(by rw [bytesOf_length]; exact hpos) = UInt8.ofNat (c / 256 ^ pos % 256) := (List.getElem?_eq_some_iff.1 h2).2
            have h4 : (strB l c)[pos]'h1 = (bytesOf l c)[pos]'(by rw [bytesOf_length]; exact hpos) := rfl
            rw [h4, h3]
            simp
          have hdec := decode_ascii (strB l c) pos h1 (by rw [hbyte]; exact hm)
          refine ⟨E, .tuple #[.bool true, .int .i64 (pos : Int), .int .i32 ((c / 256 ^ pos % 256 : Nat) : Int)], { w with heap := w.heap.setIfInBounds e.rb (.stringIter (strB l c) (pos + 1)) }, .put he, ?_, ?_, .inl ?_⟩
          · exact S.write he hb rfl (by simp) ⟨rfl, hro⟩ (by simp) (by simp [hlt]) (fun k hk => by simp [Ne.symm hk]) rfl rfl
          · have e1 : cv E (.int .i64 (.ofNat pos)) = some (.int .i64 (pos : Int)) := cv_mk
            have e2 : cv E (.int .i32 (.ofNat (Nat.mod (Nat.div c (Nat.pow 256 pos)) 256))) = some (.int .i32 ((c / 256 ^ pos % 256 : Nat) : Int)) := cv_mk
            simp only [cv, cvL, e1, e2]
            have e1' := e1; have e2' := e2
            simp only [cv, Option.some.injEq, Value.int.injEq, true_and] at e1' e2'
            rw [e1', e2']
          · rw [heq]
            simp only [Instr.next, getObj, setObj, Sem.run_bind, Sem.run, ho, Result.andThen, h1, if_true, hdec, hbyte]
            simp [goInt]
        · cases hr
      · rename_i hpos
        cases hr
        have h1 : ¬ pos < (strB l c).size := by
          rw [strB_size]
          intro h2
          have : Nat.blt pos l = true := Nat.ble_eq_true_of_le h2
          rw [this] at hpos
          cases hpos
        refine ⟨E, .tuple #[.bool false], w, .refl _ _, S, by simp [cv, cvL], .inl ?_⟩
        rw [heq]
        simp [Instr.next, getObj, Sem.run, ho, h1]
    · cases hr
  · cases hr

end
end Go.Ev
