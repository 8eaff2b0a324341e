/- The abstract memory and the real one; loads, stores, new blocks. -/
import Derived.Test.YtbflihggpacblaaGreatDoorEvSim
import Derived.Laws.Cells
import Derived.Laws.CopyRow
import Derived.Laws.Tables
set_option linter.unusedVariables false
set_option linter.unusedSimpArgs false
namespace Go.Ev
set_option linter.unusedSectionVars false
variable [Sig]

def CellsAt (E : Env) (C : Array Value) (ro : Nat) (cs : List AV) : Prop :=
  ∀ (i : Nat) (v : AV), cs[i]? = some v → v.one = true ∧ ∃ u, cv E v = some u ∧ C[ro + i]? = some u

def EntsOk (E : Env) : List (AV × AV × Nat) → List MapEntry → Prop
  | [], [] => True
  | (k, v, b) :: es, x :: xs => cv E k = some x.key ∧ cv E v = some x.val ∧ x.born = b ∧ EntsOk E es xs
  | _, _ => False

/-- a plain key of that kind -/
def KeyOk (d : TypeDesc) (k : AV) : Prop := (∃ j, d = .int j ∧ ∃ i m, k = .int i m ∧ symB m = false) ∨ (d = .string ∧ ∃ l c, k = .str l c)
/-- what is found among the one's entries is found among the other's, whatever their order is -/
def LookOk (E : Env) (es : List (AV × AV × Nat)) (xs : List MapEntry) : Prop :=
  xs.length = es.length ∧ ∀ (d : TypeDesc) (k : AV) (u : Value) (r : Option AV), KeyOk d k → cv E k = some u → findK k es = some r →
    (r = none ∧ Instr.findNow d u xs 0 = some none) ∨ (∃ v j z, r = some v ∧ cv E v = some z ∧ Instr.findNow d u xs 0 = some (some (j, z)))

def VarsOk (E : Env) (vm : Nat) (vars : Tr AV) (tmps : Array Value) : Prop :=
  ∀ (t : Nat) (v : AV), bit vm t = true → vars.get t = some v → ∃ u, cv E v = some u ∧ tmps[t]? = some u

def BlkOk (P : Program) (E : Env) (e : Loc) (o : Obj) : Blk → Prop
  | .cells cs el tail ro => ∃ (C : Array Value) (el' : TypeId) (fz : Nat × Nat), o = .cells C el' fz ∧ (ro = false → el' = el ∧ fz = (0, 0)) ∧ e.ro + cs.length ≤ C.size ∧ CellsAt E C e.ro cs ∧
      (tail = true → ∃ n, szT P el = some n ∧ C.size = e.ro + cs.length + e.ex * n)
  | .map es clock => ∃ xs : Array MapEntry, o = .map xs clock ∧ EntsOk E es xs.toList
  | .siter l c pos => o = .stringIter (strB l c) pos ∧ e.ro = 0
  | .loop st pend vars vm n ps asg body d => ∃ L : Loop, o = .loop L ∧ L.state = st ∧ L.pending = pend ∧ L.tmps.size = n ∧ VarsOk E vm vars L.tmps ∧ L.params.toList = ps ∧
      L.assign = asg ∧ L.body = body ∧ ∃ e', E d = some e' ∧ e'.rb = L.defers
  | .deferred fresh => o = .deferred (if fresh then some [] else none)
  | .dead => True
  | .mapU es fin => ∃ (xs : Array MapEntry) (clock : Nat), o = .map xs clock ∧ (fin = false → o = e.pin.getD (.map #[] 0)) ∧ (fin = true → LookOk E es xs.toList)

/-- may it be written? -/
def Blk.wr : Blk → Bool
  | .cells _ _ _ ro => !ro
  | .dead => false
  | _ => true

structure HSim (P : Program) (W0 : World) (E : Env) (h : H) (w : World) : Prop where
  size : W0.heap.size ≤ w.heap.size
  base : ∀ r, r < W0.heap.size → w.heap[r]? = W0.heap[r]?
  os : w.os = W0.os
  out : w.output = W0.output
  low : 64 ≤ h.next
  glob : ∀ g, g < 64 → E g = some ⟨g, 0, 0, none⟩
  dom : ∀ b e, E b = some e → b < h.next
  top : ∀ b, h.next ≤ b → h.get b = none
  blk : ∀ b e x, E b = some e → h.get b = some x → ∃ o, w.heap[e.rb]? = some o ∧ BlkOk P E e o x
  own : ∀ b e x, E b = some e → h.get b = some x → x.wr = true → W0.heap.size ≤ e.rb
  ronly : ∀ b e cs el tl, E b = some e → h.get b = some (.cells cs el tl true) → e.rb < W0.heap.size
  inj : ∀ b c e f x y, E b = some e → E c = some f → h.get b = some x → h.get c = some y → x.wr = true → y.wr = true → e.rb = f.rb → b = c

/-! ### more names -/
theorem CellsAt.up {E E' : Env} (hE : ∀ b e, E b = some e → E' b = some e) {C : Array Value} {ro : Nat} {cs : List AV} (h : CellsAt E C ro cs) : CellsAt E' C ro cs :=
  fun i v hv => let ⟨h1, u, hu, hc⟩ := h i v hv; ⟨h1, u, cv_up hE v u hu, hc⟩
theorem EntsOk.up {E E' : Env} (hE : ∀ b e, E b = some e → E' b = some e) : ∀ {es : List (AV × AV × Nat)} {xs : List MapEntry}, EntsOk E es xs → EntsOk E' es xs
  | [], [], _ => trivial
  | (k, v, b) :: es, x :: xs, ⟨h1, h2, h3, h4⟩ => ⟨cv_up hE k _ h1, cv_up hE v _ h2, h3, EntsOk.up hE h4⟩
  | [], _ :: _, h => h.elim
  | _ :: _, [], h => by simp [EntsOk] at h
theorem VarsOk.up {E E' : Env} (hE : ∀ b e, E b = some e → E' b = some e) {vm : Nat} {vars : Tr AV} {tmps : Array Value} (h : VarsOk E vm vars tmps) : VarsOk E' vm vars tmps :=
  fun t v hb hv => let ⟨u, hu, ht⟩ := h t v hb hv; ⟨u, cv_up hE v u hu, ht⟩
theorem KeyOk.same {E E' : Env} {d : TypeDesc} {k : AV} (h : KeyOk d k) : cv E' k = cv E k := by
  rcases h with ⟨j, -, i, m, rfl, -⟩ | ⟨-, l, c, rfl⟩ <;> simp only [cv]
theorem LookOk.up {E E' : Env} (hE : ∀ b e, E b = some e → E' b = some e) {es : List (AV × AV × Nat)} {xs : List MapEntry} (h : LookOk E es xs) : LookOk E' es xs := by
  refine ⟨h.1, fun d k u r hd hk hr => ?_⟩
  rcases h.2 d k u r hd (by rw [← hk]; exact (hd.same (E := E') (E' := E))) hr with h1 | ⟨v, j, z, h1, h2, h3⟩
  · exact .inl h1
  · exact .inr ⟨v, j, z, h1, cv_up hE v z h2, h3⟩
theorem BlkOk.up {P : Program} {E E' : Env} (hE : ∀ b e, E b = some e → E' b = some e) {e : Loc} {o : Obj} : ∀ {x : Blk}, BlkOk P E e o x → BlkOk P E' e o x
  | .cells cs el tail ro, ⟨C, el', fz, h1, h2, h3, h4, h5⟩ => ⟨C, el', fz, h1, h2, h3, h4.up hE, h5⟩
  | .map es clock, ⟨xs, h1, h2⟩ => ⟨xs, h1, h2.up hE⟩
  | .siter l c pos, h => h
  | .loop st pend vars vm n ps asg body d, ⟨L, h1, h2, h3, h4, h5, h6, h7, h8, e', h9, h10⟩ => ⟨L, h1, h2, h3, h4, h5.up hE, h6, h7, h8, e', hE d e' h9, h10⟩
  | .deferred fresh, h => h
  | .dead, _ => trivial
  | .mapU es fin, ⟨xs, ck, h1, h2, h3⟩ => ⟨xs, ck, h1, h2, fun hf => (h3 hf).up hE⟩

/-! ### loads -/
theorem cell_of {w : World} {rb off : Nat} {C : Array Value} {el : TypeId} {fz : Nat × Nat} (h : w.heap[rb]? = some (.cells C el fz)) : w.cell? ⟨rb, off, none⟩ = C[off]? := by
  simp [World.cell?, h]

section
variable {P : Program} {W0 : World} {E : Env} {h : H} {w : World}

/-- a block of cells, opened -/
theorem HSim.cells (S : HSim P W0 E h w) {b : Nat} {e : Loc} {cs : List AV} {el : TypeId} {tl ro : Bool} (hb : E b = some e) (hg : h.get b = some (.cells cs el tl ro)) :
    ∃ (C : Array Value) (el' : TypeId) (fz : Nat × Nat), w.heap[e.rb]? = some (.cells C el' fz) ∧ (ro = false → el' = el ∧ fz = (0, 0)) ∧ e.ro + cs.length ≤ C.size ∧ CellsAt E C e.ro cs ∧
      (tl = true → ∃ n, szT P el = some n ∧ C.size = e.ro + cs.length + e.ex * n) := by
  obtain ⟨o, ho, C, el', fz, h1, h2, h3, h4, h5⟩ := S.blk b e _ hb hg
  exact ⟨C, el', fz, by rw [ho, h1], h2, h3, h4, h5⟩
theorem HSim.cellsW (S : HSim P W0 E h w) {b : Nat} {e : Loc} {cs : List AV} {el : TypeId} {tl : Bool} (hb : E b = some e) (hg : h.get b = some (.cells cs el tl false)) :
    ∃ (C : Array Value) (fz : Nat × Nat), w.heap[e.rb]? = some (.cells C el fz) ∧ (false = false → fz = (0, 0)) ∧ e.ro + cs.length ≤ C.size ∧ CellsAt E C e.ro cs ∧
      (tl = true → ∃ n, szT P el = some n ∧ C.size = e.ro + cs.length + e.ex * n) := by
  obtain ⟨C, el', fz, h1, h2, h3, h4, h5⟩ := S.cells hb hg
  obtain ⟨rfl, rfl⟩ := h2 rfl
  exact ⟨C, (0, 0), h1, fun _ => rfl, h3, h4, h5⟩

/-- the cells of a part of a block -/
theorem CellsAt.part {C : Array Value} {ro : Nat} {cs : List AV} (hc : CellsAt E C ro cs) {off n : Nat} {l r : List AV} (hd : dropL off cs = some l) (ht : takeL n l = some r) :
    ∃ vs, cvC E r = some vs ∧ vs.length = n ∧ ∀ j v, vs[j]? = some v → C[ro + off + j]? = some v := by
  obtain ⟨h1, rfl⟩ := dropL_some off cs l hd
  obtain ⟨h2, rfl⟩ := takeL_some n _ r ht
  have hlen : ((cs.drop off).take n).length = n := by simp; simp at h2; omega
  have hget : ∀ (i : Nat) (v : AV), ((cs.drop off).take n)[i]? = some v → v.one = true ∧ ∃ u, cv E v = some u ∧ C[ro + off + i]? = some u := by
    intro i v hi
    rw [List.getElem?_take] at hi
    split at hi
    · rw [List.getElem?_drop] at hi
      obtain ⟨ho, u, hu, hC⟩ := hc (off + i) v hi
      exact ⟨ho, u, hu, by rw [Nat.add_assoc]; exact hC⟩
    · cases hi
  refine ⟨(List.range n).map fun j => (C[ro + off + j]?).getD undef, ?_, by simp, ?_⟩
  · refine cvC_of_get _ _ (by simp [hlen]) ?_
    intro i x hi
    obtain ⟨ho, u, hu, hC⟩ := hget i x hi
    refine ⟨ho, u, hu, ?_⟩
    have hin : i < n := by
      have := (List.getElem?_eq_some_iff.1 hi).1
      rw [hlen] at this
      exact this
    simp [hin, hC]
  · intro j v hj
    have hin : j < n := by
      have := (List.getElem?_eq_some_iff.1 hj).1
      simpa using this
    have hx : ∃ x, ((cs.drop off).take n)[j]? = some x := ⟨_, List.getElem?_eq_getElem (by rw [hlen]; exact hin)⟩
    obtain ⟨x, hx⟩ := hx
    obtain ⟨_, u, _, hC⟩ := hget j x hx
    simp [hin, hC] at hj
    rw [hC, hj]

/-- a load -/
theorem load_sound (S : HSim P W0 E h w) {t : TypeId} {g : Bool} {n b off : Nat} {v : AV} {e : Loc} (hb : E b = some e) (ha : aggT P t = some g) (hs : szT P t = some n)
    (hl : loadAt h g n b off = some v) : ∃ u, cv E v = some u ∧ (loadVar t ⟨e.rb, e.ro + off, none⟩).run P w = .ok u w := by
  unfold loadAt at hl
  split at hl
  · rename_i cs el tl ro hg
    obtain ⟨C, el', fz, hC, -, -, hcells, -⟩ := S.cells hb hg
    have hinfo : ∃ i, P.info? t = some i ∧ i.size = n := by
      unfold szT at hs
      cases hi : P.info? t with
      | none => rw [hi] at hs; cases hs
      | some i => rw [hi] at hs; cases hs; exact ⟨i, rfl, rfl⟩
    obtain ⟨i, hi, hin⟩ := hinfo
    cases g with
    | true =>
      simp only at hl
      split at hl
      · rename_i l hd
        split at hl
        · rename_i r ht
          cases hl
          obtain ⟨vs, hvs, hlen, hj⟩ := hcells.part hd ht
          refine ⟨.agg vs.toArray, by simp [cv, hvs], ?_⟩
          have hrun := run_loadCells_list (P := P) w ⟨e.rb, e.ro + off, none⟩ vs (fun j u hu => by
            rw [Addr.add_lit, cell_of hC]; exact hj j u hu)
          have hagg : (isAgg t).run P w = .ok true w := by
            unfold aggT at ha
            unfold isAgg
            split at ha
            · rename_i fs hu; simp [run_underlying hu]
            · rename_i a b hu; simp [run_underlying hu]
            · cases ha
            · cases ha
          rw [hlen] at hrun
          simp [loadVar, hagg, sizeOf, typeInfo, hi, hin, hrun]
        · cases hl
      · cases hl
    | false =>
      simp only at hl
      rw [nthV_eq] at hl
      obtain ⟨-, u, hu, hCu⟩ := hcells off v hl
      refine ⟨u, hu, ?_⟩
      have hagg : (isAgg t).run P w = .ok false w := by
        unfold aggT at ha
        unfold isAgg
        split at ha
        · cases ha
        · cases ha
        · rename_i d hn1 hn2 hu
          simp only [run_underlying hu, Sem.run_bind, Result.andThen_ok]
          rfl
        · cases ha
      simp [loadVar, hagg, cell_of hC, hCu]
  · cases hl


theorem one_oneCell {v : AV} {u : Value} (h1 : v.one = true) (hu : cv E v = some u) : u.oneCell' = true := by
  cases v <;> simp only [cv] at hu <;> first
    | (cases h1; done)
    | (simp only [Option.some.injEq] at hu; subst hu; rfl)
    | (split at hu <;> first | (cases hu; done) | (simp only [Option.some.injEq] at hu; subst hu; rfl))
theorem cvC_oneCell : ∀ {a : List AV} {v : List Value}, cvC E a = some v → ∀ u ∈ v, u.oneCell' = true
  | [], v, h => by simp only [cvC, Option.some.injEq] at h; subst h; simp
  | x :: xs, v, h => by
    simp only [cvC] at h
    split at h
    · rename_i u l ho hu hl
      cases h
      intro y hy
      simp only [List.mem_cons] at hy
      rcases hy with rfl | hy
      · exact one_oneCell ho hu
      · exact cvC_oneCell hl y hy
    · cases h

/-- one block is written anew, all else stays -/
theorem HSim.write (S : HSim P W0 E h w) {b : Nat} {e : Loc} {x x' : Blk} {o' : Obj} {w' : World} (hb : E b = some e) (hx : h.get b = some x) (hxw : x.wr = true)
    (hx' : ∀ cs el tl, x' ≠ .cells cs el tl true) (ho' : BlkOk P E e o' x') (hsz : w'.heap.size = w.heap.size) (hat : w'.heap[e.rb]? = some o')
    (hoth : ∀ k, k ≠ e.rb → w'.heap[k]? = w.heap[k]?) (hos : w'.os = w.os) (hout : w'.output = w.output) : HSim P W0 E (h.put b x') w' := by
  have hown := S.own b e x hb hx hxw
  have hget : ∀ c y, (h.put b x').get c = some y → (c = b ∧ y = x') ∨ (c ≠ b ∧ h.get c = some y) := by
    intro c y hc
    rw [H.get_put] at hc
    split at hc
    · cases hc; exact .inl ⟨by assumption, rfl⟩
    · exact .inr ⟨by assumption, hc⟩
  refine ⟨by rw [hsz]; exact S.size, ?_, by rw [hos, S.os], by rw [hout, S.out], S.low, S.glob, S.dom, ?_, ?_, ?_, ?_, ?_⟩
  · intro r hr
    rw [hoth r (by omega)]
    exact S.base r hr
  · intro c hc
    have hbn := S.dom b e hb
    rw [H.next_put] at hc
    rw [H.get_put, if_neg (by omega)]
    exact S.top c hc
  · intro c f y hc hy
    rcases hget c y hy with ⟨rfl, rfl⟩ | ⟨hne, hy'⟩
    · rw [hb] at hc; cases hc; exact ⟨o', hat, ho'⟩
    · obtain ⟨o, ho, hok⟩ := S.blk c f y hc hy'
      by_cases hrb : f.rb = e.rb
      · cases y with
        | cells cs el tl ro =>
          cases ro with
          | false => exact absurd (S.inj c b f e _ x hc hb hy' hx rfl hxw hrb) hne
          | true => have := S.ronly c f cs el tl hc hy'; omega
        | dead => exact ⟨o', by rw [hrb]; exact hat, trivial⟩
        | map es cl => exact absurd (S.inj c b f e _ x hc hb hy' hx rfl hxw hrb) hne
        | siter l c' p => exact absurd (S.inj c b f e _ x hc hb hy' hx rfl hxw hrb) hne
        | loop st pend vars vm n ps asg body d => exact absurd (S.inj c b f e _ x hc hb hy' hx rfl hxw hrb) hne
        | deferred fr => exact absurd (S.inj c b f e _ x hc hb hy' hx rfl hxw hrb) hne
        | mapU es fin => exact absurd (S.inj c b f e _ x hc hb hy' hx rfl hxw hrb) hne
      · exact ⟨o, by rw [hoth _ hrb]; exact ho, hok⟩
  · intro c f y hc hy hw
    rcases hget c y hy with ⟨rfl, rfl⟩ | ⟨hne, hy'⟩
    · rw [hb] at hc; cases hc; exact hown
    · exact S.own c f y hc hy' hw
  · intro c f cs el tl hc hy
    rcases hget c _ hy with ⟨rfl, h1⟩ | ⟨hne, hy'⟩
    · exact absurd h1.symm (hx' cs el tl)
    · exact S.ronly c f cs el tl hc hy'
  · intro c d f g y z hc hd hy hz hyw hzw hfg
    rcases hget c y hy with ⟨rfl, rfl⟩ | ⟨hne, hy'⟩
    · rcases hget d z hz with ⟨rfl, rfl⟩ | ⟨hne', hz'⟩
      · rfl
      · exact S.inj c d f g x z hc hd hx hz' hxw hzw hfg
    · rcases hget d z hz with ⟨rfl, rfl⟩ | ⟨hne', hz'⟩
      · exact S.inj c d f g y x hc hd hy' hx hyw hxw hfg
      · exact S.inj c d f g y z hc hd hy' hz' hyw hzw hfg

/-- cells written into a block -/
theorem writeCells_sound (S : HSim P W0 E h w) {b off : Nat} {e : Loc} {cs vs l : List AV} {us : List Value} {el : TypeId} {tl : Bool} (hb : E b = some e)
    (hg : h.get b = some (.cells cs el tl false)) (hv : cvC E vs = some us) (hwr : writeL off vs cs = some l) :
    ∃ w', (storeCells ⟨e.rb, e.ro + off, none⟩ us).run P w = .ok () w' ∧ HSim P W0 E (h.put b (.cells l el tl false)) w' := by
  obtain ⟨C, fz, hC, hfz, hsz, hcells, htl⟩ := S.cellsW hb hg
  have hfz' := hfz rfl
  subst hfz'
  obtain ⟨hle, -⟩ := writeL_some off vs cs l hwr
  have hlen := cvC_length hv
  have hrun := run_storeCells_at P e.rb (e.ro + off) el us 0 C w hC (by omega) (cvC_oneCell hv)
  refine ⟨_, hrun, ?_⟩
  have hll := writeL_length hwr
  refine S.write hb hg rfl (by simp) ?_ (by simp) (setRow_heap w e.rb C _ el _ hC) (fun k hk => setRow_other w e.rb k _ hk) rfl rfl
  refine ⟨_, _, (0, 0), rfl, fun _ => ⟨rfl, rfl⟩, ?_, ?_, ?_⟩
  · simp; omega
  · intro i x hi
    rw [writeL_get hwr i] at hi
    simp only [Nat.add_zero]
    split at hi
    · rename_i hin
      obtain ⟨ho, u, hu, hu'⟩ := cvC_get hv _ x hi
      refine ⟨ho, u, hu, ?_⟩
      rw [List.getElem?_toArray, List.append_assoc, List.getElem?_append_right (by simp; omega)]
      have e1 : (C.toList.take (e.ro + off)).length = e.ro + off := by simp; omega
      rw [e1, List.getElem?_append_left (by omega)]
      have e2 : e.ro + i - (e.ro + off) = i - off := by omega
      rw [e2]; exact hu'
    · rename_i hin
      obtain ⟨ho, u, hu, hu'⟩ := hcells i x hi
      refine ⟨ho, u, hu, ?_⟩
      rw [List.getElem?_toArray, List.append_assoc]
      have e1 : (C.toList.take (e.ro + off)).length = e.ro + off := by simp; omega
      by_cases hlt : i < off
      · rw [List.getElem?_append_left (by omega), List.getElem?_take, if_pos (by omega)]
        simpa using hu'
      · rw [List.getElem?_append_right (by omega), e1, List.getElem?_append_right (by omega), List.getElem?_drop]
        have e3 : e.ro + off + us.length + (e.ro + i - (e.ro + off) - us.length) = e.ro + i := by omega
        rw [e3]
        simpa using hu'
  · intro ht
    obtain ⟨n, hn, hs⟩ := htl ht
    refine ⟨n, hn, ?_⟩
    simp; omega

/-- a store -/
theorem store_sound (S : HSim P W0 E h w) {t : TypeId} {n b off : Nat} {v : AV} {u : Value} {e : Loc} {h' : H} (hb : E b = some e) (hs : szT P t = some n) (hu : cv E v = some u)
    (hst : storeAt h n b off v = some h') : ∃ w', (storeVar t ⟨e.rb, e.ro + off, none⟩ u).run P w = .ok () w' ∧ HSim P W0 E h' w' := by
  unfold storeAt at hst
  split at hst
  · rename_i cs el tl hg
    split at hst
    · rename_i vs hvs
      split at hst
      · rename_i hbeq
        split at hst
        · rename_i l hl
          cases hst
          have hc := cells_cv hvs hu
          have hlen : vs.length = n := by have := Nat.eq_of_beq_eq_true hbeq; rw [lenL_eq] at this; exact this
          obtain ⟨w', hrun, hsim⟩ := writeCells_sound S hb hg hc hl
          refine ⟨w', ?_, hsim⟩
          have hinfo : ∃ i, P.info? t = some i ∧ i.size = n := by
            unfold szT at hs
            cases hi : P.info? t with
            | none => rw [hi] at hs; cases hs
            | some i => rw [hi] at hs; cases hs; exact ⟨i, rfl, rfl⟩
          obtain ⟨i, hi, hin⟩ := hinfo
          have hus : u.cells.size = n := by have := cvC_length hc; simp at this; omega
          simp [storeVar, sizeOf, typeInfo, hi, hin, hus, hrun]
        · cases hst
      · cases hst
    · cases hst
  · cases hst

/-! ### a new block -/
def Env.add (E : Env) (b : Nat) (e : Loc) : Env := fun c => if c = b then some e else E c
theorem Env.add_up {E : Env} {b : Nat} {e : Loc} (hb : E b = none) : ∀ c f, E c = some f → (E.add b e) c = some f := by
  intro c f hc
  unfold Env.add
  split
  · rename_i he; subst he; rw [hb] at hc; cases hc
  · exact hc
theorem HSim.fresh (S : HSim P W0 E h w) : E h.next = none := by
  cases hc : E h.next with
  | none => rfl
  | some e => exact absurd (S.dom _ e hc) (Nat.lt_irrefl _)
/-- the new block 'h.next' lies in the real block 'rb' at 'ro'; all old blocks but 'dead' ones stay -/
theorem HSim.alloc (S : HSim P W0 E h w) (ex : Nat) {x : Blk} {o : Obj} (hxw : x.wr = true) (ho : ∀ E', (∀ c f, E c = some f → E' c = some f) → BlkOk P E' ⟨w.heap.size, 0, ex, none⟩ o x) :
    HSim P W0 (E.add h.next ⟨w.heap.size, 0, ex, none⟩) (h.new x) { w with heap := w.heap.push o } := by
  have hf := S.fresh
  have hup := Env.add_up (e := ⟨w.heap.size, 0, ex, none⟩) hf
  have hget : ∀ c y, (h.new x).get c = some y → (c = h.next ∧ y = x) ∨ (c ≠ h.next ∧ h.get c = some y) := by
    intro c y hc
    rw [H.get_new] at hc
    split at hc
    · cases hc; exact .inl ⟨by assumption, rfl⟩
    · exact .inr ⟨by assumption, hc⟩
  have hE : ∀ c f, (E.add h.next ⟨w.heap.size, 0, ex, none⟩) c = some f → (c = h.next ∧ f = ⟨w.heap.size, 0, ex, none⟩) ∨ (c ≠ h.next ∧ E c = some f) := by
    intro c f hc
    unfold Env.add at hc
    split at hc
    · cases hc; exact .inl ⟨by assumption, rfl⟩
    · exact .inr ⟨by assumption, hc⟩
  have hold : ∀ (k : Nat) (o' : Obj), w.heap[k]? = some o' → (w.heap.push o)[k]? = some o' := by
    intro k o' hk
    have : k < w.heap.size := by
      rcases Nat.lt_or_ge k w.heap.size with h1 | h1
      · exact h1
      · rw [Array.getElem?_eq_none h1] at hk; cases hk
    rw [Array.getElem?_push_lt this]
    simpa [Array.getElem?_eq_getElem this] using hk
  have hlt : ∀ c f y, E c = some f → h.get c = some y → f.rb < w.heap.size := by
    intro c f y hc hy
    obtain ⟨o', ho', -⟩ := S.blk c f y hc hy
    rcases Nat.lt_or_ge f.rb w.heap.size with h1 | h1
    · exact h1
    · rw [Array.getElem?_eq_none h1] at ho'; cases ho'
  refine ⟨by simp; have := S.size; omega, ?_, S.os, S.out, by rw [H.next_new]; have := S.low; omega, fun g hg => hup g _ (S.glob g hg), ?_, ?_, ?_, ?_, ?_, ?_⟩
  · intro r hr
    have h1 := S.base r hr
    have h2 := S.size
    have : r < w.heap.size := by omega
    show (w.heap.push o)[r]? = _
    rw [Array.getElem?_push_lt this, ← h1, Array.getElem?_eq_getElem this]
  · intro c f hc
    rw [H.next_new]
    rcases hE c f hc with ⟨rfl, -⟩ | ⟨-, hc'⟩
    · omega
    · have := S.dom c f hc'; omega
  · intro c hc
    rw [H.next_new] at hc
    rw [H.get_new, if_neg (by omega)]
    exact S.top c (by omega)
  · intro c f y hc hy
    rcases hget c y hy with ⟨rfl, rfl⟩ | ⟨hne, hy'⟩
    · rcases hE _ f hc with ⟨-, rfl⟩ | ⟨hne, -⟩
      · exact ⟨o, by simp, ho _ hup⟩
      · exact absurd rfl hne
    · rcases hE c f hc with ⟨rfl, -⟩ | ⟨-, hc'⟩
      · exact absurd rfl hne
      · obtain ⟨o', ho', hok⟩ := S.blk c f y hc' hy'
        exact ⟨o', hold _ _ ho', hok.up hup⟩
  · intro c f y hc hy hw
    rcases hget c y hy with ⟨rfl, rfl⟩ | ⟨hne, hy'⟩
    · rcases hE _ f hc with ⟨-, rfl⟩ | ⟨hne, -⟩
      · exact S.size
      · exact absurd rfl hne
    · rcases hE c f hc with ⟨rfl, -⟩ | ⟨-, hc'⟩
      · exact absurd rfl hne
      · exact S.own c f y hc' hy' hw
  · intro c f cs el tl hc hy
    rcases hget c _ hy with ⟨rfl, h1⟩ | ⟨hne, hy'⟩
    · rw [← h1] at hxw; simp [Blk.wr] at hxw
    · rcases hE c f hc with ⟨rfl, -⟩ | ⟨-, hc'⟩
      · exact absurd rfl hne
      · exact S.ronly c f cs el tl hc' hy'
  · intro c d f g y z hc hd hy hz hyw hzw hfg
    rcases hE c f hc with ⟨rfl, rfl⟩ | ⟨hne, hc'⟩
    · rcases hE d g hd with ⟨rfl, rfl⟩ | ⟨hne', hd'⟩
      · rfl
      · rcases hget d z hz with ⟨rfl, -⟩ | ⟨-, hz'⟩
        · exact absurd rfl hne'
        · have := hlt d g z hd' hz'; simp only at hfg; omega
    · rcases hget c y hy with ⟨rfl, -⟩ | ⟨-, hy'⟩
      · exact absurd rfl hne
      · rcases hE d g hd with ⟨rfl, rfl⟩ | ⟨hne', hd'⟩
        · have := hlt c f y hc' hy'; simp only at hfg; omega
        · rcases hget d z hz with ⟨rfl, -⟩ | ⟨-, hz'⟩
          · exact absurd rfl hne'
          · exact S.inj c d f g y z hc' hd' hy' hz' hyw hzw hfg
/-- a block that has lain in the abstract memory gets its real place -/
theorem HSim.place (S : HSim P W0 E h w) (ex : Nat) {b : Nat} {x : Blk} {o : Obj} (hb : b < h.next) (hEb : E b = none) (hx : h.get b = some x) (hxw : x.wr = true) (ho : ∀ E', (∀ c f, E c = some f → E' c = some f) → BlkOk P E' ⟨w.heap.size, 0, ex, none⟩ o x) :
    HSim P W0 (E.add b ⟨w.heap.size, 0, ex, none⟩) h { w with heap := w.heap.push o } := by
  have hup := Env.add_up (e := ⟨w.heap.size, 0, ex, none⟩) hEb
  have hE : ∀ c f, (E.add b ⟨w.heap.size, 0, ex, none⟩) c = some f → (c = b ∧ f = ⟨w.heap.size, 0, ex, none⟩) ∨ (c ≠ b ∧ E c = some f) := by
    intro c f hc
    unfold Env.add at hc
    split at hc
    · cases hc; exact .inl ⟨by assumption, rfl⟩
    · exact .inr ⟨by assumption, hc⟩
  have hold : ∀ (k : Nat) (o' : Obj), w.heap[k]? = some o' → (w.heap.push o)[k]? = some o' := by
    intro k o' hk
    have : k < w.heap.size := by
      rcases Nat.lt_or_ge k w.heap.size with h1 | h1
      · exact h1
      · rw [Array.getElem?_eq_none h1] at hk; cases hk
    rw [Array.getElem?_push_lt this]
    simpa [Array.getElem?_eq_getElem this] using hk
  have hlt : ∀ c f y, E c = some f → h.get c = some y → f.rb < w.heap.size := by
    intro c f y hc hy
    obtain ⟨o', ho', -⟩ := S.blk c f y hc hy
    rcases Nat.lt_or_ge f.rb w.heap.size with h1 | h1
    · exact h1
    · rw [Array.getElem?_eq_none h1] at ho'; cases ho'
  refine ⟨by simp; have := S.size; omega, ?_, S.os, S.out, S.low, fun g hg => hup g _ (S.glob g hg), ?_, S.top, ?_, ?_, ?_, ?_⟩
  · intro r hr
    have h1 := S.base r hr
    have h2 := S.size
    have : r < w.heap.size := by omega
    show (w.heap.push o)[r]? = _
    rw [Array.getElem?_push_lt this, ← h1, Array.getElem?_eq_getElem this]
  · intro c f hc
    rcases hE c f hc with ⟨rfl, -⟩ | ⟨-, hc'⟩
    · exact hb
    · exact S.dom c f hc'
  · intro c f y hc hy
    rcases hE c f hc with ⟨rfl, rfl⟩ | ⟨hne, hc'⟩
    · rw [hx] at hy; cases hy
      exact ⟨o, by simp, ho _ hup⟩
    · obtain ⟨o', ho', hok⟩ := S.blk c f y hc' hy
      exact ⟨o', hold _ _ ho', hok.up hup⟩
  · intro c f y hc hy hw
    rcases hE c f hc with ⟨rfl, rfl⟩ | ⟨hne, hc'⟩
    · exact S.size
    · exact S.own c f y hc' hy hw
  · intro c f cs el tl hc hy
    rcases hE c f hc with ⟨rfl, rfl⟩ | ⟨hne, hc'⟩
    · rw [hx] at hy; cases hy; simp [Blk.wr] at hxw
    · exact S.ronly c f cs el tl hc' hy
  · intro c d f g y z hc hd hy hz hyw hzw hfg
    rcases hE c f hc with ⟨rfl, rfl⟩ | ⟨hne, hc'⟩
    · rcases hE d g hd with ⟨rfl, rfl⟩ | ⟨hne', hd'⟩
      · rfl
      · have := hlt d g z hd' hz; simp only at hfg; omega
    · rcases hE d g hd with ⟨rfl, rfl⟩ | ⟨hne', hd'⟩
      · have := hlt c f y hc' hy; simp only at hfg; omega
      · exact S.inj c d f g y z hc' hd' hy hz hyw hzw hfg
/-- a block that nobody has seen yet -/
theorem HSim.grow (S : HSim P W0 E h w) (x : Blk) : HSim P W0 E (h.new x) w := by
  have hget : ∀ c f y, E c = some f → (h.new x).get c = some y → h.get c = some y := by
    intro c f y hc hy
    have := S.dom c f hc
    rw [H.get_new, if_neg (by omega)] at hy
    exact hy
  refine ⟨S.size, S.base, S.os, S.out, by rw [H.next_new]; have := S.low; omega, S.glob, fun b e hb => by rw [H.next_new]; have := S.dom b e hb; omega, ?_, ?_, ?_, ?_, ?_⟩
  · intro c hc
    rw [H.next_new] at hc
    rw [H.get_new, if_neg (by omega)]
    exact S.top c (by omega)
  · intro c f y hc hy; exact S.blk c f y hc (hget c f y hc hy)
  · intro c f y hc hy hw; exact S.own c f y hc (hget c f y hc hy) hw
  · intro c f cs el tl hc hy; exact S.ronly c f cs el tl hc (hget c f _ hc hy)
  · intro c d f g y z hc hd hy hz hyw hzw hfg; exact S.inj c d f g y z hc hd (hget c f y hc hy) (hget d g z hd hz) hyw hzw hfg
/-- only what the memory yields counts -/
theorem HSim.same (S : HSim P W0 E h w) {h' : H} (hn : h'.next = h.next) (hg : ∀ b, h'.get b = h.get b) : HSim P W0 E h' w :=
  ⟨S.size, S.base, S.os, S.out, by rw [hn]; exact S.low, S.glob, fun b e hb => by rw [hn]; exact S.dom b e hb, fun b hb => by rw [hg]; rw [hn] at hb; exact S.top b hb,
    fun b e x hb hx => S.blk b e x hb (by rw [← hg]; exact hx), fun b e x hb hx => S.own b e x hb (by rw [← hg]; exact hx), fun b e cs el tl hb hx => S.ronly b e cs el tl hb (by rw [← hg]; exact hx),
    fun b c e f x y hb hc hx hy => S.inj b c e f x y hb hc (by rw [← hg]; exact hx) (by rw [← hg]; exact hy)⟩
theorem Ext.add {E : Env} {n : Nat} {e : Loc} (hE : E n = none) : Ext E n (E.add n e) :=
  ⟨Env.add_up hE, fun b hb => by unfold Env.add; rw [if_neg (by omega)]⟩

end
end Go.Ev
