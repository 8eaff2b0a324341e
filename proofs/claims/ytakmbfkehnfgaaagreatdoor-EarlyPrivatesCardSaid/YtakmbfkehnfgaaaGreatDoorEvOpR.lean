/- Composite values, slices, maps, lengths. -/
import Derived.Test.YtakmbfkehnfgaaaGreatDoorEvOpQ
import Derived.MapKept
set_option linter.unusedVariables false
set_option linter.unusedSimpArgs false
namespace Go.Ev
open Go.MapKept (bytes_beq run_findKey run_getObj_map run_setObj_map)
set_option linter.unusedSectionVars false
variable [Sig]

section
variable {P : Program} {W0 : World} {E : Env} {h : H} {w : World} {n vm : Nat} {a : A} {x : Act}

/-! parts -/
theorem foldl_set (off : Nat) : ∀ (us : List Value) (j : Nat) (C : Array Value), off + j + us.length ≤ C.size →
    (us.zipIdx j).foldl (fun cs (p : Value × Nat) => cs.setIfInBounds (off + p.2) p.1) C = (C.toList.take (off + j) ++ (us ++ C.toList.drop (off + j + us.length))).toArray
  | [], j, C, hl => by simp
  | u :: us, j, C, hl => by
    simp only [List.zipIdx_cons, List.foldl_cons]
    simp only [List.length_cons] at hl
    rw [foldl_set off us (j + 1) _ (by simp; omega)]
    apply Array.ext'
    apply List.ext_getElem?
    intro i
    simp only [Array.toList_setIfInBounds, List.length_cons]
    have e1 : (List.take (off + (j + 1)) (C.toList.set (off + j) u)).length = off + (j + 1) := by simp; omega
    have e2 : (List.take (off + j) C.toList).length = off + j := by simp; omega
    by_cases h1 : i < off + j
    · rw [List.getElem?_append_left (by omega), List.getElem?_append_left (by omega), List.getElem?_take, List.getElem?_take, if_pos (by omega), if_pos h1, List.getElem?_set]
      rw [if_neg (by omega)]
    · have R : (List.take (off + j) C.toList ++ (u :: us ++ List.drop (off + j + (us.length + 1)) C.toList))[i]? = (u :: us ++ List.drop (off + j + (us.length + 1)) C.toList)[i - (off + j)]? := by
        rw [List.getElem?_append_right (by omega), e2]
      rw [R]
      by_cases h2 : i = off + j
      · subst h2
        rw [List.getElem?_append_left (by omega), List.getElem?_take, if_pos (by omega), List.getElem?_set]
        simp
        omega
      · have L : (List.take (off + (j + 1)) (C.toList.set (off + j) u) ++ (us ++ List.drop (off + (j + 1) + us.length) (C.toList.set (off + j) u)))[i]? =
            (us ++ List.drop (off + (j + 1) + us.length) (C.toList.set (off + j) u))[i - (off + (j + 1))]? := by
          rw [List.getElem?_append_right (by omega), e1]
        rw [L]
        have e3 : i - (off + j) = (i - (off + (j + 1))) + 1 := by omega
        rw [e3]
        simp only [List.cons_append, List.getElem?_cons_succ]
        by_cases h3 : i - (off + (j + 1)) < us.length
        · rw [List.getElem?_append_left h3, List.getElem?_append_left h3]
        · rw [List.getElem?_append_right (by omega), List.getElem?_append_right (by omega), List.getElem?_drop, List.getElem?_drop, List.getElem?_set, if_neg (by omega)]
          congr 1
          omega

theorem fill_sound {place : Nat → Option (Nat × Nat)} {ops : List (Nat × Operand)} {xs : List (Nat × Nat × XO)} (S : HSim P W0 E h w) (hA : ASim E n vm a x) (hc : cParts vm place ops = some xs) :
    ∀ {l : List (Nat × Nat × AV)} {z cs : List AV} {C : List Value}, getParts a xs = some l → fillL l z = some cs → cvC E z = some C →
    ∃ C', cvC E cs = some C' ∧ Instr.fill place C.toArray (ops.map fun p => (p.1, x.eval p.2)) = some C'.toArray := by
  induction ops generalizing xs with
  | nil =>
    intro l z cs C hg hf hz
    simp only [cParts, Option.some.injEq] at hc; subst hc
    simp only [getParts, Option.some.injEq] at hg; subst hg
    simp only [fillL, Option.some.injEq] at hf; subst hf
    exact ⟨C, hz, by simp [Instr.fill]⟩
  | cons p ops ih =>
    intro l z cs C hg hf hz
    obtain ⟨i, p⟩ := p
    simp only [cParts] at hc
    split at hc
    · rename_i off sz xo xl hpl ho hl
      cases hc
      simp only [getParts] at hg
      split at hg
      · rename_i v l' hv hl'
        cases hg
        simp only [fillL] at hf
        split at hf
        · rename_i vs hvs
          split at hf
          · rename_i hb
            split at hf
            · rename_i r hr
              have hlen : vs.length = sz := by have := Nat.eq_of_beq_eq_true hb; rw [lenL_eq] at this; exact this
              have hcv := opr_sound S hA ho hv
              have hcc := cells_cv hvs hcv
              have hus := cvC_length hcc
              obtain ⟨hle, hrr⟩ := writeL_some off vs z r hr
              have hzl := cvC_length hz
              have hnew : cvC E r = some (C.take off ++ ((x.eval p).cells.toList ++ C.drop (off + vs.length))) := by
                subst hrr
                refine cvC_append ?_ (cvC_append hcc ?_)
                · refine cvC_of_get _ _ (by simp; omega) ?_
                  intro j y hj
                  rw [List.getElem?_take] at hj
                  split at hj
                  · rename_i hlt
                    obtain ⟨h1, u, hu, hu'⟩ := cvC_get hz j y hj
                    exact ⟨h1, u, hu, by rw [List.getElem?_take, if_pos hlt]; exact hu'⟩
                  · cases hj
                · refine cvC_of_get _ _ (by simp; omega) ?_
                  intro j y hj
                  rw [List.getElem?_drop] at hj
                  obtain ⟨h1, u, hu, hu'⟩ := cvC_get hz _ y hj
                  exact ⟨h1, u, hu, by rw [List.getElem?_drop]; exact hu'⟩
              obtain ⟨C', hC', hfill⟩ := ih hl hl' hf hnew
              refine ⟨C', hC', ?_⟩
              simp only [List.map_cons, Instr.fill, hpl]
              have hsz : (x.eval p).cells.size = sz := by simp at hus; omega
              have hcond : ((x.eval p).cells.size ≠ sz || off + (x.eval p).cells.size > C.toArray.size) = false := by
                simp [hsz]; omega
              rw [if_neg (by simp [hsz]; omega)]
              have hfs := foldl_set off (x.eval p).cells.toList 0 C.toArray (by simp [hsz]; omega)
              have hz2 : (x.eval p).cells.zipIdx.foldl (fun cs (q : Value × Nat) => cs.setIfInBounds (off + q.2) q.1) C.toArray = (C.take off ++ ((x.eval p).cells.toList ++ C.drop (off + vs.length))).toArray := by
                rw [← Array.foldl_toList, Array.toList_zipIdx]
                simp only [Nat.add_zero] at hfs
                rw [hfs]
                simp [hsz, hlen]
              rw [← hfill]
              congr 1
            · cases hf
          · cases hf
        · cases hf
      · cases hg
    · cases hc

theorem zeroC_run {t : TypeId} {z : List AV} (hz : zeroC P t = some z) : ∃ i v, P.info? t = some i ∧ i.zero = some v ∧ cvC E z = some v.cells.toList ∧ z.length = i.size := by
  unfold zeroC at hz
  split at hz
  · rename_i zv m hzv hm
    split at hz
    · rename_i cs hcs
      split at hz
      · rename_i hb
        cases hz
        unfold zeroT at hzv
        split at hzv
        · rename_i i hi
          split at hzv
          · rename_i v hv
            refine ⟨i, v, hi, hv, cells_cv hcs (absV_cv hzv), ?_⟩
            have := Nat.eq_of_beq_eq_true hb
            rw [lenL_eq] at this
            obtain ⟨i', hi', hs'⟩ := szT_info hm
            rw [hi] at hi'; cases hi'
            rw [this, hs']
          · cases hzv
        · cases hzv
      · cases hz
    · cases hz
  · cases hz

theorem placesT_mapM : ∀ {fs : List Field} {pl : List (Nat × Nat)}, placesT P fs = some pl → fs.mapM (fun f => (P.info? f.type).map fun i => (f.offset, i.size)) = some pl
  | [], pl, hp => by simp only [placesT, Option.some.injEq] at hp; subst hp; simp
  | f :: fs, pl, hp => by
    simp only [placesT] at hp
    split at hp
    · rename_i m l hm hl
      cases hp
      obtain ⟨i, hi, hs⟩ := szT_info hm
      simp [List.mapM_cons, hi, hs, placesT_mapM hl]
    · cases hp

theorem build_sound (S : HSim P W0 E h w) (hA : ASim E n vm a x) {t : TypeId} {ps : Array (Nat × Operand)} {z : List AV} {xl : List (Nat × Nat × XO)} {place : Nat → Option (Nat × Nat)} (hz : zeroC P t = some z)
    (hpl : (∃ fs pl, P.underlying t = some (.struct fs) ∧ placesT P fs.toList = some pl ∧ place = fun i => pl[i]?) ∨ (∃ m e sz, P.underlying t = some (.array m e) ∧ szT P e = some sz ∧ place = fun i => some (Nat.mul i sz, sz)))
    (hc : cParts vm place ps.toList = some xl) {v : AV} {h' : H}
    (hr : rBuild z xl a h = .val v h') : h' = h ∧ Quiet P E w (do pure (.value (← Instr.build t (ps.map fun (i, y) => (i, x.eval y))))) v := by
  unfold rBuild at hr
  split at hr
  · rename_i l hl
    split at hr
    · rename_i cs hcs
      cases hr
      obtain ⟨i, zv, hi, hzv, hzc, hzl⟩ := zeroC_run (E := E) hz
      obtain ⟨C', hC', hfill⟩ := fill_sound S hA hc hl hcs hzc
      refine ⟨rfl, .of ⟨.agg C'.toArray, by simp [cv, hC'], ?_⟩⟩
      refine run_build w t _ _ ?_
      have hmap : (ps.map fun (i, y) => (i, x.eval y)).toList = ps.toList.map fun p => (p.1, x.eval p.2) := by simp
      rw [hmap]
      rcases hpl with ⟨fs, pl, hu, hp, rfl⟩ | ⟨m, e, sz, hu, hs, rfl⟩
      · simp only [Program.built, hi, hu, hzv, placesT_mapM hp]
        simpa using hfill
      · obtain ⟨ie, hie, hsz⟩ := szT_info hs
        simp only [Program.built, hi, hu, hzv, hie]
        subst hsz
        simpa using hfill
    · cases hr
  · cases hr

/-! slices -/
def OptCv (E : Env) : Option AV → Option Value → Prop
  | none, none => True
  | some v, some u => cv E v = some u
  | _, _ => False
theorem getOpt_sound (S : HSim P W0 E h w) (hA : ASim E n vm a x) {o : Option Operand} {xo : Option XO} {v : Option AV} (hc : cOpt vm o = some xo) (hg : getOpt a xo = some v) : OptCv E v (o.map x.eval) := by
  cases o with
  | none =>
    simp only [cOpt, Option.some.injEq] at hc; subst hc
    simp only [getOpt, Option.some.injEq] at hg; subst hg
    trivial
  | some o =>
    simp only [cOpt] at hc
    split at hc
    · rename_i b hb
      cases hc
      simp only [getOpt] at hg
      split at hg
      · rename_i v' hv'
        cases hg
        exact opr_sound S hA hb hv'
      · cases hg
    · cases hc
theorem natOf_some {v : AV} {m : Nat} (hv : natOf v = some m) : ∃ k, v = .int k (.ofNat m) := by
  unfold natOf at hv
  split at hv
  · cases hv; exact ⟨_, rfl⟩
  · cases hv
theorem bounds_sound {len cap cap' p q : Nat} {lo hi : Option AV} {lo' hi' : Option Value} (isS : Bool) (hb : bounds len cap lo hi = some (p, q)) (hlo : OptCv E lo lo') (hhi : OptCv E hi hi') (hcap : cap ≤ cap') :
    (Instr.sliceBounds isS len cap' lo' hi' none).run P w = .ok (p, q, cap') w ∧ p ≤ q ∧ q ≤ cap := by
  unfold bounds at hb
  split at hb
  · rename_i q' p' hq hp
    split at hb
    · rename_i hle
      cases hb
      simp only [Bool.and_eq_true] at hle
      have h1 := Nat.le_of_ble_eq_true hle.1
      have h2 := Nat.le_of_ble_eq_true hle.2
      refine ⟨?_, h2, h1⟩
      have hh : ∀ code, (match hi' with | some v => Instr.sliceBound v cap' code | none => pure len).run P w = .ok q w := by
        intro code
        cases hi with
        | none =>
          cases hi' with
          | some _ => exact hhi.elim
          | none => simp only [Option.some.injEq] at hq; subst hq; rfl
        | some v =>
          cases hi' with
          | none => exact hhi.elim
          | some u =>
            obtain ⟨k, rfl⟩ := natOf_some hq
            have hu := cv_int hhi
            subst hu
            have : q ≤ cap' := by omega
            simp [Instr.sliceBound, asIntOf, this]
      have hl : ∀ code, (match lo' with | some v => Instr.sliceBound v q code | none => pure 0).run P w = .ok p w := by
        intro code
        cases lo with
        | none =>
          cases lo' with
          | some _ => exact hlo.elim
          | none => simp only [Option.some.injEq] at hp; subst hp; rfl
        | some v =>
          cases lo' with
          | none => exact hlo.elim
          | some u =>
            obtain ⟨k, rfl⟩ := natOf_some hp
            have hu := cv_int hlo
            subst hu
            simp [Instr.sliceBound, asIntOf, h2]
      have key : ∀ (c1 c2 : BoundsCode), ((do
          let h ← (match hi' with | some v => Instr.sliceBound v cap' c1 | none => pure len)
          let l ← (match lo' with | some v => Instr.sliceBound v h c2 | none => pure 0)
          pure (l, h, cap') : Sem (Nat × Nat × Nat))).run P w = .ok (p, q, cap') w := by
        intro c1 c2
        simp only [Sem.run_bind, hh, hl, Result.andThen_ok, Sem.run_pure]
      have key' := key (if isS = true then .sliceAcap else .sliceAlen) .sliceB
      cases hi' <;> cases lo' <;> simpa [Instr.sliceBounds] using key'
    · cases hb
  · cases hb

theorem strB_extract (len c p q : Nat) (hpq : p ≤ q) (hq : q ≤ len) : (strB len c).extract p q = strB (q - p) (c / 256 ^ p % 256 ^ (q - p)) := by
  apply ByteArray.ext
  rw [ByteArray.data_extract]
  apply Array.ext'
  show ((bytesOf len c).toArray.extract p q).toList = bytesOf (q - p) _
  rw [bytesOf_mod]
  simp only [List.extract_toArray, List.extract_eq_take_drop]
  rw [bytesOf_drop, bytesOf_take _ _ _ (by omega)]

theorem slStr_sound (S : HSim P W0 E h w) (hA : ASim E n vm a x) {t : TypeId} {p : Operand} {lo hi : Option Operand} {xp : XO} {xlo xhi : Option XO} (ht : P.underlying t = some .string) (hp : cO vm p = some xp)
    (hlo : cOpt vm lo = some xlo) (hhi : cOpt vm hi = some xhi) {v : AV} {h' : H}
    (hr : rSlStr xp xlo xhi a h = .val v h') : h' = h ∧ Quiet P E w (do pure (.value (← Instr.sliceAt t (x.eval p) (lo.map x.eval) (hi.map x.eval) none))) v := by
  unfold rSlStr at hr
  split at hr
  · rename_i len c hg
    split at hr
    · rename_i l m hl hm
      split at hr
      · rename_i p' q' hb
        rw [frc_eq, frc_eq] at hr
        cases hr
        have heq := cv_str (opr_sound S hA hp hg)
        obtain ⟨hrun, h1, h2⟩ := bounds_sound (P := P) (w := w) (E := E) false hb (getOpt_sound S hA hlo hl) (getOpt_sound S hA hhi hm) (Nat.le_refl _)
        refine ⟨rfl, .of ⟨.string (strB (q' - p') (c / 256 ^ p' % 256 ^ (q' - p'))), by simp only [cv]; rfl, ?_⟩⟩
        simp [Instr.sliceAt, Instr.slice, run_underlying ht, heq, strB_size, hrun, strB_extract len c p' q' h1 h2]
      · cases hr
    · cases hr
  · cases hr

theorem slSl_sound (S : HSim P W0 E h w) (hA : ASim E n vm a x) {t e : TypeId} {sz : Nat} {p : Operand} {lo hi : Option Operand} {xp : XO} {xlo xhi : Option XO} (ht : P.underlying t = some (.slice e)) (hs : szT P e = some sz) (hp : cO vm p = some xp)
    (hlo : cOpt vm lo = some xlo) (hhi : cOpt vm hi = some xhi) {v : AV} {h' : H}
    (hr : rSlSl sz xp xlo xhi a h = .val v h') : h' = h ∧ Quiet P E w (do pure (.value (← Instr.sliceAt t (x.eval p) (lo.map x.eval) (hi.map x.eval) none))) v := by
  unfold rSlSl at hr
  split at hr
  · rename_i l m hg hl hm
    split at hr
    · rename_i pq hb
      obtain ⟨p', q'⟩ := pq
      cases hr
      have heq := opr_sound S hA hp hg
      simp only [cv, Option.some.injEq] at heq
      obtain ⟨hrun, h1, h2⟩ := bounds_sound (P := P) (w := w) (E := E) true hb (getOpt_sound S hA hlo hl) (getOpt_sound S hA hhi hm) (Nat.le_refl _)
      have e1 : q' = 0 := by omega
      have e2 : p' = 0 := by omega
      subst e1; subst e2
      refine ⟨rfl, .of ⟨.slice none 0 0, by simp [cv], ?_⟩⟩
      simp [Instr.sliceAt, Instr.slice, run_underlying ht, ← heq, hrun, szT_run hs]
    · cases hr
  · rename_i b off len cap ex l m hg hl hm
    obtain ⟨e', he, heq⟩ := cv_slice (opr_sound S hA hp hg)
    split at hr
    · rename_i p' q' hb
      obtain ⟨hrun, h1, h2⟩ := bounds_sound (P := P) (w := w) (E := E) (cap' := if ex then cap else cap + e'.ex) true hb (getOpt_sound S hA hlo hl) (getOpt_sound S hA hhi hm) (by split <;> omega)
      split at hr
      · cases hr
        refine ⟨rfl, .of ⟨.slice (some ⟨e'.rb, e'.ro + off, none⟩) q' (if ex then cap else cap + e'.ex), by simp [cv, he], ?_⟩⟩
        simp [Instr.sliceAt, Instr.slice, run_underlying ht, heq, hrun, szT_run hs, Addr.add_lit]
      · rename_i hp0
        split at hr
        · rename_i hpc
          have hpc' := Nat.eq_of_beq_eq_true hpc
          cases ex with
          | true =>
            cases hr
            subst hpc'
            refine ⟨rfl, .of ⟨.slice (some ⟨e'.rb, e'.ro + off, none⟩) (q' - p') 0, by simp [cv, he], ?_⟩⟩
            simp at hrun
            simp [Instr.sliceAt, Instr.slice, run_underlying ht, heq, hrun, szT_run hs, Addr.add_lit]
          | false => cases hr
        · rename_i hpc
          cases hr
          have hne : p' ≠ cap := fun he' => by subst he'; simp at hpc
          refine ⟨rfl, .of ⟨.slice (some ⟨e'.rb, e'.ro + (off + p' * sz), none⟩) (q' - p') ((if ex then cap else cap + e'.ex) - p'), ?_, ?_⟩⟩
          · simp only [cv, he]
            have : (if ex = true then cap.sub p' else cap.sub p' + e'.ex) = (if ex = true then cap else cap + e'.ex) - p' := by
              show (if ex = true then cap - p' else cap - p' + e'.ex) = _
              split <;> omega
            rw [this]
            rfl
          · have hne2 : ¬ ((if ex = true then cap else cap + e'.ex) = p') := by split <;> omega
            simp [Instr.sliceAt, Instr.slice, run_underlying ht, heq, hrun, szT_run hs, Addr.add_lit, hne2, Nat.add_assoc]
    · cases hr
  · cases hr

theorem slArr_sound (S : HSim P W0 E h w) (hA : ASim E n vm a x) {t e : TypeId} {len sz : Nat} {p : Operand} {lo hi : Option Operand} {xp : XO} {xlo xhi : Option XO} (ht : P.underlying t = some (.array len e)) (hs : szT P e = some sz) (hp : cO vm p = some xp)
    (hlo : cOpt vm lo = some xlo) (hhi : cOpt vm hi = some xhi) {v : AV} {h' : H}
    (hr : rSlArr len sz xp xlo xhi a h = .val v h') : h' = h ∧ Quiet P E w (do pure (.value (← Instr.sliceAt t (x.eval p) (lo.map x.eval) (hi.map x.eval) none))) v := by
  unfold rSlArr at hr
  split at hr
  · rename_i b off l m hg hl hm
    obtain ⟨e', he, heq⟩ := cv_ptr (opr_sound S hA hp hg)
    split at hr
    · rename_i p' q' hb
      obtain ⟨hrun, h1, h2⟩ := bounds_sound (P := P) (w := w) (E := E) false hb (getOpt_sound S hA hlo hl) (getOpt_sound S hA hhi hm) (Nat.le_refl _)
      split at hr
      · cases hr
        refine ⟨rfl, .of ⟨.slice (some ⟨e'.rb, e'.ro + off, none⟩) q' len, by simp [cv, he], ?_⟩⟩
        simp [Instr.sliceAt, run_underlying ht, heq, hrun, szT_run hs, Addr.add_lit, Instr.sureAddr]
      · rename_i hp0
        split at hr
        · rename_i hpc
          have hpc' := Nat.eq_of_beq_eq_true hpc
          cases hr
          subst hpc'
          refine ⟨rfl, .of ⟨.slice (some ⟨e'.rb, e'.ro + off, none⟩) (q' - p') 0, by simp [cv, he], ?_⟩⟩
          simp [Instr.sliceAt, run_underlying ht, heq, hrun, szT_run hs, Addr.add_lit, Instr.sureAddr]
        · rename_i hpc
          cases hr
          have hne : ¬ len = p' := fun he' => by subst he'; simp at hpc
          refine ⟨rfl, .of ⟨.slice (some ⟨e'.rb, e'.ro + (off + p' * sz), none⟩) (q' - p') (len - p'), by simp [cv, he], ?_⟩⟩
          simp [Instr.sliceAt, run_underlying ht, heq, hrun, szT_run hs, Addr.add_lit, Instr.sureAddr, hne, Nat.add_assoc]
    · cases hr
  · cases hr

/-! maps -/
theorem EntsOk.length : ∀ {es : List (AV × AV × Nat)} {xs : List MapEntry}, EntsOk E es xs → xs.length = es.length
  | [], [], _ => rfl
  | (k, v, b) :: es, y :: ys, hh => by simp [EntsOk.length hh.2.2.2]
  | [], _ :: _, hh => hh.elim
  | (_, _, _) :: _, [], hh => hh.elim
theorem keyEq_sound {d : TypeDesc} {k y : AV} {u z : Value} {r : Bool} (hd : (∃ j, d = .int j ∧ ∃ i m, k = .int i m ∧ symB m = false) ∨ (d = .string ∧ ∃ l c, k = .str l c)) (hk : cv E k = some u) (hy : cv E y = some z)
    (hr : keyEq k y = some r) : Instr.sameNow d u z = some r := by
  rcases hd with ⟨j, rfl, i, m, rfl, hsm⟩ | ⟨rfl, l, c, rfl⟩
  · cases cv_int hk hsm
    unfold keyEq at hr
    split at hr
    · rename_i j' a' k' b' heq
      cases heq
      split at hr
      · cases hr
      · rename_i hns
        simp only [Bool.or_eq_false_iff] at hns
        cases cv_int hy hns.2
        split at hr
        · rename_i hik
          cases ikeq_eq hik
          cases hr
          simp [Instr.sameNow, ieq_iff]
        · cases hr
    · rename_i heq; cases heq
    · cases hr
  · cases cv_str hk
    unfold keyEq at hr
    split at hr
    · rename_i heq; cases heq
    · rename_i l' c' m' d' heq
      cases heq
      cases cv_str hy
      cases hr
      simp only [Instr.sameNow, Option.some.injEq]
      rw [Bool.eq_iff_iff, streq_iff, bytes_beq]
    · cases hr
theorem findK_sound {d : TypeDesc} {k : AV} {u : Value} (hd : (∃ j, d = .int j ∧ ∃ i m, k = .int i m ∧ symB m = false) ∨ (d = .string ∧ ∃ l c, k = .str l c)) (hk : cv E k = some u) :
    ∀ {es : List (AV × AV × Nat)} {xs : List MapEntry} (i : Nat) {r : Option AV}, EntsOk E es xs → findK k es = some r →
    (r = none ∧ Instr.findNow d u xs i = some none) ∨ (∃ v j z, r = some v ∧ cv E v = some z ∧ Instr.findNow d u xs i = some (some (i + j, z)))
  | [], [], i, r, _, hr => by simp only [findK, Option.some.injEq] at hr; exact .inl ⟨hr.symm, rfl⟩
  | [], _ :: _, _, _, hh, _ => hh.elim
  | (_, _, _) :: _, [], _, _, hh, _ => hh.elim
  | (y, v, b) :: es, e :: xs, i, r, ⟨h1, h2, h3, h4⟩, hr => by
    simp only [findK] at hr
    split at hr
    · rename_i hq
      cases hr
      exact .inr ⟨v, 0, e.val, rfl, h2, by simp [Instr.findNow, keyEq_sound hd hk h1 hq]⟩
    · rename_i hq
      rcases findK_sound hd hk (i + 1) h4 hr with ⟨hr1, hr2⟩ | ⟨v', j, z, hr1, hz, hr2⟩
      · exact .inl ⟨hr1, by simp [Instr.findNow, keyEq_sound hd hk h1 hq, hr2]⟩
      · exact .inr ⟨v', j + 1, z, hr1, hz, by simp [Instr.findNow, keyEq_sound hd hk h1 hq, hr2]; omega⟩
    · cases hr
theorem keyT_desc {kt : TypeId} {isInt : Bool} (hk : keyT P kt = some isInt) : ∃ d, P.underlying kt = some d ∧ ((isInt = true ∧ ∃ j, d = .int j) ∨ (isInt = false ∧ d = .string)) := by
  unfold keyT at hk
  split at hk
  · rename_i j hu; cases hk; exact ⟨_, hu, .inl ⟨rfl, _, rfl⟩⟩
  · rename_i hu; cases hk; exact ⟨_, hu, .inr ⟨rfl, rfl⟩⟩
  · cases hk
theorem plainKey_desc {isInt : Bool} {k : AV} {d : TypeDesc} (hp : plainKey isInt k = true) (hd : (isInt = true ∧ ∃ j, d = .int j) ∨ (isInt = false ∧ d = .string)) :
    (∃ j, d = .int j ∧ ∃ i m, k = .int i m ∧ symB m = false) ∨ (d = .string ∧ ∃ l c, k = .str l c) := by
  unfold plainKey at hp
  split at hp
  · rcases hd with ⟨-, j, rfl⟩ | ⟨h1, -⟩
    · exact .inl ⟨j, rfl, _, _, rfl, by simpa using hp⟩
    · cases h1
  · rcases hd with ⟨h1, -⟩ | ⟨-, rfl⟩
    · cases h1
    · exact .inr ⟨rfl, _, _, rfl⟩
  · cases hp
theorem checkKey_run {kt : TypeId} {d : TypeDesc} {k : AV} {u : Value} (hu : P.underlying kt = some d) (hd : (∃ j, d = .int j ∧ ∃ i m, k = .int i m ∧ symB m = false) ∨ (d = .string ∧ ∃ l c, k = .str l c)) (hk : cv E k = some u) (e : Bool) :
    (Instr.checkKey e 10000 kt u).run P w = .ok () w := by
  show (Instr.checkKey e (9999 + 1) kt u).run P w = .ok () w
  generalize 9999 = N
  unfold Instr.checkKey
  simp only [Sem.run_bind, run_underlying hu, Result.andThen_ok]
  rcases hd with ⟨j, rfl, i, m, rfl, hsm⟩ | ⟨rfl, l, c, rfl⟩
  · cases cv_int hk hsm; rfl
  · cases cv_str hk; rfl
theorem mapEs_sound (S : HSim P W0 E h w) {m : AV} {u : Value} {es : List (AV × AV × Nat)} (hu : cv E m = some u) (hm : mapEs m h = some es) :
    (u = .map none ∧ es = []) ∨ (∃ r xs clock, u = .map (some r) ∧ w.heap[r]? = some (.map xs clock) ∧ EntsOk E es xs.toList) := by
  unfold mapEs at hm
  split at hm
  · cases hm; simp only [cv, Option.some.injEq] at hu; exact .inl ⟨hu.symm, rfl⟩
  · split at hm
    · rename_i hg
      cases hm
      obtain ⟨e, he, rfl⟩ := cv_map hu
      obtain ⟨o, ho, xs, rfl, hes⟩ := S.blk _ e _ he hg
      exact .inr ⟨e.rb, xs, _, rfl, ho, hes⟩
    · cases hm
  · cases hm

def lookOut (ok : Bool) (z : AV) (r : Option AV) : AV := match r with
  | some v => (match ok with | true => .tuple [v, .bool true] | false => v)
  | none => (match ok with | true => .tuple [z, .bool false] | false => z)
theorem look_sound (S : HSim P W0 E h w) (hA : ASim E n vm a x) {t kt et : TypeId} {isInt ok : Bool} {z : AV} {p i : Operand} {xp xi : XO} (ht : P.underlying t = some (.map kt et)) (hk : keyT P kt = some isInt) (hz : zeroT P et = some z)
    (hp : cO vm p = some xp) (hi : cO vm i = some xi) {v : AV} {h' : H}
    (hr : rLook isInt z ok xp xi a h = .val v h') : h' = h ∧ Quiet P E w (do pure (.value (← Instr.lookup t (x.eval p) (x.eval i) ok))) v := by
  unfold rLook at hr
  split at hr
  · rename_i m k hg hg'
    split at hr
    · rename_i es hpk hes
      obtain ⟨d, hu, hd⟩ := keyT_desc hk
      have hd' := plainKey_desc hpk hd
      have hkv := opr_sound S hA hi hg'
      have hmv := opr_sound S hA hp hg
      obtain ⟨zu, hzu, hzr⟩ := zeroT_run (P := P) (E := E) (w := w) hz
      have hck : ∀ e, (Instr.checkKey e 10000 kt (x.eval i)).run P w = .ok () w := checkKey_run hu hd' hkv
      have fin2 : ∀ {r : Option AV}, findK k es = some r → ∃ y, cv E (lookOut ok z r) = some y ∧ (Instr.lookup t (x.eval p) (x.eval i) ok).run P w = .ok y w := by
        intro r hr
        rcases mapEs_sound S hmv hes with ⟨hm, rfl⟩ | ⟨rr, xs, clock, hm, ho, hxs⟩
        · simp only [findK, Option.some.injEq] at hr
          subst hr
          have hf : Instr.findNow d (x.eval i) [] 0 = some none := rfl
          cases ok with
          | true => exact ⟨.tuple #[zu, .bool false], by simp [lookOut, cv, cvL, hzu], by simp [Instr.lookup, run_underlying ht, hm, hck, run_findKey hu hf, hzr]⟩
          | false => exact ⟨zu, hzu, by simp [Instr.lookup, run_underlying ht, hm, hck, run_findKey hu hf, hzr]⟩
        · rcases findK_sound hd' hkv 0 hxs hr with ⟨rfl, hf⟩ | ⟨v', j, zv, rfl, hzv, hf⟩
          · cases ok with
            | true => exact ⟨.tuple #[zu, .bool false], by simp [lookOut, cv, cvL, hzu], by simp [Instr.lookup, run_underlying ht, hm, hck, run_findKey hu hf, hzr, run_getObj_map ho]⟩
            | false => exact ⟨zu, hzu, by simp [Instr.lookup, run_underlying ht, hm, hck, run_findKey hu hf, hzr, run_getObj_map ho]⟩
          · cases ok with
            | true => exact ⟨.tuple #[zv, .bool true], by simp [lookOut, cv, cvL, hzv], by simp [Instr.lookup, run_underlying ht, hm, hck, run_findKey hu hf, run_getObj_map ho]⟩
            | false => exact ⟨zv, hzv, by simp [Instr.lookup, run_underlying ht, hm, hck, run_findKey hu hf, run_getObj_map ho]⟩
      split at hr
      · rename_i v' hf
        cases hr
        obtain ⟨y, hy, hrun⟩ := fin2 hf
        exact ⟨rfl, .of ⟨y, hy, hrun⟩⟩
      · rename_i hf
        cases hr
        obtain ⟨y, hy, hrun⟩ := fin2 hf
        exact ⟨rfl, .of ⟨y, hy, hrun⟩⟩
      · cases hr
    · cases hr
  · cases hr

/-! lengths -/
theorem len_sound (S : HSim P W0 E h w) (hA : ASim E n vm a x) {t : TypeId} {d : TypeDesc} {k : LK} {p : Operand} {xp : XO} (ht : P.underlying t = some d)
    (hd : (k = .str ∧ d = .string) ∨ (k = .slice ∧ ∃ e, d = .slice e) ∨ (k = .map ∧ ∃ kt e, d = .map kt e)) (hp : cO vm p = some xp) {ty : TypeId} {v : AV} {h' : H}
    (hr : rLen k xp a h = .val v h') : h' = h ∧ Quiet P E w (do pure (.value (← Builtin.len_ #[t] ty #[x.eval p]))) v := by
  unfold rLen at hr
  split at hr
  · rename_i u hu
    obtain ⟨rfl, hv⟩ := ofO_val hr
    have huv := opr_sound S hA hp hu
    refine ⟨rfl, .of ?_⟩
    have cvi : ∀ m : Nat, cv E (.int .i64 (.ofNat m)) = some (goInt (m : Int)) := fun m => cv_mk
    unfold evLen at hv
    split at hv
    · obtain ⟨rfl, -⟩ := mkNat_some hv
      have heq := cv_str huv
      rcases hd with ⟨-, rfl⟩ | ⟨h1, -⟩ | ⟨h1, -⟩
      · exact ⟨_, cvi _, by simp [Builtin.len_, run_underlying ht, heq, strB_size]⟩
      · cases h1
      · cases h1
    · obtain ⟨rfl, -⟩ := mkNat_some hv
      obtain ⟨e, he, heq⟩ := cv_slice huv
      rcases hd with ⟨h1, -⟩ | ⟨-, e', rfl⟩ | ⟨h1, -⟩
      · cases h1
      · exact ⟨_, cvi _, by simp [Builtin.len_, run_underlying ht, heq]⟩
      · cases h1
    · obtain ⟨rfl, -⟩ := mkNat_some hv
      simp only [cv, Option.some.injEq] at huv
      rcases hd with ⟨h1, -⟩ | ⟨-, e', rfl⟩ | ⟨h1, -⟩
      · cases h1
      · exact ⟨_, cvi _, by simp [Builtin.len_, run_underlying ht, ← huv]⟩
      · cases h1
    · obtain ⟨rfl, -⟩ := mkNat_some hv
      simp only [cv, Option.some.injEq] at huv
      rcases hd with ⟨h1, -⟩ | ⟨h1, -⟩ | ⟨-, kt, e', rfl⟩
      · cases h1
      · cases h1
      · exact ⟨_, cvi _, by simp [Builtin.len_, run_underlying ht, ← huv]⟩
    · split at hv
      · rename_i b es clock hg
        obtain ⟨rfl, -⟩ := mkNat_some hv
        obtain ⟨e, he, heq⟩ := cv_map huv
        obtain ⟨o, ho, xs, rfl, hes⟩ := S.blk _ e _ he hg
        rcases hd with ⟨h1, -⟩ | ⟨h1, -⟩ | ⟨-, kt, e', rfl⟩
        · cases h1
        · cases h1
        · have hl := hes.length
          simp at hl
          exact ⟨_, cvi _, by simp [Builtin.len_, run_underlying ht, heq, run_getObj_map ho, hl]⟩
      · cases hv
    · cases hv
  · cases hr
theorem cap_sound (S : HSim P W0 E h w) (hA : ASim E n vm a x) {t e : TypeId} {p : Operand} {xp : XO} (ht : P.underlying t = some (.slice e)) (hp : cO vm p = some xp) {ty : TypeId} {v : AV} {h' : H}
    (hr : rCapS xp a h = .val v h') : h' = h ∧ Quiet P E w (do pure (.value (← Builtin.cap_ #[t] ty #[x.eval p]))) v := by
  have cvi : ∀ m : Nat, cv E (.int .i64 (.ofNat m)) = some (goInt (m : Int)) := fun m => cv_mk
  unfold rCapS at hr
  split at hr
  · rename_i hu
    cases hr
    have huv := opr_sound S hA hp hu
    simp only [cv, Option.some.injEq] at huv
    exact ⟨rfl, .of ⟨_, cvi _, by simp [Builtin.cap_, run_underlying ht, ← huv]⟩⟩
  · rename_i b off len cap hu
    obtain ⟨rfl, hv⟩ := ofO_val hr
    obtain ⟨rfl, -⟩ := mkNat_some hv
    obtain ⟨e, he, heq⟩ := cv_slice (opr_sound S hA hp hu)
    exact ⟨rfl, .of ⟨_, cvi _, by simp [Builtin.cap_, run_underlying ht, heq]⟩⟩
  · cases hr
theorem lenN_sound {t e : TypeId} {m : Nat} {p : Operand} (ht : P.underlying t = some (.array m e)) {ty : TypeId} {v : AV} {h' : H}
    (hr : rLenN m a h = .val v h') : h' = h ∧ Quiet P E w (do pure (.value (← Builtin.len_ #[t] ty #[x.eval p]))) v := by
  obtain ⟨rfl, hv⟩ := ofO_val hr
  obtain ⟨rfl, -⟩ := mkNat_some hv
  exact ⟨rfl, .of ⟨goInt (m : Int), by simp only [cv]; rfl, by simp [Builtin.len_, run_underlying ht]⟩⟩

/-! type assertions -/
theorem ta_sound (S : HSim P W0 E h w) (hA : ASim E n vm a x) {t xt : TypeId} {d : TypeDesc} {z : AV} {ok : Bool} {p : Operand} {xp : XO} (ht : P.underlying t = some d) (hn : ∀ ms, d ≠ .interface ms) (hz : zeroT P t = some z) (hp : cO vm p = some xp) {v : AV} {h' : H}
    (hr : rTa t z ok xp a h = .val v h') : h' = h ∧ Quiet P E w (do pure (.value (← Instr.typeAssert (x.eval p) xt t ok))) v := by
  obtain ⟨zu, hzu, hzr⟩ := zeroT_run (P := P) (E := E) (w := w) hz
  unfold rTa at hr
  split at hr
  · rename_i u y hg
    obtain ⟨yv, hyv, heq⟩ := cv_iface (opr_sound S hA hp hg)
    split at hr
    · rename_i hb
      have hut := Nat.eq_of_beq_eq_true hb
      subst hut
      cases hr
      refine ⟨rfl, .of ⟨if ok then .tuple #[yv, .bool true] else yv, by cases ok <;> simp [cv, cvL, hyv], ?_⟩⟩
      cases d <;> first | (simp [Instr.typeAssert, run_underlying ht, heq]; done) | exact absurd rfl (hn _)
    · rename_i hb
      have hut : u ≠ t := fun he => by subst he; simp at hb
      cases ok with
      | false => cases hr
      | true =>
        cases hr
        refine ⟨rfl, .of ⟨.tuple #[zu, .bool false], by simp [cv, cvL, hzu], ?_⟩⟩
        cases d <;> first | (simp [Instr.typeAssert, run_underlying ht, heq, hut, hzr]; done) | exact absurd rfl (hn _)
  · rename_i hg
    have heq := opr_sound S hA hp hg
    simp only [cv, Option.some.injEq] at heq
    cases ok with
    | false => cases hr
    | true =>
      cases hr
      refine ⟨rfl, .of ⟨.tuple #[zu, .bool false], by simp [cv, cvL, hzu], ?_⟩⟩
      cases d <;> first | (simp [Instr.typeAssert, run_underlying ht, ← heq, hzr]; done) | exact absurd rfl (hn _)
  · cases hr

end
end Go.Ev
