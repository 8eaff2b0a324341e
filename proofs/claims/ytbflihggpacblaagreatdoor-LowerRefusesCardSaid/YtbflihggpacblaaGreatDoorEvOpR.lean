/- Composite values, slices, maps, lengths. -/
import Derived.Test.YtbflihggpacblaaGreatDoorEvOpQ
import Derived.MapKept
import Derived.WideKeyRuns
set_option linter.unusedVariables false
set_option linter.unusedSimpArgs false
namespace Go.Ev
open Go.MapKept (bytes_beq run_findKey)
set_option linter.unusedSectionVars false
variable [Sig]

section
variable {P : Program} {W0 : World} {E : Env} {h : H} {w : World} {n vm : Nat} {a : A} {x : Act}

/-! parts -/
theorem foldl_set (off : Nat) : ∀ (us : List Value) (j : Nat) (C : Array Value), off + j + us.length ≤ C.size →
    (us.zipIdx j).foldl (fun cs (p : Value × Nat) => cs.setIfInBounds (off + p.2) p.1) C = (C.toList.take (off + j) ++ (us ++ C.toList.drop (off + j + us.length))).toArray
  | [], j, C, hl => by simp
  | u :: us, j, C, hl => by
    simp only [List.zipIdx_cons, List.foldl_cons]
    simp only [List.length_cons] at hl
    rw [foldl_set off us (j + 1) _ (by simp; omega)]
    apply Array.ext'
    apply List.ext_getElem?
    intro i
    simp only [Array.toList_setIfInBounds, List.length_cons]
    have e1 : (List.take (off + (j + 1)) (C.toList.set (off + j) u)).length = off + (j + 1) := by simp; omega
    have e2 : (List.take (off + j) C.toList).length = off + j := by simp; omega
    by_cases h1 : i < off + j
    · rw [List.getElem?_append_left (by omega), List.getElem?_append_left (by omega), List.getElem?_take, List.getElem?_take, if_pos (by omega), if_pos h1, List.getElem?_set]
      rw [if_neg (by omega)]
    · have R : (List.take (off + j) C.toList ++ (u :: us ++ List.drop (off + j + (us.length + 1)) C.toList))[i]? = (u :: us ++ List.drop (off + j + (us.length + 1)) C.toList)[i - (off + j)]? := by
        rw [List.getElem?_append_right (by omega), e2]
      rw [R]
      by_cases h2 : i = off + j
      · subst h2
        rw [List.getElem?_append_left (by omega), List.getElem?_take, if_pos (by omega), List.getElem?_set]
        simp
        omega
      · have L : (List.take (off + (j + 1)) (C.toList.set (off + j) u) ++ (us ++ List.drop (off + (j + 1) + us.length) (C.toList.set (off + j) u)))[i]? =
            (us ++ List.drop (off + (j + 1) + us.length) (C.toList.set (off + j) u))[i - (off + (j + 1))]? := by
          rw [List.getElem?_append_right (by omega), e1]
        rw [L]
        have e3 : i - (off + j) = (i - (off + (j + 1))) + 1 := by omega
        rw [e3]
        simp only [List.cons_append, List.getElem?_cons_succ]
        by_cases h3 : i - (off + (j + 1)) < us.length
        · rw [List.getElem?_append_left h3, List.getElem?_append_left h3]
        · rw [List.getElem?_append_right (by omega), List.getElem?_append_right (by omega), List.getElem?_drop, List.getElem?_drop, List.getElem?_set, if_neg (by omega)]
          congr 1
          omega

theorem fill_sound {place : Nat → Option (Nat × Nat)} {ops : List (Nat × Operand)} {xs : List (Nat × Nat × XO)} (S : HSim P W0 E h w) (hA : ASim E n vm a x) (hc : cParts vm place ops = some xs) :
    ∀ {l : List (Nat × Nat × AV)} {z cs : List AV} {C : List Value}, getParts a xs = some l → fillL l z = some cs → cvC E z = some C →
    ∃ C', cvC E cs = some C' ∧ Instr.fill place C.toArray (ops.map fun p => (p.1, x.eval p.2)) = some C'.toArray := by
  induction ops generalizing xs with
  | nil =>
    intro l z cs C hg hf hz
    simp only [cParts, Option.some.injEq] at hc; subst hc
    simp only [getParts, Option.some.injEq] at hg; subst hg
    simp only [fillL, Option.some.injEq] at hf; subst hf
    exact ⟨C, hz, by simp [Instr.fill]⟩
  | cons p ops ih =>
    intro l z cs C hg hf hz
    obtain ⟨i, p⟩ := p
    simp only [cParts] at hc
    split at hc
    · rename_i off sz xo xl hpl ho hl
      cases hc
      simp only [getParts] at hg
      split at hg
      · rename_i v l' hv hl'
        cases hg
        simp only [fillL] at hf
        split at hf
        · rename_i vs hvs
          split at hf
          · rename_i hb
            split at hf
            · rename_i r hr
              have hlen : vs.length = sz := by have := Nat.eq_of_beq_eq_true hb; rw [lenL_eq] at this; exact this
              have hcv := opr_sound S hA ho hv
              have hcc := cells_cv hvs hcv
              have hus := cvC_length hcc
              obtain ⟨hle, hrr⟩ := writeL_some off vs z r hr
              have hzl := cvC_length hz
              have hnew : cvC E r = some (C.take off ++ ((x.eval p).cells.toList ++ C.drop (off + vs.length))) := by
                subst hrr
                refine cvC_append ?_ (cvC_append hcc ?_)
                · refine cvC_of_get _ _ (by simp; omega) ?_
                  intro j y hj
                  rw [List.getElem?_take] at hj
                  split at hj
                  · rename_i hlt
                    obtain ⟨h1, u, hu, hu'⟩ := cvC_get hz j y hj
                    exact ⟨h1, u, hu, by rw [List.getElem?_take, if_pos hlt]; exact hu'⟩
                  · cases hj
                · refine cvC_of_get _ _ (by simp; omega) ?_
                  intro j y hj
                  rw [List.getElem?_drop] at hj
                  obtain ⟨h1, u, hu, hu'⟩ := cvC_get hz _ y hj
                  exact ⟨h1, u, hu, by rw [List.getElem?_drop]; exact hu'⟩
              obtain ⟨C', hC', hfill⟩ := ih hl hl' hf hnew
              refine ⟨C', hC', ?_⟩
              simp only [List.map_cons, Instr.fill, hpl]
              have hsz : (x.eval p).cells.size = sz := by simp at hus; omega
              have hcond : ((x.eval p).cells.size ≠ sz || off + (x.eval p).cells.size > C.toArray.size) = false := by
                simp [hsz]; omega
              rw [if_neg (by simp [hsz]; omega)]
              have hfs := foldl_set off (x.eval p).cells.toList 0 C.toArray (by simp [hsz]; omega)
              have hz2 : (x.eval p).cells.zipIdx.foldl (fun cs (q : Value × Nat) => cs.setIfInBounds (off + q.2) q.1) C.toArray = (C.take off ++ ((x.eval p).cells.toList ++ C.drop (off + vs.length))).toArray := by
                rw [← Array.foldl_toList, Array.toList_zipIdx]
                simp only [Nat.add_zero] at hfs
                rw [hfs]
                simp [hsz, hlen]
              rw [← hfill]
              congr 1
            · cases hf
          · cases hf
        · cases hf
      · cases hg
    · cases hc

theorem zeroC_run {t : TypeId} {z : List AV} (hz : zeroC P t = some z) : ∃ i v, P.info? t = some i ∧ i.zero = some v ∧ cvC E z = some v.cells.toList ∧ z.length = i.size := by
  unfold zeroC at hz
  split at hz
  · rename_i zv m hzv hm
    split at hz
    · rename_i cs hcs
      split at hz
      · rename_i hb
        cases hz
        unfold zeroT at hzv
        split at hzv
        · rename_i i hi
          split at hzv
          · rename_i v hv
            refine ⟨i, v, hi, hv, cells_cv hcs (absV_cv hzv), ?_⟩
            have := Nat.eq_of_beq_eq_true hb
            rw [lenL_eq] at this
            obtain ⟨i', hi', hs'⟩ := szT_info hm
            rw [hi] at hi'; cases hi'
            rw [this, hs']
          · cases hzv
        · cases hzv
      · cases hz
    · cases hz
  · cases hz

theorem placesT_mapM : ∀ {fs : List Field} {pl : List (Nat × Nat)}, placesT P fs = some pl → fs.mapM (fun f => (P.info? f.type).map fun i => (f.offset, i.size)) = some pl
  | [], pl, hp => by simp only [placesT, Option.some.injEq] at hp; subst hp; simp
  | f :: fs, pl, hp => by
    simp only [placesT] at hp
    split at hp
    · rename_i m l hm hl
      cases hp
      obtain ⟨i, hi, hs⟩ := szT_info hm
      simp [List.mapM_cons, hi, hs, placesT_mapM hl]
    · cases hp

theorem build_sound (S : HSim P W0 E h w) (hA : ASim E n vm a x) {t : TypeId} {ps : Array (Nat × Operand)} {z : List AV} {xl : List (Nat × Nat × XO)} {place : Nat → Option (Nat × Nat)} (hz : zeroC P t = some z)
    (hpl : (∃ fs pl, P.underlying t = some (.struct fs) ∧ placesT P fs.toList = some pl ∧ place = fun i => pl[i]?) ∨ (∃ m e sz, P.underlying t = some (.array m e) ∧ szT P e = some sz ∧ place = fun i => some (Nat.mul i sz, sz)))
    (hc : cParts vm place ps.toList = some xl) {v : AV} {h' : H}
    (hr : rBuild z xl a h = .val v h') : h' = h ∧ Quiet P E w (do pure (.value (← Instr.build t (ps.map fun (i, y) => (i, x.eval y))))) v := by
  unfold rBuild at hr
  split at hr
  · rename_i l hl
    split at hr
    · rename_i cs hcs
      cases hr
      obtain ⟨i, zv, hi, hzv, hzc, hzl⟩ := zeroC_run (E := E) hz
      obtain ⟨C', hC', hfill⟩ := fill_sound S hA hc hl hcs hzc
      refine ⟨rfl, .of ⟨.agg C'.toArray, by simp [cv, hC'], ?_⟩⟩
      refine run_build w t _ _ ?_
      have hmap : (ps.map fun (i, y) => (i, x.eval y)).toList = ps.toList.map fun p => (p.1, x.eval p.2) := by simp
      rw [hmap]
      rcases hpl with ⟨fs, pl, hu, hp, rfl⟩ | ⟨m, e, sz, hu, hs, rfl⟩
      · simp only [Program.built, hi, hu, hzv, placesT_mapM hp]
        simpa using hfill
      · obtain ⟨ie, hie, hsz⟩ := szT_info hs
        simp only [Program.built, hi, hu, hzv, hie]
        subst hsz
        simpa using hfill
    · cases hr
  · cases hr

/-! slices -/
def OptCv (E : Env) : Option AV → Option Value → Prop
  | none, none => True
  | some v, some u => cv E v = some u
  | _, _ => False
theorem getOpt_sound (S : HSim P W0 E h w) (hA : ASim E n vm a x) {o : Option Operand} {xo : Option XO} {v : Option AV} (hc : cOpt vm o = some xo) (hg : getOpt a xo = some v) : OptCv E v (o.map x.eval) := by
  cases o with
  | none =>
    simp only [cOpt, Option.some.injEq] at hc; subst hc
    simp only [getOpt, Option.some.injEq] at hg; subst hg
    trivial
  | some o =>
    simp only [cOpt] at hc
    split at hc
    · rename_i b hb
      cases hc
      simp only [getOpt] at hg
      split at hg
      · rename_i v' hv'
        cases hg
        exact opr_sound S hA hb hv'
      · cases hg
    · cases hc
theorem natOf_some {v : AV} {m : Nat} (hv : natOf v = some m) : ∃ k, v = .int k (.ofNat m) := by
  unfold natOf at hv
  split at hv
  · cases hv; exact ⟨_, rfl⟩
  · cases hv
theorem bounds_sound {len cap cap' p q : Nat} {lo hi : Option AV} {lo' hi' : Option Value} (isS : Bool) (hb : bounds len cap lo hi = some (p, q)) (hlo : OptCv E lo lo') (hhi : OptCv E hi hi') (hcap : cap ≤ cap') :
    (Instr.sliceBounds isS len cap' lo' hi' none).run P w = .ok (p, q, cap') w ∧ p ≤ q ∧ q ≤ cap := by
  unfold bounds at hb
  split at hb
  · rename_i q' p' hq hp
    split at hb
    · rename_i hle
      cases hb
      simp only [Bool.and_eq_true] at hle
      have h1 := Nat.le_of_ble_eq_true hle.1
      have h2 := Nat.le_of_ble_eq_true hle.2
      refine ⟨?_, h2, h1⟩
      have hh : ∀ code, (match hi' with | some v => Instr.sliceBound v cap' code | none => pure len).run P w = .ok q w := by
        intro code
        cases hi with
        | none =>
          cases hi' with
          | some _ => exact hhi.elim
          | none => simp only [Option.some.injEq] at hq; subst hq; rfl
        | some v =>
          cases hi' with
          | none => exact hhi.elim
          | some u =>
            obtain ⟨k, rfl⟩ := natOf_some hq
            have hu := cv_int hhi
            subst hu
            have : q ≤ cap' := by omega
            simp [Instr.sliceBound, asIntOf, this]
      have hl : ∀ code, (match lo' with | some v => Instr.sliceBound v q code | none => pure 0).run P w = .ok p w := by
        intro code
        cases lo with
        | none =>
          cases lo' with
          | some _ => exact hlo.elim
          | none => simp only [Option.some.injEq] at hp; subst hp; rfl
        | some v =>
          cases lo' with
          | none => exact hlo.elim
          | some u =>
            obtain ⟨k, rfl⟩ := natOf_some hp
            have hu := cv_int hlo
            subst hu
            simp [Instr.sliceBound, asIntOf, h2]
      have key : ∀ (c1 c2 : BoundsCode), ((do
          let h ← (match hi' with | some v => Instr.sliceBound v cap' c1 | none => pure len)
          let l ← (match lo' with | some v => Instr.sliceBound v h c2 | none => pure 0)
          pure (l, h, cap') : Sem (Nat × Nat × Nat))).run P w = .ok (p, q, cap') w := by
        intro c1 c2
        simp only [Sem.run_bind, hh, hl, Result.andThen_ok, Sem.run_pure]
      have key' := key (if isS = true then .sliceAcap else .sliceAlen) .sliceB
      cases hi' <;> cases lo' <;> simpa [Instr.sliceBounds] using key'
    · cases hb
  · cases hb

theorem strB_extract (len c p q : Nat) (hpq : p ≤ q) (hq : q ≤ len) : (strB len c).extract p q = strB (q - p) (c / 256 ^ p % 256 ^ (q - p)) := by
  apply ByteArray.ext
  rw [ByteArray.data_extract]
  apply Array.ext'
  show ((bytesOf len c).toArray.extract p q).toList = bytesOf (q - p) _
  rw [bytesOf_mod]
  simp only [List.extract_toArray, List.extract_eq_take_drop]
  rw [bytesOf_drop, bytesOf_take _ _ _ (by omega)]

theorem slStr_sound (S : HSim P W0 E h w) (hA : ASim E n vm a x) {t : TypeId} {p : Operand} {lo hi : Option Operand} {xp : XO} {xlo xhi : Option XO} (ht : P.underlying t = some .string) (hp : cO vm p = some xp)
    (hlo : cOpt vm lo = some xlo) (hhi : cOpt vm hi = some xhi) {v : AV} {h' : H}
    (hr : rSlStr xp xlo xhi a h = .val v h') : h' = h ∧ Quiet P E w (do pure (.value (← Instr.sliceAt t (x.eval p) (lo.map x.eval) (hi.map x.eval) none))) v := by
  unfold rSlStr at hr
  split at hr
  · rename_i len c hg
    split at hr
    · rename_i l m hl hm
      split at hr
      · rename_i p' q' hb
        rw [frc_eq, frc_eq] at hr
        cases hr
        have heq := cv_str (opr_sound S hA hp hg)
        obtain ⟨hrun, h1, h2⟩ := bounds_sound (P := P) (w := w) (E := E) false hb (getOpt_sound S hA hlo hl) (getOpt_sound S hA hhi hm) (Nat.le_refl _)
        refine ⟨rfl, .of ⟨.string (strB (q' - p') (c / 256 ^ p' % 256 ^ (q' - p'))), by simp only [cv]; rfl, ?_⟩⟩
        simp [Instr.sliceAt, Instr.slice, run_underlying ht, heq, strB_size, hrun, strB_extract len c p' q' h1 h2]
      · cases hr
    · cases hr
  · cases hr

theorem slSl_sound (S : HSim P W0 E h w) (hA : ASim E n vm a x) {t e : TypeId} {sz : Nat} {p : Operand} {lo hi : Option Operand} {xp : XO} {xlo xhi : Option XO} (ht : P.underlying t = some (.slice e)) (hs : szT P e = some sz) (hp : cO vm p = some xp)
    (hlo : cOpt vm lo = some xlo) (hhi : cOpt vm hi = some xhi) {v : AV} {h' : H}
    (hr : rSlSl sz xp xlo xhi a h = .val v h') : h' = h ∧ Quiet P E w (do pure (.value (← Instr.sliceAt t (x.eval p) (lo.map x.eval) (hi.map x.eval) none))) v := by
  unfold rSlSl at hr
  split at hr
  · rename_i l m hg hl hm
    split at hr
    · rename_i pq hb
      obtain ⟨p', q'⟩ := pq
      cases hr
      have heq := opr_sound S hA hp hg
      simp only [cv, Option.some.injEq] at heq
      obtain ⟨hrun, h1, h2⟩ := bounds_sound (P := P) (w := w) (E := E) true hb (getOpt_sound S hA hlo hl) (getOpt_sound S hA hhi hm) (Nat.le_refl _)
      have e1 : q' = 0 := by omega
      have e2 : p' = 0 := by omega
      subst e1; subst e2
      refine ⟨rfl, .of ⟨.slice none 0 0, by simp [cv], ?_⟩⟩
      simp [Instr.sliceAt, Instr.slice, run_underlying ht, ← heq, hrun, szT_run hs]
    · cases hr
  · rename_i b off len cap ex l m hg hl hm
    obtain ⟨e', he, heq⟩ := cv_slice (opr_sound S hA hp hg)
    split at hr
    · rename_i p' q' hb
      obtain ⟨hrun, h1, h2⟩ := bounds_sound (P := P) (w := w) (E := E) (cap' := if ex then cap else cap + e'.ex) true hb (getOpt_sound S hA hlo hl) (getOpt_sound S hA hhi hm) (by split <;> omega)
      split at hr
      · cases hr
        refine ⟨rfl, .of ⟨.slice (some ⟨e'.rb, e'.ro + off, none⟩) q' (if ex then cap else cap + e'.ex), by simp [cv, he], ?_⟩⟩
        simp [Instr.sliceAt, Instr.slice, run_underlying ht, heq, hrun, szT_run hs, Addr.add_lit]
      · rename_i hp0
        split at hr
        · rename_i hpc
          have hpc' := Nat.eq_of_beq_eq_true hpc
          cases ex with
          | true =>
            cases hr
            subst hpc'
            refine ⟨rfl, .of ⟨.slice (some ⟨e'.rb, e'.ro + off, none⟩) (q' - p') 0, by simp [cv, he], ?_⟩⟩
            simp at hrun
            simp [Instr.sliceAt, Instr.slice, run_underlying ht, heq, hrun, szT_run hs, Addr.add_lit]
          | false => cases hr
        · rename_i hpc
          cases hr
          have hne : p' ≠ cap := fun he' => by subst he'; simp at hpc
          refine ⟨rfl, .of ⟨.slice (some ⟨e'.rb, e'.ro + (off + p' * sz), none⟩) (q' - p') ((if ex then cap else cap + e'.ex) - p'), ?_, ?_⟩⟩
          · simp only [cv, he]
            have : (if ex = true then cap.sub p' else cap.sub p' + e'.ex) = (if ex = true then cap else cap + e'.ex) - p' := by
              show (if ex = true then cap - p' else cap - p' + e'.ex) = _
              split <;> omega
            rw [this]
            rfl
          · have hne2 : ¬ ((if ex = true then cap else cap + e'.ex) = p') := by split <;> omega
            simp [Instr.sliceAt, Instr.slice, run_underlying ht, heq, hrun, szT_run hs, Addr.add_lit, hne2, Nat.add_assoc]
    · cases hr
  · cases hr

theorem slArr_sound (S : HSim P W0 E h w) (hA : ASim E n vm a x) {t e : TypeId} {len sz : Nat} {p : Operand} {lo hi : Option Operand} {xp : XO} {xlo xhi : Option XO} (ht : P.underlying t = some (.array len e)) (hs : szT P e = some sz) (hp : cO vm p = some xp)
    (hlo : cOpt vm lo = some xlo) (hhi : cOpt vm hi = some xhi) {v : AV} {h' : H}
    (hr : rSlArr len sz xp xlo xhi a h = .val v h') : h' = h ∧ Quiet P E w (do pure (.value (← Instr.sliceAt t (x.eval p) (lo.map x.eval) (hi.map x.eval) none))) v := by
  unfold rSlArr at hr
  split at hr
  · rename_i b off l m hg hl hm
    obtain ⟨e', he, heq⟩ := cv_ptr (opr_sound S hA hp hg)
    split at hr
    · rename_i p' q' hb
      obtain ⟨hrun, h1, h2⟩ := bounds_sound (P := P) (w := w) (E := E) false hb (getOpt_sound S hA hlo hl) (getOpt_sound S hA hhi hm) (Nat.le_refl _)
      split at hr
      · cases hr
        refine ⟨rfl, .of ⟨.slice (some ⟨e'.rb, e'.ro + off, none⟩) q' len, by simp [cv, he], ?_⟩⟩
        simp [Instr.sliceAt, run_underlying ht, heq, hrun, szT_run hs, Addr.add_lit, Instr.sureAddr]
      · rename_i hp0
        split at hr
        · rename_i hpc
          have hpc' := Nat.eq_of_beq_eq_true hpc
          cases hr
          subst hpc'
          refine ⟨rfl, .of ⟨.slice (some ⟨e'.rb, e'.ro + off, none⟩) (q' - p') 0, by simp [cv, he], ?_⟩⟩
          simp [Instr.sliceAt, run_underlying ht, heq, hrun, szT_run hs, Addr.add_lit, Instr.sureAddr]
        · rename_i hpc
          cases hr
          have hne : ¬ len = p' := fun he' => by subst he'; simp at hpc
          refine ⟨rfl, .of ⟨.slice (some ⟨e'.rb, e'.ro + (off + p' * sz), none⟩) (q' - p') (len - p'), by simp [cv, he], ?_⟩⟩
          simp [Instr.sliceAt, run_underlying ht, heq, hrun, szT_run hs, Addr.add_lit, Instr.sureAddr, hne, Nat.add_assoc]
    · cases hr
  · cases hr

/-! maps -/
theorem EntsOk.length : ∀ {es : List (AV × AV × Nat)} {xs : List MapEntry}, EntsOk E es xs → xs.length = es.length
  | [], [], _ => rfl
  | (k, v, b) :: es, y :: ys, hh => by simp [EntsOk.length hh.2.2.2]
  | [], _ :: _, hh => hh.elim
  | (_, _, _) :: _, [], hh => hh.elim
/-- a plain key of that type -/
def KeyK (P : Program) (kty : TypeId) (k : AV) : Prop :=
  (∃ j, P.underlying kty = some (.int j) ∧ ∃ i m, k = .int i m ∧ symB m = false) ∨ (P.underlying kty = some .string ∧ ∃ l c, k = .str l c) ∨
  (∃ e q, P.underlying kty = some (.array 2 e) ∧ P.underlying e = some (.int q) ∧ szT P e = some 1 ∧ aggT P e = some false ∧ ∃ i m i' m', k = .agg [.int i m, .int i' m'] ∧ symB m = false ∧ symB m' = false)
theorem keyK_of {kty : TypeId} {kt : KT} {k : AV} (hk : keyT P kty = some kt) (hp : plainKey kt k = true) : KeyK P kty k := by
  unfold keyT at hk
  split at hk
  · rename_i j hu
    cases hk
    unfold plainKey at hp
    split at hp
    · exact .inl ⟨_, hu, _, _, rfl, by simpa using hp⟩
    all_goals (first | (rename_i h; cases h; done) | (cases hp; done))
  · rename_i hu
    cases hk
    unfold plainKey at hp
    split at hp
    · rename_i h; cases h
    · exact .inr (.inl ⟨hu, _, _, rfl⟩)
    all_goals (first | (rename_i h; cases h; done) | (cases hp; done))
  · rename_i n e hu
    split at hk
    · rename_i hn hue hs hg
      cases hk
      have hn := Nat.eq_of_beq_eq_true hn
      subst hn
      unfold plainKey at hp
      split at hp
      · rename_i h; cases h
      · rename_i h; cases h
      · simp only [Bool.and_eq_true, Bool.not_eq_true'] at hp
        exact .inr (.inr ⟨_, _, hu, hue, hs, hg, _, _, _, _, rfl, hp.1, hp.2⟩)
      · cases hp
    · cases hk
  · cases hk

/-- how a key is held against those of a map -/
structure KeyLaw (P : Program) (w : World) (kty : TypeId) (E : Env) (k : AV) (u : Value) where
  S : Value → Bool → Prop
  F : List MapEntry → Nat → Option (Nat × Value) → Prop
  cmp : ∀ y z r, cv E y = some z → keyEq k y = some r → S z r
  nil : ∀ i, F [] i none
  hit : ∀ (e : MapEntry) xs i, S e.key true → F (e :: xs) i (some (i, e.val))
  miss : ∀ (e : MapEntry) xs i r, S e.key false → F xs (i + 1) r → F (e :: xs) i r
  fin : ∀ xs r, F xs 0 r → (Instr.findKey kty u xs).run P w = .ok r w
  same : ∀ z, S z true → z = u
  bits : Instr.sameBits 10000 u u = true
  chk : ∀ b, (Instr.checkKey b 10000 kty u).run P w = .ok () w

theorem keyEq_int {i j : IntKind} {m : Int} {y : AV} {r : Bool} {z : Value} (hsm : symB m = false) (hy : cv E y = some z) (hr : keyEq (.int i m) y = some r) : Instr.sameNow (.int j) (.int i m) z = some r := by
  cases y <;> simp only [keyEq] at hr <;> try (cases hr; done)
  split at hr
  · cases hr
  · rename_i hns
    simp only [Bool.or_eq_false_iff] at hns
    cases cv_int hy hns.2
    split at hr
    · rename_i hik
      cases ikeq_eq hik
      cases hr
      simp [Instr.sameNow, ieq_iff]
    · cases hr
theorem keyEq_str {l c : Nat} {y : AV} {r : Bool} {z : Value} (hy : cv E y = some z) (hr : keyEq (.str l c) y = some r) : Instr.sameNow .string (.string (strB l c)) z = some r := by
  cases y <;> simp only [keyEq] at hr <;> try (cases hr; done)
  cases cv_str hy
  cases hr
  simp only [Instr.sameNow, Option.some.injEq]
  rw [Bool.eq_iff_iff, streq_iff, bytes_beq]
theorem part_one {e : TypeId} {q : IntKind} (hue : P.underlying e = some (.int q)) (hg : aggT P e = some false) {xs : Array Value} {off : Nat} {v : Value} (hv : xs[off]? = some v) : (part e xs off).run P w = .ok v w := by
  simp [part, isAgg, run_underlying hue, hv]
theorem cv_two {i i' : IntKind} {m m' : Int} {u : Value} (hsm : symB m = false) (hsm' : symB m' = false) (hk : cv E (.agg [.int i m, .int i' m']) = some u) : u = .agg #[.int i m, .int i' m'] := by
  simp only [cv, cvC, AV.one] at hk
  rw [dec_of hsm, dec_of hsm'] at hk
  cases hk
  rfl
theorem keyEq_two {kty e : TypeId} {q i i' : IntKind} {m m' : Int} {y : AV} {r : Bool} {z : Value} (hu : P.underlying kty = some (.array 2 e)) (hue : P.underlying e = some (.int q)) (hs : szT P e = some 1) (hg : aggT P e = some false)
    (hsm : symB m = false) (hsm' : symB m' = false) (hy : cv E y = some z) (hr : keyEq (.agg [.int i m, .int i' m']) y = some r) :
    (Op.equal kty (.agg #[.int i m, .int i' m']) z).run P w = .ok r w ∧ (r = true → z = .agg #[.int i m, .int i' m']) := by
  unfold keyEq at hr
  split at hr
  · rename_i heq; cases heq
  · rename_i heq; cases heq
  · rename_i j a j' a' k b k' b' heq
    cases heq
    split at hr
    · cases hr
    · rename_i hns
      simp only [Bool.or_eq_false_iff] at hns
      obtain rfl := cv_two hns.1.2 hns.2.2 hy
      split at hr
      · rename_i hik
        simp only [Bool.and_eq_true] at hik
        obtain ⟨h1, h2⟩ := hik
        cases ikeq_eq h1; cases ikeq_eq h2
        cases hr
        refine ⟨?_, fun hb => ?_⟩
        · have e1 : ieq m b = (m == b) := by rw [Bool.eq_iff_iff, ieq_iff]
          have e2 : ieq m' b' = (m' == b') := by rw [Bool.eq_iff_iff, ieq_iff]
          rw [e1, e2]
          show (Op.equalIn (9998 + 2) kty _ _).run P w = _
          generalize 9998 = N
          have hp : ∀ (xs : Array Value) (off : Nat) (v : Value), xs[off]? = some v → (part e xs off).run P w = .ok v w := fun xs off v hv => part_one hue hg hv
          have hc : ∀ (kk : IntKind) (x y : Int), (Op.equalIn (N + 1) e (.int kk x) (.int kk y)).run P w = .ok (x == y) w := fun kk x y => by
            simp [Op.equalIn, run_underlying hue]
          unfold Op.equalIn
          have q1 := hp #[Value.int i m, Value.int i' m'] 0 _ rfl
          have q2 := hp #[Value.int i m, Value.int i' m'] 1 _ rfl
          have q3 := hp #[Value.int i b, Value.int i' b'] 0 _ rfl
          have q4 := hp #[Value.int i b, Value.int i' b'] 1 _ rfl
          simp [run_underlying hu, szT_run hs]
          rw [show List.range' 0 2 = [0, 1] from rfl]
          cases hb1 : (m == b) <;> cases hb2 : (m' == b') <;> simp [List.forIn_cons, q1, q2, q3, q4, hc, hb1, hb2]
        · simp only [Bool.and_eq_true, ieq_iff] at hb
          have h1 := eq_of_beq hb.1
          have h2 := eq_of_beq hb.2
          subst h1; subst h2
          rfl
      · cases hr
  · cases hr

theorem keyLaw {kty : TypeId} {k : AV} {u : Value} (hk : KeyK P kty k) (hu : cv E k = some u) : Nonempty (KeyLaw P w kty E k u) := by
  rcases hk with ⟨j, hd, i, m, rfl, hsm⟩ | ⟨hd, l, c, rfl⟩ | ⟨e, q, hd, hue, hs, hg, i, m, i', m', rfl, hsm, hsm'⟩
  · cases cv_int hu hsm
    refine ⟨⟨fun z b => Instr.sameNow (.int j) (.int i m) z = some b, fun xs n r => Instr.findNow (.int j) (.int i m) xs n = some r, fun y z r hy hr => keyEq_int hsm hy hr, fun n => rfl,
      fun e xs n h => by simp [Instr.findNow, h], fun e xs n r h h' => by simp [Instr.findNow, h, h'], fun xs r h => run_findKey hd h, ?_, ?_, ?_⟩⟩
    · intro z hz
      cases z <;> simp [Instr.sameNow] at hz
      obtain ⟨hkk, hab⟩ := hz
      rw [hkk, hab]
    · show Instr.sameBits (9999 + 1) _ _ = true
      generalize 9999 = N
      simp [Instr.sameBits]
    · intro b
      show (Instr.checkKey b (9999 + 1) kty _).run P w = .ok () w
      generalize 9999 = N
      unfold Instr.checkKey
      simp only [Sem.run_bind, run_underlying hd, Result.andThen_ok]
      rfl
  · cases cv_str hu
    refine ⟨⟨fun z b => Instr.sameNow .string (.string (strB l c)) z = some b, fun xs n r => Instr.findNow .string (.string (strB l c)) xs n = some r, fun y z r hy hr => keyEq_str hy hr, fun n => rfl,
      fun e xs n h => by simp [Instr.findNow, h], fun e xs n r h h' => by simp [Instr.findNow, h, h'], fun xs r h => run_findKey hd h, ?_, ?_, ?_⟩⟩
    · intro z hz
      cases z <;> simp [Instr.sameNow] at hz
      rw [bytes_beq] at hz
      rw [hz]
    · show Instr.sameBits (9999 + 1) _ _ = true
      generalize 9999 = N
      simp [Instr.sameBits, bytes_beq]
    · intro b
      show (Instr.checkKey b (9999 + 1) kty _).run P w = .ok () w
      generalize 9999 = N
      unfold Instr.checkKey
      simp only [Sem.run_bind, run_underlying hd, Result.andThen_ok]
      rfl
  · obtain rfl := cv_two hsm hsm' hu
    refine ⟨⟨fun z b => (Op.equal kty (.agg #[.int i m, .int i' m']) z).run P w = .ok b w ∧ (b = true → z = .agg #[.int i m, .int i' m']), fun xs n r => (Instr.findAsking kty (.agg #[.int i m, .int i' m']) xs n).run P w = .ok r w,
      fun y z r hy hr => keyEq_two hd hue hs hg hsm hsm' hy hr, fun n => rfl, fun e xs n h => by simp [Instr.findAsking, h.1], fun e xs n r h h' => by simp [Instr.findAsking, h.1, h'], ?_, fun z hz => hz.2 rfl, ?_, ?_⟩⟩
    · intro xs r h
      rw [run_findKey_eq w (by rw [hd]) _ xs]; exact h
    · show Instr.sameBits (9998 + 2) _ _ = true
      generalize 9998 = N
      simp [Instr.sameBits]
    · intro b
      show (Instr.checkKey b (9998 + 2) kty _).run P w = .ok () w
      generalize 9998 = N
      have hp : ∀ (xs : Array Value) (off : Nat) (v : Value), xs[off]? = some v → (part e xs off).run P w = .ok v w := fun xs off v hv => part_one hue hg hv
      have hc : ∀ v, (Instr.checkKey b (N + 1) e v).run P w = .ok () w := fun v => by
        unfold Instr.checkKey
        simp only [Sem.run_bind, run_underlying hue, Result.andThen_ok]
        rfl
      unfold Instr.checkKey
      have q1 := hp #[Value.int i m, Value.int i' m'] 0 _ rfl
      have q2 := hp #[Value.int i m, Value.int i' m'] 1 _ rfl
      simp [run_underlying hd, szT_run hs]
      rw [show List.range' 0 2 = [0, 1] from rfl]
      simp [List.forIn_cons, q1, q2, hc, szT_run hs]

theorem findK_sound {kty : TypeId} {k : AV} {u : Value} (L : KeyLaw P w kty E k u) :
    ∀ {es : List (AV × AV × Nat)} {xs : List MapEntry} (i : Nat) {r : Option AV}, EntsOk E es xs → findK k es = some r →
    (r = none ∧ L.F xs i none) ∨ (∃ v j z, r = some v ∧ cv E v = some z ∧ L.F xs i (some (i + j, z)))
  | [], [], i, r, _, hr => by simp only [findK, Option.some.injEq] at hr; exact .inl ⟨hr.symm, L.nil i⟩
  | [], _ :: _, _, _, hh, _ => hh.elim
  | (_, _, _) :: _, [], _, _, hh, _ => hh.elim
  | (y, v, b) :: es, e :: xs, i, r, ⟨h1, h2, h3, h4⟩, hr => by
    simp only [findK] at hr
    split at hr
    · rename_i hq
      cases hr
      exact .inr ⟨v, 0, e.val, rfl, h2, L.hit e xs i (L.cmp _ _ _ h1 hq)⟩
    · rename_i hq
      rcases findK_sound L (i + 1) h4 hr with ⟨hr1, hr2⟩ | ⟨v', j, z, hr1, hz, hr2⟩
      · exact .inl ⟨hr1, L.miss e xs i _ (L.cmp _ _ _ h1 hq) hr2⟩
      · refine .inr ⟨v', j + 1, z, hr1, hz, L.miss e xs i _ (L.cmp _ _ _ h1 hq) ?_⟩
        rw [show i + (j + 1) = i + 1 + j by omega]; exact hr2
    · cases hr
theorem mapEs_sound (S : HSim P W0 E h w) {kt : KT} {m : AV} {u : Value} {es : List (AV × AV × Nat)} (hu : cv E m = some u) (hm : mapEs kt m h = some es) :
    (u = .map none ∧ es = []) ∨ (∃ r xs clock, u = .map (some r) ∧ w.heap[r]? = some (.map xs clock) ∧ (EntsOk E es xs.toList ∨ (kt ≠ .two ∧ LookOk E es xs.toList))) := by
  unfold mapEs at hm
  split at hm
  · cases hm; simp only [cv, Option.some.injEq] at hu; exact .inl ⟨hu.symm, rfl⟩
  · split at hm
    · rename_i hg
      cases hm
      obtain ⟨e, he, rfl⟩ := cv_map hu
      obtain ⟨o, ho, xs, rfl, hes⟩ := S.blk _ e _ he hg
      exact .inr ⟨e.rb, xs, _, rfl, ho, .inl hes⟩
    · rename_i hg
      obtain ⟨e, he, rfl⟩ := cv_map hu
      obtain ⟨o, ho, xs, ck, rfl, h1, h2⟩ := S.blk _ e _ he hg
      split at hm
      · cases hm
      · rename_i hne
        cases hm
        exact .inr ⟨e.rb, xs, _, rfl, ho, .inr ⟨hne, h2 rfl⟩⟩
    · cases hm
  · cases hm
theorem find_run {kty : TypeId} {kt : KT} {k : AV} {u : Value} (hk : keyT P kty = some kt) (hp : plainKey kt k = true) (hu : cv E k = some u) {es : List (AV × AV × Nat)} {xs : List MapEntry} (hes : EntsOk E es xs ∨ (kt ≠ .two ∧ LookOk E es xs)) {r : Option AV} (hr : findK k es = some r) :
    (r = none ∧ (Instr.findKey kty u xs).run P w = .ok none w) ∨ (∃ v j z, r = some v ∧ cv E v = some z ∧ (Instr.findKey kty u xs).run P w = .ok (some (j, z)) w) := by
  have hK := keyK_of hk hp
  rcases hes with hes | ⟨hne, hlk⟩
  · obtain ⟨L⟩ := keyLaw (w := w) hK hu
    rcases findK_sound L 0 hes hr with ⟨h1, h2⟩ | ⟨v, j, z, h1, h2, h3⟩
    · exact .inl ⟨h1, L.fin _ _ h2⟩
    · exact .inr ⟨v, _, z, h1, h2, L.fin _ _ h3⟩
  · have hd : ∃ d, P.underlying kty = some d ∧ KeyOk d k := by
      rcases hK with ⟨j, hd, i, m, rfl, hsm⟩ | ⟨hd, l, c, rfl⟩ | ⟨e, q, hd, hue, hs, hg, i, m, i', m', rfl, hsm, hsm'⟩
      · exact ⟨_, hd, .inl ⟨j, rfl, i, m, rfl, hsm⟩⟩
      · exact ⟨_, hd, .inr ⟨rfl, l, c, rfl⟩⟩
      · cases kt <;> first | exact absurd rfl hne | (simp [plainKey] at hp)
    obtain ⟨d, hd, hok⟩ := hd
    rcases hlk.2 d k u r hok hu hr with ⟨h1, h2⟩ | ⟨v, j, z, h1, h2, h3⟩
    · exact .inl ⟨h1, run_findKey hd h2⟩
    · exact .inr ⟨v, _, z, h1, h2, run_findKey hd h3⟩

def lookOut (ok : Bool) (z : AV) (r : Option AV) : AV := match r with
  | some v => (match ok with | true => .tuple [v, .bool true] | false => v)
  | none => (match ok with | true => .tuple [z, .bool false] | false => z)
theorem look_sound (S : HSim P W0 E h w) (hA : ASim E n vm a x) {t kty et : TypeId} {kt : KT} {ok : Bool} {z : AV} {p i : Operand} {xp xi : XO} (ht : P.underlying t = some (.map kty et)) (hk : keyT P kty = some kt) (hz : zeroT P et = some z)
    (hp : cO vm p = some xp) (hi : cO vm i = some xi) {v : AV} {h' : H}
    (hr : rLook kt z ok xp xi a h = .val v h') : h' = h ∧ Quiet P E w (do pure (.value (← Instr.lookup t (x.eval p) (x.eval i) ok))) v := by
  unfold rLook at hr
  split at hr
  · rename_i m k hg hg'
    split at hr
    · rename_i es hpk hes
      have hkv := opr_sound S hA hi hg'
      have hmv := opr_sound S hA hp hg
      obtain ⟨zu, hzu, hzr⟩ := zeroT_run (P := P) (E := E) (w := w) hz
      have hck : ∀ e, (Instr.checkKey e 10000 kty (x.eval i)).run P w = .ok () w := by
        obtain ⟨L⟩ := keyLaw (w := w) (keyK_of hk hpk) hkv
        exact L.chk
      have fin2 : ∀ {r : Option AV}, findK k es = some r → ∃ y, cv E (lookOut ok z r) = some y ∧ (Instr.lookup t (x.eval p) (x.eval i) ok).run P w = .ok y w := by
        intro r hr
        rcases mapEs_sound S hmv hes with ⟨hm, rfl⟩ | ⟨rr, xs, clock, hm, ho, hxs⟩
        · simp only [findK, Option.some.injEq] at hr
          subst hr
          have hf : (Instr.findKey kty (x.eval i) []).run P w = .ok none w := by
            rcases find_run (w := w) hk hpk hkv (es := []) (xs := []) (.inl trivial) (r := none) rfl with ⟨-, h2⟩ | ⟨v, j, z, h1, -⟩
            · exact h2
            · cases h1
          cases ok with
          | true => exact ⟨.tuple #[zu, .bool false], by simp [lookOut, cv, cvL, hzu], by simp [Instr.lookup, run_underlying ht, hm, hck, hf, hzr]⟩
          | false => exact ⟨zu, hzu, by simp [Instr.lookup, run_underlying ht, hm, hck, hf, hzr]⟩
        · rcases find_run (w := w) hk hpk hkv hxs hr with ⟨rfl, hf⟩ | ⟨v', j, zv, rfl, hzv, hf⟩
          · cases ok with
            | true => exact ⟨.tuple #[zu, .bool false], by simp [lookOut, cv, cvL, hzu], by simp [Instr.lookup, run_underlying ht, hm, hck, hf, hzr, MapKept.run_getObj_map ho]⟩
            | false => exact ⟨zu, hzu, by simp [Instr.lookup, run_underlying ht, hm, hck, hf, hzr, MapKept.run_getObj_map ho]⟩
          · cases ok with
            | true => exact ⟨.tuple #[zv, .bool true], by simp [lookOut, cv, cvL, hzv], by simp [Instr.lookup, run_underlying ht, hm, hck, hf, MapKept.run_getObj_map ho]⟩
            | false => exact ⟨zv, hzv, by simp [Instr.lookup, run_underlying ht, hm, hck, hf, MapKept.run_getObj_map ho]⟩
      split at hr
      · rename_i v' hf
        cases hr
        obtain ⟨y, hy, hrun⟩ := fin2 hf
        exact ⟨rfl, .of ⟨y, hy, hrun⟩⟩
      · rename_i hf
        cases hr
        obtain ⟨y, hy, hrun⟩ := fin2 hf
        exact ⟨rfl, .of ⟨y, hy, hrun⟩⟩
      · cases hr
    · cases hr
  · cases hr

/-! lengths -/
theorem len_sound (S : HSim P W0 E h w) (hA : ASim E n vm a x) {t : TypeId} {d : TypeDesc} {k : LK} {p : Operand} {xp : XO} (ht : P.underlying t = some d)
    (hd : (k = .str ∧ d = .string) ∨ (k = .slice ∧ ∃ e, d = .slice e) ∨ (k = .map ∧ ∃ kt e, d = .map kt e)) (hp : cO vm p = some xp) {ty : TypeId} {v : AV} {h' : H}
    (hr : rLen k xp a h = .val v h') : h' = h ∧ Quiet P E w (do pure (.value (← Builtin.len_ #[t] ty #[x.eval p]))) v := by
  unfold rLen at hr
  split at hr
  · rename_i u hu
    obtain ⟨rfl, hv⟩ := ofO_val hr
    have huv := opr_sound S hA hp hu
    refine ⟨rfl, .of ?_⟩
    have cvi : ∀ m : Nat, cv E (.int .i64 (.ofNat m)) = some (goInt (m : Int)) := fun m => cv_mk
    unfold evLen at hv
    split at hv
    · obtain ⟨rfl, -⟩ := mkNat_some hv
      have heq := cv_str huv
      rcases hd with ⟨-, rfl⟩ | ⟨h1, -⟩ | ⟨h1, -⟩
      · exact ⟨_, cvi _, by simp [Builtin.len_, run_underlying ht, heq, strB_size]⟩
      · cases h1
      · cases h1
    · obtain ⟨rfl, -⟩ := mkNat_some hv
      obtain ⟨e, he, heq⟩ := cv_slice huv
      rcases hd with ⟨h1, -⟩ | ⟨-, e', rfl⟩ | ⟨h1, -⟩
      · cases h1
      · exact ⟨_, cvi _, by simp [Builtin.len_, run_underlying ht, heq]⟩
      · cases h1
    · obtain ⟨rfl, -⟩ := mkNat_some hv
      simp only [cv, Option.some.injEq] at huv
      rcases hd with ⟨h1, -⟩ | ⟨-, e', rfl⟩ | ⟨h1, -⟩
      · cases h1
      · exact ⟨_, cvi _, by simp [Builtin.len_, run_underlying ht, ← huv]⟩
      · cases h1
    · obtain ⟨rfl, -⟩ := mkNat_some hv
      simp only [cv, Option.some.injEq] at huv
      rcases hd with ⟨h1, -⟩ | ⟨h1, -⟩ | ⟨-, kt, e', rfl⟩
      · cases h1
      · cases h1
      · exact ⟨_, cvi _, by simp [Builtin.len_, run_underlying ht, ← huv]⟩
    · split at hv
      · rename_i b es clock hg
        obtain ⟨rfl, -⟩ := mkNat_some hv
        obtain ⟨e, he, heq⟩ := cv_map huv
        obtain ⟨o, ho, xs, rfl, hes⟩ := S.blk _ e _ he hg
        rcases hd with ⟨h1, -⟩ | ⟨h1, -⟩ | ⟨-, kt, e', rfl⟩
        · cases h1
        · cases h1
        · have hl := hes.length
          simp at hl
          exact ⟨_, cvi _, by simp [Builtin.len_, run_underlying ht, heq, MapKept.run_getObj_map ho, hl]⟩
      · cases hv
    · cases hv
  · cases hr
theorem cap_sound (S : HSim P W0 E h w) (hA : ASim E n vm a x) {t e : TypeId} {p : Operand} {xp : XO} (ht : P.underlying t = some (.slice e)) (hp : cO vm p = some xp) {ty : TypeId} {v : AV} {h' : H}
    (hr : rCapS xp a h = .val v h') : h' = h ∧ Quiet P E w (do pure (.value (← Builtin.cap_ #[t] ty #[x.eval p]))) v := by
  have cvi : ∀ m : Nat, cv E (.int .i64 (.ofNat m)) = some (goInt (m : Int)) := fun m => cv_mk
  unfold rCapS at hr
  split at hr
  · rename_i hu
    cases hr
    have huv := opr_sound S hA hp hu
    simp only [cv, Option.some.injEq] at huv
    exact ⟨rfl, .of ⟨_, cvi _, by simp [Builtin.cap_, run_underlying ht, ← huv]⟩⟩
  · rename_i b off len cap hu
    obtain ⟨rfl, hv⟩ := ofO_val hr
    obtain ⟨rfl, -⟩ := mkNat_some hv
    obtain ⟨e, he, heq⟩ := cv_slice (opr_sound S hA hp hu)
    exact ⟨rfl, .of ⟨_, cvi _, by simp [Builtin.cap_, run_underlying ht, heq]⟩⟩
  · cases hr
theorem lenN_sound {t e : TypeId} {m : Nat} {p : Operand} (ht : P.underlying t = some (.array m e)) {ty : TypeId} {v : AV} {h' : H}
    (hr : rLenN m a h = .val v h') : h' = h ∧ Quiet P E w (do pure (.value (← Builtin.len_ #[t] ty #[x.eval p]))) v := by
  obtain ⟨rfl, hv⟩ := ofO_val hr
  obtain ⟨rfl, -⟩ := mkNat_some hv
  exact ⟨rfl, .of ⟨goInt (m : Int), by simp only [cv]; rfl, by simp [Builtin.len_, run_underlying ht]⟩⟩

/-! type assertions -/
theorem ta_sound (S : HSim P W0 E h w) (hA : ASim E n vm a x) {t xt : TypeId} {d : TypeDesc} {z : AV} {ok : Bool} {p : Operand} {xp : XO} (ht : P.underlying t = some d) (hn : ∀ ms, d ≠ .interface ms) (hz : zeroT P t = some z) (hp : cO vm p = some xp) {v : AV} {h' : H}
    (hr : rTa t z ok xp a h = .val v h') : h' = h ∧ Quiet P E w (do pure (.value (← Instr.typeAssert (x.eval p) xt t ok))) v := by
  obtain ⟨zu, hzu, hzr⟩ := zeroT_run (P := P) (E := E) (w := w) hz
  unfold rTa at hr
  split at hr
  · rename_i u y hg
    obtain ⟨yv, hyv, heq⟩ := cv_iface (opr_sound S hA hp hg)
    split at hr
    · rename_i hb
      have hut := Nat.eq_of_beq_eq_true hb
      subst hut
      cases hr
      refine ⟨rfl, .of ⟨if ok then .tuple #[yv, .bool true] else yv, by cases ok <;> simp [cv, cvL, hyv], ?_⟩⟩
      cases d <;> first | (simp [Instr.typeAssert, run_underlying ht, heq]; done) | exact absurd rfl (hn _)
    · rename_i hb
      have hut : u ≠ t := fun he => by subst he; simp at hb
      cases ok with
      | false => cases hr
      | true =>
        cases hr
        refine ⟨rfl, .of ⟨.tuple #[zu, .bool false], by simp [cv, cvL, hzu], ?_⟩⟩
        cases d <;> first | (simp [Instr.typeAssert, run_underlying ht, heq, hut, hzr]; done) | exact absurd rfl (hn _)
  · rename_i hg
    have heq := opr_sound S hA hp hg
    simp only [cv, Option.some.injEq] at heq
    cases ok with
    | false => cases hr
    | true =>
      cases hr
      refine ⟨rfl, .of ⟨.tuple #[zu, .bool false], by simp [cv, cvL, hzu], ?_⟩⟩
      cases d <;> first | (simp [Instr.typeAssert, run_underlying ht, ← heq, hzr]; done) | exact absurd rfl (hn _)
  · cases hr

end
end Go.Ev
