/- One level of fuel more. -/
import Derived.Test.YtbflihggpacblaaGreatDoorEvCode
set_option linter.unusedVariables false
set_option linter.unusedSimpArgs false
namespace Go.Ev
set_option linter.unusedSectionVars false
variable [Sig]

section
variable {P : Program} {W0 : World} {n vm : Nat} {r : Rec}

theorem evLoop_sound (hP : ProgOk P) (hR : RecOk P W0 r) (hD : DrawOk P W0 r) {rd : Option Nat} {F : Fence} {c : Code} {E : Env} {h : H} {w : World} {a : A} {x : Act} (S : HSim P W0 E h w) (hA : ASim E n vm a x) (hF : RdOk E rd F)
    (hne : evLoop r rd (cCode P n vm c) a h ≠ .fail) : wpLoop F P c (CROk P W0 E h n vm (evLoop r rd (cCode P n vm c) a h)) x w := by
  refine wpLoop_of (code_sound hP hR hD c E a h x w _ S hA hF (fun hf => hne (by simp only [evLoop, hf])) ?_)
  intro e x' w' hc
  cases hcr : runCode r rd (cCode P n vm c) a h with
  | fail => simp only [evLoop, hcr] at hne; exact absurd rfl hne
  | normal a' h' =>
    simp only [evLoop, hcr] at hne hc ⊢
    cases e <;> simp only [CROk] at hc
    obtain ⟨E', ht, hs, ha⟩ := hc
    exact wpLoop_mono (hR.loop E' h' w' rd F n vm c a' x' hs ha (hF.up ht.up) hne) (fun e x'' w'' hc' => hc'.pre ht)
  | exit id a' h' => simp only [evLoop, hcr] at hc ⊢; cases e <;> simp only [CROk] at hc; exact hc
  | goto l a' h' => simp only [evLoop, hcr] at hc ⊢; cases e <;> simp only [CROk] at hc; exact hc
  | ret a' h' => simp only [evLoop, hcr] at hc ⊢; cases e <;> simp only [CROk] at hc; exact hc
  | pan ch a' h' => simp only [evLoop, hcr] at hc ⊢; cases e <;> simp only [CROk] at hc; exact hc

/-! results -/
def resF (tmps : Array Value) (rv : ResultVar) : Sem Value := match rv with
  | .tmp t => pure (tmps.getD t undef)
  | .cell b t => do loadVar t (← asAddr (tmps.getD b undef))
theorem results_eq (fn : Func) (tmps : Array Value) : results fn tmps = (do
    let vs ← fn.results.mapM (resF tmps)
    pure (if h : vs.size = 1 then vs[0] else .tuple vs)) := rfl
theorem results_list {E : Env} {h : H} {w : World} {a : A} {tmps : Array Value} (S : HSim P W0 E h w) (hv : VarsOk E vm a.vars tmps) : ∀ {rs : List ResultVar} {l : List AV}, evResults P vm a h rs = some l →
    ∃ us, cvL E l = some us ∧ (rs.mapM (resF tmps)).run P w = .ok us w
  | [], l, hl => by
    simp only [evResults, Option.some.injEq] at hl
    subst hl
    exact ⟨[], by simp [cvL], by simp⟩
  | .tmp t :: rs, l, hl => by
    simp only [evResults] at hl
    split at hl
    · rename_i v l' hb hg hrec
      cases hl
      obtain ⟨us, hus, hrun⟩ := results_list S hv hrec
      obtain ⟨u, hu, htm⟩ := hv t v hb hg
      have h1 : (resF tmps (.tmp t)).run P w = .ok u w := by simp [resF, htm]
      exact ⟨u :: us, by simp [cvL, hu, hus], by simp [List.mapM_cons, h1, hrun]⟩
    · cases hl
  | .cell b t :: rs, l, hl => by
    simp only [evResults] at hl
    split at hl
    · rename_i bb off g m hb hg ha hs
      split at hl
      · rename_i v l' hld hrec
        cases hl
        obtain ⟨us, hus, hrun⟩ := results_list S hv hrec
        obtain ⟨u, hu, htm⟩ := hv b _ hb hg
        obtain ⟨e, he, rfl⟩ := cv_ptr hu
        obtain ⟨z, hz, hzr⟩ := load_sound S he ha hs hld
        have h1 : (resF tmps (.cell b t)).run P w = .ok z w := by simp [resF, htm, asAddr, hzr]
        exact ⟨z :: us, by simp [cvL, hz, hus], by simp [List.mapM_cons, h1, hrun]⟩
      · cases hl
    · cases hl

theorem results_sound {E : Env} {h : H} {w : World} {a : A} {tmps : Array Value} {fn : Func} (S : HSim P W0 E h w) (hv : VarsOk E vm a.vars tmps) {v : AV} {h' : H} (hr : evReturn P vm fn.results.toList a h = .val v h') :
    h' = h ∧ ∃ u, cv E v = some u ∧ (results fn tmps).run P w = .ok u w := by
  unfold evReturn at hr
  have key : ∀ {l : List AV}, evResults P vm a h fn.results.toList = some l → ∃ us : List Value, cvL E l = some us ∧ us.length = l.length ∧ (results fn tmps).run P w = .ok (if h : us.toArray.size = 1 then us.toArray[0] else .tuple us.toArray) w := by
    intro l hl
    obtain ⟨us, hus, hrun⟩ := results_list S hv hl
    refine ⟨us, hus, cvL_length hus, ?_⟩
    rw [results_eq, Array.mapM_eq_mapM_toList]
    simp [hrun]
  split at hr
  · rename_i v' hl
    cases hr
    obtain ⟨us, hus, hlen, hrun⟩ := key hl
    simp only [cvL] at hus
    split at hus
    · rename_i u l hu hl'
      cases hl'
      cases hus
      exact ⟨rfl, u, hu, by simpa using hrun⟩
    · cases hus
  · rename_i l hne hl
    cases hr
    obtain ⟨us, hus, hlen, hrun⟩ := key hl
    refine ⟨rfl, .tuple us.toArray, by simp [cv, hus], ?_⟩
    have : ¬ (us.toArray.size = 1) := by
      simp only [List.size_toArray, hlen]
      intro h1
      match l, h1 with
      | [y], _ => exact hne y rfl
    rw [hrun, dif_neg this]
  · cases hr

/-! the frame at the start -/
theorem mkVars_get : ∀ (vs : List AV) (i : Nat) (t : Tr AV) (k : Nat), (mkVars vs i t).get k = if i ≤ k ∧ k < i + vs.length then vs[k - i]? else t.get k
  | [], i, t, k => by rw [if_neg (by simp)]; rfl
  | v :: vs, i, t, k => by
    simp only [mkVars]
    rw [mkVars_get vs (Nat.succ i) (t.put i v) k, Tr.get_put]
    by_cases h1 : k = i
    · subst h1
      rw [if_neg (by omega)]
      simp
    · by_cases h2 : i ≤ k ∧ k < i + (vs.length + 1)
      · rw [if_pos (by omega), if_pos (by simpa using h2)]
        have : k - i = (k - Nat.succ i) + 1 := by omega
        rw [this]
        simp
      · rw [if_neg (by omega), if_neg h1, if_neg (by simpa using h2)]
theorem start_sound {E : Env} {args : List AV} {us : List Value} (hu : cvL E args = some us) (hn : args.length ≤ n) :
    ASim E n vm ⟨mkVars args 0 .nil, [], []⟩ { tmps := us.toArray ++ Array.replicate (n - us.toArray.size) undef, defers := [] } := by
  have hl := cvL_length hu
  refine ⟨by simp; omega, ?_, ?_, trivial⟩
  · intro t v hb hv
    have hv' : (mkVars args 0 .nil).get t = some v := hv
    rw [mkVars_get] at hv'
    split at hv'
    · rename_i ht
      obtain ⟨u, hu', hut⟩ := cvL_get hu _ v hv'
      refine ⟨u, hu', ?_⟩
      simp only [Nat.sub_zero] at hut
      have : t < us.length := (List.getElem?_eq_some_iff.1 hut).1
      rw [Array.getElem?_append_left (by simpa using this)]
      simpa using hut
    · rw [Tr.get_nil] at hv'; cases hv'
  · intro t v hb hv
    have hv' : findLog t [] = some v := hv
    rw [findLog_nil] at hv'; cases hv'

theorem fnOf_some {f : FuncId} {xf : XFn} (hf : fnOf P f = some xf) : ∃ fn, P.funcs[f]? = some fn ∧ fn.body = some xf.code ∧ fn.ntmps = xf.n ∧ fn.results.toList = xf.results := by
  unfold fnOf at hf
  split at hf
  · rename_i fn hfn
    split at hf
    · rename_i c hc
      rw [frc_eq] at hf
      cases hf
      exact ⟨fn, hfn, hc, rfl, rfl⟩
    · cases hf
  · cases hf

/-! leaving -/
def ModeOk (E : Env) : Option (List PE) → FrameMode → Prop
  | none, .returning => True
  | some c, .panicking ch => ChOk E c ch
  | _, _ => False
theorem ModeOk.up {E E' : Env} (hE : ∀ b e, E b = some e → E' b = some e) {m : Option (List PE)} {u : FrameMode} (hh : ModeOk E m u) : ModeOk E' m u := by
  cases m <;> cases u <;> first | exact hh.elim | trivial | exact ChOk.up hE hh
theorem ModeOk.run {E : Env} {m : Option (List PE)} {u : FrameMode} (hh : ModeOk E m u) : u ≠ .run := by
  cases m <;> cases u <;> first | exact hh.elim | (intro h; cases h)

theorem ChOk.goexit {E : Env} : ∀ {ps : List PE} {qs : List PanicEntry}, ChOk E ps qs → qs.dropWhile (!·.goexit) = []
  | [], [], _ => rfl
  | p :: ps, q :: qs, ⟨_, _, h3, h4⟩ => by simp [List.dropWhile, h3, h4.goexit]
  | [], _ :: _, hh => hh.elim
  | _ :: _, [], hh => hh.elim
theorem settled_sound {E : Env} {m m' : Option (List PE)} {u : FrameMode} (hm : ModeOk E m u) (hs : settled m = some m') : ModeOk E m' (settle u) := by
  unfold settled at hs
  split at hs
  · cases hs
    cases u <;> first | exact hm.elim | trivial
  · cases hs
    cases u with
    | panicking ch =>
      cases ch with
      | nil => exact hm.elim
      | cons q qs =>
        obtain ⟨h1, h2, h3, h4⟩ := hm
        cases qs with
        | cons _ _ => exact h4.elim
        | nil =>
          obtain ⟨v, rc, ge⟩ := q
          simp only at h2 h3
          subst h2
          simp [settle, ModeOk]
    | _ => exact hm.elim
  · cases hs
  · rename_i hn1 hn2 hn3
    cases hs
    cases m with
    | none => exact absurd rfl hn1
    | some c =>
      cases u with
      | panicking ch =>
        cases c with
        | nil => cases ch with
          | nil => exact hm
          | cons _ _ => exact hm.elim
        | cons p ps =>
          cases ch with
          | nil => exact hm.elim
          | cons q qs =>
            obtain ⟨h1, h2, h3, h4⟩ := hm
            obtain ⟨v, rc⟩ := p
            cases rc with
            | true =>
              cases ps with
              | nil => exact absurd rfl (hn2 v)
              | cons p' ps' => exact absurd rfl (hn3 v _)
            | false =>
              obtain ⟨qv, qr, qg⟩ := q
              simp only at h2
              subst h2
              exact ⟨h1, rfl, h3, h4⟩
      | _ => exact hm.elim

theorem recovered_sound {E : Env} {m m' : Option (List PE)} {v : AV} {u : FrameMode} {c₀ : Frame} {cs : List Frame} (hm : ModeOk E m u) (hc : c₀.mode = u) (hr : recovered m = some (v, m')) :
    ∃ vv u', cv E v = some vv ∧ ModeOk E m' u' ∧ ((recoverD (c₀ :: cs) = none ∧ vv = .nilIface ∧ u' = u) ∨ recoverD (c₀ :: cs) = some (vv, { c₀ with mode := u' } :: cs)) := by
  unfold recovered at hr
  split at hr
  · cases hr
    refine ⟨.nilIface, u, by simp [cv], hm, .inl ⟨?_, rfl, rfl⟩⟩
    cases u with
    | returning => simp [recoverD, hc]
    | _ => exact hm.elim
  · rename_i v' older
    cases hr
    cases u with
    | panicking ch =>
      cases ch with
      | nil => exact hm.elim
      | cons q qs =>
        obtain ⟨h1, h2, h3, h4⟩ := hm
        obtain ⟨qv, qr, qg⟩ := q
        simp only at h1 h2 h3
        subst h2; subst h3
        refine ⟨qv, .panicking ({ v := qv, recovered := true } :: qs), h1, ⟨h1, rfl, rfl, h4⟩, .inr ?_⟩
        simp [recoverD, hc]
    | _ => exact hm.elim
  · cases hr

/-- a deferred function that asks recover first -/
theorem deferred_call (hP : ProgOk P) (hR : RecOk P W0 r) (hD : DrawOk P W0 r) {g : FuncId} {args : List AV} {us : List Value} {mode m' : Option (List PE)} {u : FrameMode} {E : Env} {h h' : H} {w : World} (S : HSim P W0 E h w)
    (hargs : cvL E args = some us) (hm : ModeOk E mode u) (hev : evDeferred P r (.call g args) mode h = some (m', h')) :
    HasBody P g ∧ CallsDIn Fence.wide 0 P g us.toArray u w (fun e u' w' => ∃ E' vv, e = .returned vv ∧ Trans E h E' h' ∧ HSim P W0 E' h' w' ∧ ModeOk E' m' (settle u')) := by
  simp only [evDeferred] at hev
  split at hev
  · rename_i n vm rs id ops rest hfn
    obtain ⟨fn, hf, hb, hnt, hrs⟩ := fnOf_some hfn
    refine ⟨⟨fn, _, hf, hb⟩, ?_⟩
    split at hev
    · rename_i x cargs cts cty cpos caft y z aty apos aaft v mode' hops hrec
      split at hev
      · rename_i hchk
        simp only [Bool.and_eq_true, Bool.not_eq_true'] at hchk
        obtain ⟨⟨⟨⟨⟨hxz, hbx⟩, hby⟩, hxn⟩, hyn⟩, han⟩ := hchk
        have hxz := Nat.eq_of_beq_eq_true hxz
        subst hxz
        have hxn := blt_lt hxn
        have hyn := blt_lt hyn
        have han := Nat.le_of_ble_eq_true han
        have hl := cvL_length hargs
        simp only at hnt hrs hb
        refine callsDIn_of_wpSIn hf hb trivial fun c₀ cs hc₀ => ?_
        obtain ⟨vv, u', hvv, hmode', hrd⟩ := recovered_sound (cs := cs) hm hc₀ hrec
        have h0 : ops[0]? = some ⟨some x, .call ⟨.builtin .recover, cargs, cts⟩, cty, cpos, caft, none⟩ := by
          rw [← Array.getElem?_toList, hops]; rfl
        have h1 : ops[1]? = some ⟨some y, .assign (.tmp x), aty, apos, aaft, none⟩ := by
          rw [← Array.getElem?_toList, hops]; rfl
        have hsize : ops.size = 2 := by
          have := congrArg List.length hops
          simpa using this
        let x0 : Act := { tmps := us.toArray ++ Array.replicate (fn.ntmps - us.toArray.size) undef, defers := [] }
        have hA0 : ASim E n vm ⟨mkVars args 0 .nil, [], []⟩ x0 := by
          have := start_sound (vm := vm) hargs han
          rw [← hnt] at this
          rw [← hnt]
          exact this
        have hltx : Nat.blt x n = true := Nat.ble_eq_true_of_le hxn
        have hlty : Nat.blt y n = true := Nat.ble_eq_true_of_le hyn
        have hA1 := put_sound hA0 (d := some x) (xd := .l x) (by simp only [cDst, hltx, hbx]) hvv
        have hA2 := put_sound hA1 (d := some y) (xd := .v y) (by simp only [cDst, hlty, hby]) hvv
        have hcont : (Code.wpSIn Fence.wide 0 P rest (bodyPostS P fn c₀ cs (fun e u' w' => ∃ E' vv, e = .returned vv ∧ Trans E h E' h' ∧ HSim P W0 E' h' w' ∧ ModeOk E' m' (settle u')))
            ((x0.put (some x) vv).put (some y) vv) ({ c₀ with mode := u' } :: cs) w) := by
          refine wpSIn_of_wpIn rfl ?_
          have hne : runCode r none (cCode P n vm rest) ⟨(mkVars args 0 .nil).put y v, [(x, v)], []⟩ h ≠ .fail := fun hf => by rw [hf] at hev; cases hev
          refine code_sound (W0 := W0) (n := n) (vm := vm) (rd := none) hP hR hD rest E ⟨(mkVars args 0 .nil).put y v, [(x, v)], []⟩ h _ w _ S hA2 rfl hne ?_
          intro e x' w' hc
          have fin : ∀ a3 h3, (match a3.defers, evResults P vm a3 h3 rs, settled mode' with | [], some _, some m => some (m, h3) | _, _, _ => none) = some (m', h') →
              (∃ E', Trans E h E' h3 ∧ HSim P W0 E' h3 w' ∧ ASim E' n vm a3 x') →
              x'.defers = [] ∧ ∃ u'', { c₀ with mode := u' } :: cs = { c₀ with mode := u'' } :: cs ∧ ∃ vr, (results fn x'.tmps).run P w' = .ok vr w' ∧ ∃ E' vv, Ending.returned vr = .returned vv ∧ Trans E h E' h' ∧ HSim P W0 E' h' w' ∧ ModeOk E' m' (settle u'') := by
            intro a3 h3 hmm hh
            obtain ⟨E', ht, hs, ha⟩ := hh
            split at hmm
            · rename_i l m hd3 hres hset
              cases hmm
              have hdd := ha.defers
              rw [hd3] at hdd
              refine ⟨?_, u', rfl, ?_⟩
              · cases hx : x'.defers with
                | nil => rfl
                | cons _ _ => rw [hx] at hdd; exact hdd.elim
              · have hret : ∃ vr hr, evReturn P vm fn.results.toList a3 h' = .val vr hr := by
                  unfold evReturn
                  rw [hrs, hres]
                  cases l with
                  | nil => exact ⟨_, _, rfl⟩
                  | cons l0 ls => cases ls with
                    | nil => exact ⟨_, _, rfl⟩
                    | cons _ _ => exact ⟨_, _, rfl⟩
                obtain ⟨vr, hr, hret⟩ := hret
                obtain ⟨-, uu, huu, hrun⟩ := results_sound hs ha.vars hret
                exact ⟨uu, hrun, E', uu, rfl, ht, hs, settled_sound (hmode'.up ht.up) hset⟩
            · cases hmm
          cases hcr : runCode r none (cCode P n vm rest) ⟨(mkVars args 0 .nil).put y v, [(x, v)], []⟩ h with
          | normal a3 h3 =>
            simp only [hcr] at hev hc
            cases e <;> simp only [CROk] at hc
            exact fin a3 h3 hev hc
          | ret a3 h3 =>
            simp only [hcr] at hev hc
            cases e <;> simp only [CROk] at hc
            exact fin a3 h3 hev hc
          | fail => rw [hcr] at hev; cases hev
          | exit _ _ _ => rw [hcr] at hev; cases hev
          | goto _ _ _ => rw [hcr] at hev; cases hev
          | pan _ _ _ => rw [hcr] at hev; cases hev
        refine wpSIn_seq (wpSIn_region ?_)
        rw [hsize]
        show wpOpsSIn Fence.wide 0 P ops _ [0, 1] x0 (c₀ :: cs) w
        have hex : (execOp x0.eval ⟨some x, .call ⟨.builtin .recover, cargs, cts⟩, cty, cpos, caft, none⟩).run P w = .ok .recover w := by
          simp [execOp, resolve, invoke, builtin]
        have hxs : x < x0.tmps.size := by rw [hA0.size]; exact hxn
        have hev2 : (x0.put (some x) vv).eval (.tmp x) = vv := by simp [Act.put, Act.eval, hxs]
        have hex2 : (execOp (x0.put (some x) vv).eval ⟨some y, .assign (.tmp x), aty, apos, aaft, none⟩).run P w = .ok (.value vv) w := by
          simp only [execOp, hev2]; rfl
        have hstep2 : ∀ cs', cs' = { c₀ with mode := u' } :: cs → wpOpsSIn Fence.wide 0 P ops (Exit.thenS (rest.wpSIn Fence.wide 0 P (bodyPostS P fn c₀ cs (fun e u' w' => ∃ E' vv, e = .returned vv ∧ Trans E h E' h' ∧ HSim P W0 E' h' w' ∧ ModeOk E' m' (settle u')))) (bodyPostS P fn c₀ cs (fun e u' w' => ∃ E' vv, e = .returned vv ∧ Trans E h E' h' ∧ HSim P W0 E' h' w' ∧ ModeOk E' m' (settle u')))) [1] (x0.put (some x) vv) cs' w := by
          intro cs' hcs'
          subst hcs'
          simp only [wpOpsSIn, h1]
          refine ⟨fun _ _ => trivial, ?_⟩
          simp only [Region.wanted, if_true, hex2]
          exact hcont
        rw [wpOpsSIn]
        simp only [h0]
        refine ⟨fun _ _ => trivial, ?_⟩
        simp only [Region.wanted, if_true, hex]
        rcases hrd with ⟨hrn, rfl, rfl⟩ | hrs'
        · rw [hrn]
          exact hstep2 (c₀ :: cs) (by rw [← hc₀])
        · rw [hrs']
          exact hstep2 _ rfl
      · cases hev
    · cases hev
  · cases hev

theorem leave_sound (hP : ProgOk P) (hR : RecOk P W0 r) (hD : DrawOk P W0 r) {E0 : Env} {h0 : H} {fn : Func} {a : A} {tmps : Array Value} : ∀ (ds : List ADef) (xs : List Deferred) (m : Option (List PE)) (u : FrameMode) (E : Env) (h : H) (w : World),
    Trans E0 h0 E h → HSim P W0 E h w → DefsOk E ds xs → ModeOk E m u → VarsOk E vm a.vars tmps → Outs (evLeave P r vm fn.results.toList a ds m h) →
    LeavesInM Fence.wide 0 P fn tmps (EndOk P W0 E0 h0 (evLeave P r vm fn.results.toList a ds m h)) xs u w
  | [], xs, m, u, E, h, w, ht, S, hds, hm, hv, ho => by
    cases xs with
    | cons _ _ => exact hds.elim
    | nil =>
      cases m with
      | none =>
        cases u with
        | returning =>
          simp only [evLeave] at ho ⊢
          cases hret : evReturn P vm fn.results.toList a h with
          | val v h' =>
            obtain ⟨rfl, uu, huu, hrun⟩ := results_sound S hv hret
            exact ⟨uu, hrun, E, uu, rfl, ht, S, huu⟩
          | fail => rw [hret] at ho; exact ho.elim
          | pan c h' =>
            exfalso
            unfold evReturn at hret
            split at hret <;> cases hret
          | dfr d h' => rw [hret] at ho; exact ho.elim
        | _ => exact hm.elim
      | some c =>
        cases u with
        | panicking ch =>
          simp only [evLeave] at ho ⊢
          exact ⟨E, ch, rfl, ht, S, hm⟩
        | _ => exact hm.elim
  | d :: ds, xs, m, u, E, h, w, ht, S, hds, hm, hv, ho => by
    cases xs with
    | nil => exact hds.elim
    | cons xd xs =>
      obtain ⟨hd, hds⟩ := hds
      simp only [evLeave] at ho ⊢
      cases hev : evDeferred P r d m h with
      | none => rw [hev] at ho; exact ho.elim
      | some mh =>
        obtain ⟨m', h'⟩ := mh
        rw [hev] at ho
        simp only at ho ⊢
        refine ⟨hm.run, ?_⟩
        cases d with
        | mark b =>
          obtain ⟨e, he, rfl⟩ := hd
          simp only [evDeferred] at hev
          split at hev
          · rename_i hg
            cases hev
            obtain ⟨o, ho', hok⟩ := S.blk b e _ he hg
            have hok' : o = .deferred (some []) := by simpa [BlkOk] using hok
            subst hok'
            have hlt : e.rb < w.heap.size := by
              rcases Nat.lt_or_ge e.rb w.heap.size with h1 | h1
              · exact h1
              · rw [Array.getElem?_eq_none h1] at ho'; cases ho'
            have S' : HSim P W0 E (h.put b (.deferred false)) { w with heap := w.heap.setIfInBounds e.rb (.deferred none) } :=
              S.write (o' := .deferred none) he hg rfl (by simp) (by simp [BlkOk]) (by simp) (by simp [hlt]) (fun k hk => by simp [Ne.symm hk]) rfl rfl
            refine .inl ⟨e.rb, _, rfl, ?_, leave_sound hP hR hD ds xs m u E _ _ (ht.trans (.put he)) S' hds hm hv ho⟩
            simp [Instr.takeDeferred, getObj, setObj, Sem.run, ho']
          · cases hev
        | call g args =>
          obtain ⟨cap, htar, hargs⟩ := hd
          obtain ⟨hbody, hcalls⟩ := deferred_call (W0 := W0) hP hR hD S hargs hm hev
          refine .inr ⟨fun hh => by simp [Fence.wide] at hh, .func g, cap, g, (xd.args.toList ++ cap.toList).toArray, htar, ?_, fun _ _ => trivial, hcalls.mono fun e u' w' he => ?_⟩
          · have harr : xd.args ++ cap = (xd.args.toList ++ cap.toList).toArray := by apply Array.ext'; simp
            rw [htar]
            simp only [invoke, harr, callFunc_run hP hbody]
          · obtain ⟨E', vv, rfl, ht', hs', hm'⟩ := he
            exact leave_sound hP hR hD ds xs m' (settle u') E' h' w' (ht.trans ht') hs' (hds.up ht'.up) hm' (hv.up ht'.up) ho

theorem evLeave_dfr {a : A} {rs : List ResultVar} : ∀ (ds : List ADef) (m : Option (List PE)) (h : H) (d : ADef) (h' : H), evLeave P r vm rs a ds m h ≠ .dfr d h'
  | [], none, h, d, h', hh => by
    simp only [evLeave, evReturn] at hh
    split at hh <;> cases hh
  | [], some c, h, d, h', hh => by simp only [evLeave] at hh; cases hh
  | d0 :: ds, m, h, d, h', hh => by
    simp only [evLeave] at hh
    split at hh
    · exact evLeave_dfr ds _ _ d h' hh
    · cases hh

theorem evCall_sound (hP : ProgOk P) (hR : RecOk P W0 r) (hD : DrawOk P W0 r) {E : Env} {h : H} {w : World} {f : FuncId} {args : List AV} {us : List Value} (S : HSim P W0 E h w) (hargs : cvL E args = some us) (ho : Outs (evCall P r f args h)) :
    HasBody P f ∧ CallsIn Fence.wide 0 P f us.toArray w (EndOk P W0 E h (evCall P r f args h)) := by
  unfold evCall at ho ⊢
  split at ho
  · rename_i n vm rs code hfn
    obtain ⟨fn, hf, hb, hnt, hrs⟩ := fnOf_some hfn
    simp only at hnt hrs hb
    refine ⟨⟨fn, _, hf, hb⟩, ?_⟩
    try simp only [hfn]
    split at ho
    · rename_i hle
      try simp only [hle]
      have han := Nat.le_of_ble_eq_true hle
      have hA0 := start_sound (vm := vm) hargs han
      refine callsIn_of_wp_marks hf hb trivial ?_
      have hne : runCode r none (cCode P n vm code) ⟨mkVars args 0 .nil, [], []⟩ h ≠ .fail := fun hf => by rw [hf] at ho; exact ho.elim
      rw [hnt]
      refine code_sound (W0 := W0) (n := n) (vm := vm) (rd := none) hP hR hD code E ⟨mkVars args 0 .nil, [], []⟩ h _ w _ S hA0 rfl hne ?_
      intro e x' w' hc
      subst hrs
      cases hcr : runCode r none (cCode P n vm code) ⟨mkVars args 0 .nil, [], []⟩ h with
      | fail => exact absurd hcr hne
      | normal a' h' =>
        simp only [hcr] at ho hc ⊢
        cases e <;> simp only [CROk] at hc
        obtain ⟨E', ht, hs, ha⟩ := hc
        exact leave_sound hP hR hD a'.defers x'.defers none .returning E' h' w' ht hs ha.defers trivial ha.vars ho
      | ret a' h' =>
        simp only [hcr] at ho hc ⊢
        cases e <;> simp only [CROk] at hc
        obtain ⟨E', ht, hs, ha⟩ := hc
        exact leave_sound hP hR hD a'.defers x'.defers none .returning E' h' w' ht hs ha.defers trivial ha.vars ho
      | pan ch a' h' =>
        simp only [hcr] at ho hc ⊢
        cases e <;> simp only [CROk] at hc
        obtain ⟨E', ht, hs, ha, hch⟩ := hc
        exact leave_sound hP hR hD a'.defers x'.defers (some ch) (.panicking _) E' h' w' ht hs ha.defers hch ha.vars ho
      | exit _ _ _ => rw [hcr] at ho; exact ho.elim
      | goto _ _ _ => rw [hcr] at ho; exact ho.elim
    · exact ho.elim
  · exact ho.elim

end
end Go.Ev
