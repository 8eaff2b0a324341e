/- Rounds; all levels of fuel. -/
import Derived.Test.YtbflihggpacblaaGreatDoorEvDrawE
set_option linter.unusedVariables false
set_option linter.unusedSimpArgs false
namespace Go.Ev
set_option linter.unusedSectionVars false
variable [Sig]

section
variable {P : Program} {W0 : World} {r : Rec}

theorem setParams_sound {E : Env} {vm : Nat} : ∀ {ps : List Tmp} {args : List AV} {us : List Value} {n : Nat} {t t1 : Tr AV} {tmps : Array Value}, setParams ps args n t = some t1 → cvL E args = some us → tmps.size = n → VarsOk E vm t tmps →
    us.length = ps.length ∧ ((ps.zip us).foldl (fun tmps (t, a) => tmps.setIfInBounds t a) tmps).size = n ∧ VarsOk E vm t1 ((ps.zip us).foldl (fun tmps (t, a) => tmps.setIfInBounds t a) tmps)
  | [], [], us, n, t, t1, tmps, h, hu, hs, hv => by
    simp only [setParams, Option.some.injEq] at h
    simp only [cvL, Option.some.injEq] at hu
    subst h; subst hu
    exact ⟨rfl, hs, hv⟩
  | p :: ps, v :: vs, us, n, t, t1, tmps, h, hu, hs, hv => by
    simp only [setParams] at h
    split at h
    · rename_i hlt
      have hlt := blt_lt hlt
      simp only [cvL] at hu
      split at hu
      · rename_i u l hcv hcl
        cases hu
        have hv' : VarsOk E vm (t.put p v) (tmps.setIfInBounds p u) := by
          intro s y hb hy
          rw [Tr.get_put] at hy
          split at hy
          · rename_i he; subst he; cases hy; exact ⟨u, hcv, by simp [hs, hlt]⟩
          · rename_i hne
            obtain ⟨z, hz, hz'⟩ := hv s y hb hy
            exact ⟨z, hz, by rw [Array.getElem?_setIfInBounds_ne (fun he => hne he.symm)]; exact hz'⟩
        obtain ⟨h1, h2, h3⟩ := setParams_sound (tmps := tmps.setIfInBounds p u) h hcl (by simp [hs]) hv'
        exact ⟨by simp [h1], by simpa using h2, by simpa using h3⟩
      · cases hu
    · cases h
  | [], _ :: _, us, n, t, t1, tmps, h, hu, hs, hv => by simp [setParams] at h
  | _ :: _, [], us, n, t, t1, tmps, h, hu, hs, hv => by simp [setParams] at h

/-- a loop's record, opened -/
theorem HSim.loop {E : Env} {h : H} {w : World} (S : HSim P W0 E h w) {l : Nat} {e : Loc} (he : E l = some e) {st : LoopState} {pend : Option Code} {t : Tr AV} {vm n : Nat} {ps : List Tmp} {asg body : Code} {d : Nat} (hg : h.get l = some (.loop st pend t vm n ps asg body d)) :
    ∃ L : Loop, w.heap[e.rb]? = some (.loop L) ∧ L.state = st ∧ L.pending = pend ∧ L.tmps.size = n ∧ VarsOk E vm t L.tmps ∧ L.params.toList = ps ∧ L.assign = asg ∧ L.body = body ∧ ∃ e', E d = some e' ∧ e'.rb = L.defers := by
  obtain ⟨o, ho, L, rfl, h1, h2, h3, h4, h5, h6, h7, h8⟩ := S.blk l e _ he hg
  exact ⟨L, ho, h1, h2, h3, h4, h5, h6, h7, h8⟩

theorem setLoop {E : Env} {h : H} {w : World} (S : HSim P W0 E h w) {l : Nat} {e : Loc} (he : E l = some e) {st : LoopState} {pend : Option Code} {t : Tr AV} {vm n : Nat} {ps : List Tmp} {asg body : Code} {d : Nat} (hg : h.get l = some (.loop st pend t vm n ps asg body d))
    {L : Loop} (hL : w.heap[e.rb]? = some (.loop L)) (st' : LoopState) (pend' : Option Code) :
    HSim P W0 E (h.put l (.loop st' pend' t vm n ps asg body d)) { w with heap := w.heap.setIfInBounds e.rb (.loop { L with state := st', pending := pend' }) } := by
  obtain ⟨L', hL', h1, h2, h3, h4, h5, h6, h7, h8⟩ := S.loop he hg
  rw [hL] at hL'; cases hL'
  have hlt : e.rb < w.heap.size := by
    rcases Nat.lt_or_ge e.rb w.heap.size with h1 | h1
    · exact h1
    · rw [Array.getElem?_eq_none h1] at hL; cases hL
  exact S.write he hg rfl (by simp) ⟨{ L with state := st', pending := pend' }, rfl, rfl, rfl, h3, h4, h5, h6, h7, h8⟩ (by simp) (by simp [hlt]) (fun k hk => by simp [Ne.symm hk]) rfl rfl

theorem evYield_sound (hP : ProgOk P) (hR : RecOk P W0 r) {E : Env} {h : H} {w : World} {l : Nat} {e : Loc} {args : List AV} {us : List Value} (S : HSim P W0 E h w) (he : E l = some e) (hargs : cvL E args = some us) (ho : Outs (evYield P r l args h)) :
    ∃ f tmps asg body, (Instr.yield e.rb us.toArray).run P w = .ok (.round e.rb f tmps asg body) w ∧ RoundIn Fence.wide 0 P e.rb f tmps asg body w (EndOk P W0 E h (evYield P r l args h)) := by
  have hD := draw_ok hP hR
  unfold evYield at ho ⊢
  split at ho
  · rename_i pend0 t vm n ps asg body d0 hg
    try simp only [hg]
    split at ho
    · rename_i t1 ht1
      try simp only [ht1]
      obtain ⟨L, hL, h1, h2, h3, h4, h5, h6, h7, h8⟩ := S.loop he hg
      obtain ⟨hlen, hsz, hv1⟩ := setParams_sound ht1 hargs h3 h4
      have hzip : ((L.params.zip us.toArray).foldl (fun tmps (x : Tmp × Value) => tmps.setIfInBounds x.1 x.2) L.tmps) = ((ps.zip us).foldl (fun tmps (t, a) => tmps.setIfInBounds t a) L.tmps) := by
        rw [← Array.foldl_toList]
        simp [Array.toList_zip, h5]
      have hps : us.toArray.size = L.params.size := by
        have := congrArg List.length h5
        simp at this
        simp [hlen, this]
      have hget : (getObj e.rb).run P w = .ok (.loop L) w := by simp [getObj, Sem.run, hL]
      refine ⟨L.fn, (L.params.zip us.toArray).foldl (fun tmps (x : Tmp × Value) => tmps.setIfInBounds x.1 x.2) L.tmps, asg, body, ?_, ?_⟩
      · simp only [Instr.yield, Instr.getLoop, hget, Sem.run_bind, Result.andThen_ok]
        simp [hps, h6, h7, Instr.getLoop, hget]
      · rw [hzip]
        refine roundIn_of_wpIn trivial ?_
        have hF : RdOk E (some l) (Fence.wide.inRound e.rb) := ⟨e, he, rfl⟩
        have hne : runCode r (some l) (cCode P n vm asg) ⟨t1, [], []⟩ h ≠ .fail := fun hf => by rw [hf] at ho; exact ho.elim
        refine code_sound (W0 := W0) (n := n) (vm := vm) (rd := some l) hP hR hD asg E ⟨t1, [], []⟩ h _ w _ S ⟨hsz, hv1, (fun t v _ hh => by rw [findLog_nil] at hh; cases hh), trivial⟩ hF hne ?_
        intro ex x1 w1 hc
        cases hcr : runCode r (some l) (cCode P n vm asg) ⟨t1, [], []⟩ h with
        | fail => exact absurd hcr hne
        | exit _ _ _ => rw [hcr] at ho; exact ho.elim
        | goto _ _ _ => rw [hcr] at ho; exact ho.elim
        | ret _ _ => rw [hcr] at ho; exact ho.elim
        | pan _ _ _ => rw [hcr] at ho; exact ho.elim
        | normal a1 h1' =>
          simp only [hcr] at ho hc ⊢
          cases ex <;> simp only [CROk] at hc
          obtain ⟨E1, tr1, S1, A1⟩ := hc
          have he1 := tr1.up _ _ he
          split at ho
          · rename_i pend2 t2 vm2 n2 ps2 asg2 body2 d2 hg1
            try simp only [hg1]
            obtain ⟨L1, hL1, q1, q2, -⟩ := S1.loop he1 hg1
            have S2 := setLoop S1 he1 hg1 hL1 .busy pend2
            have tr2 := tr1.trans (Trans.put (y := .loop .busy pend2 t2 vm2 n2 ps2 asg2 body2 d2) he1)
            have hbr : (Instr.beginRound e.rb).run P w1 = .ok () { w1 with heap := w1.heap.setIfInBounds e.rb (.loop { L1 with state := .busy, pending := pend2 }) } := by
              have hget1 : (getObj e.rb).run P w1 = .ok (.loop L1) w1 := by simp [getObj, Sem.run, hL1]
              have : ({ L1 with state := LoopState.busy } : Loop) = { L1 with state := .busy, pending := pend2 } := by rw [← q2]
              simp [Instr.beginRound, Instr.getLoop, hget1, setObj, Sem.run, hL1, q1, this]
            refine ⟨_, hbr, ?_⟩
            have hne2 : runCode r (some l) (cCode P n vm body) a1 (h1'.put l (.loop .busy pend2 t2 vm2 n2 ps2 asg2 body2 d2)) ≠ .fail := fun hf => by rw [hf] at ho; exact ho.elim
            refine code_sound (W0 := W0) (n := n) (vm := vm) (rd := some l) hP hR hD body E1 a1 _ _ _ _ S2 A1 (hF.up tr1.up) hne2 ?_
            intro ex2 x2 w2 hc2
            have fin : ∀ (j : Option Code) (a2 : A) (h2 : H), Outs (endRound l j a2 h2) → (∃ E', Trans E1 (h1'.put l (.loop .busy pend2 t2 vm2 n2 ps2 asg2 body2 d2)) E' h2 ∧ HSim P W0 E' h2 w2 ∧ ASim E' n vm a2 x2) →
                ∃ v w', (Instr.endRound e.rb j).run P w2 = .ok v w' ∧ EndOk P W0 E h (endRound l j a2 h2) (.returned v) w' := by
              intro j a2 h2 hout hh
              obtain ⟨E2, tr3, S3, A3⟩ := hh
              unfold endRound at hout ⊢
              have he2 := tr3.up _ _ he1
              split at hout
              · rename_i st3 pend3 t3 vm3 n3 ps3 asg3 body3 d3 hdf hg3
                try simp only [hdf, hg3]
                obtain ⟨L3, hL3, -⟩ := S3.loop he2 hg3
                have hget3 : (getObj e.rb).run P w2 = .ok (.loop L3) w2 := by simp [getObj, Sem.run, hL3]
                clear hout
                cases j with
                | none =>
                  have S4 := setLoop S3 he2 hg3 hL3 .ready none
                  refine ⟨.bool true, _, ?_, E2, _, rfl, (tr2.trans tr3).trans (.put he2), S4, by simp [cv]⟩
                  simp [Instr.endRound, Instr.getLoop, hget3, setObj, Sem.run, hL3]
                | some j =>
                  have S4 := setLoop S3 he2 hg3 hL3 .done (some j)
                  refine ⟨.bool false, _, ?_, E2, _, rfl, (tr2.trans tr3).trans (.put he2), S4, by simp [cv]⟩
                  simp [Instr.endRound, Instr.getLoop, hget3, setObj, Sem.run, hL3]
              · exact hout.elim
            cases hcr2 : runCode r (some l) (cCode P n vm body) a1 (h1'.put l (.loop .busy pend2 t2 vm2 n2 ps2 asg2 body2 d2)) with
            | fail => exact absurd hcr2 hne2
            | goto _ _ _ => rw [hcr2] at ho; exact ho.elim
            | pan _ _ _ => rw [hcr2] at ho; exact ho.elim
            | normal a2 h2' =>
              simp only [hcr2] at ho hc2 ⊢
              cases ex2 <;> simp only [CROk] at hc2
              exact fin none a2 h2' ho hc2
            | ret a2 h2' =>
              simp only [hcr2] at ho hc2 ⊢
              cases ex2 <;> simp only [CROk] at hc2
              exact fin (some .ret) a2 h2' ho hc2
            | exit id a2 h2' =>
              simp only [hcr2] at ho hc2 ⊢
              cases ex2 <;> simp only [CROk] at hc2
              obtain ⟨rfl, hc2⟩ := hc2
              exact fin (some (.exit id)) a2 h2' ho hc2
          · exact ho.elim
    · exact ho.elim
  · exact ho.elim

theorem evCall_dfr (f : FuncId) (args : List AV) (h : H) (d : ADef) (h' : H) : evCall P r f args h ≠ .dfr d h' := by
  intro hh
  unfold evCall at hh
  (repeat' split at hh) <;> first | (cases hh; done) | exact evLeave_dfr _ _ _ _ _ hh
theorem evYield_dfr (l : Nat) (args : List AV) (h : H) (d : ADef) (h' : H) : evYield P r l args h ≠ .dfr d h' := by
  have he : ∀ j a h2, endRound l j a h2 ≠ .dfr d h' := by
    intro j a h2 hh
    unfold endRound at hh
    split at hh <;> cases hh
  intro hh
  unfold evYield at hh
  (repeat' split at hh) <;> first | (cases hh; done) | exact he _ _ _ hh

theorem fns_zero (P : Program) (O : Orc) : fns P O 0 = ⟨fun _ _ _ => .fail, fun _ _ _ _ => .fail, fun _ _ _ => .fail⟩ := rfl
theorem fns_succ (P : Program) (O : Orc) (n : Nat) : fns P O (n + 1) = ⟨callO P O (fns P O n), evLoop (fns P O n), evYield P (fns P O n)⟩ := rfl

/-- what is known beforehand is so -/
def OrcOk (P : Program) (W0 : World) (O : Orc) : Prop := ∀ (f : FuncId) (args : List AV) (ans : Ans), O f args = some ans → HasBody P f ∧
  ∀ (E : Env) (h : H) (w : World) (us : List Value), HSim P W0 E h w → cvL E args = some us → Outs (ansRun ans h) → CallsIn Fence.wide 0 P f us.toArray w (EndOk P W0 E h (ansRun ans h))

theorem ansRun_dfr (ans : Ans) (h : H) (d : ADef) (h' : H) : ansRun ans h ≠ .dfr d h' := by
  cases ans with
  | set n b off v res =>
    simp only [ansRun]
    split <;> intro hh <;> cases hh
  | _ => simp [ansRun]

theorem fns_ok (hP : ProgOk P) {O : Orc} (hO : OrcOk P W0 O) : ∀ n, RecOk P W0 (fns P O n)
  | 0 => by
    rw [fns_zero]
    exact ⟨fun _ _ _ _ _ _ _ _ ho => ho.elim, fun _ _ _ _ _ _ _ _ _ _ ho => ho.elim, fun _ _ _ _ _ hh => by simp at hh, fun _ _ _ _ _ hh => by simp at hh, fun _ _ _ _ _ _ _ _ _ _ _ _ _ hne => absurd rfl hne⟩
  | n + 1 => by
    have ih := fns_ok hP hO n
    rw [fns_succ]
    refine ⟨fun E h w f args us S ha ho => ?_,
      fun E h w l e args us S he ha ho => evYield_sound hP ih S he ha ho,
      fun f args h d h' => ?_, fun l args h d h' => evYield_dfr l args h d h',
      fun E h w rd F n vm c a x S hA hF hne => evLoop_sound hP ih (draw_ok hP ih) S hA hF hne⟩
    · simp only [callO] at ho ⊢
      split at ho
      · rename_i ans hans
        try simp only [hans]
        exact ⟨(hO f args ans hans).1, (hO f args ans hans).2 E h w us S ha ho⟩
      · rename_i hans
        try simp only [hans]
        exact evCall_sound hP ih (draw_ok hP ih) S ha ho
    · simp only [callO]
      split
      · exact ansRun_dfr _ _ _ _
      · exact evCall_dfr f args h d h'

end
end Go.Ev
