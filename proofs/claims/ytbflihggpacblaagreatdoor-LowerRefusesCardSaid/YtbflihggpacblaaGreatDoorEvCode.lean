/- Code. -/
import Derived.Test.YtbflihggpacblaaGreatDoorEvRegion
import Derived.RangeFuncLeaves
import Derived.RecoverIn
set_option linter.unusedVariables false
set_option linter.unusedSimpArgs false
namespace Go.Ev
set_option linter.unusedSectionVars false
variable [Sig]

/-- a drawn region's walk -/
def DrawOk (P : Program) (W0 : World) (r : Rec) : Prop :=
  ∀ (E : Env) (h : H) (w : World) (rd : Option Nat) (F : Fence) (n vm : Nat) (ops : Array Oper) (id : Nat) (a : A) (x : Act) (Q : Exit → Act → World → Prop), HSim P W0 E h w → ASim E n vm a x → RdOk E rd F →
    runCode r rd (cDraw P n vm ops.toList) a h ≠ .fail →
    (∀ e x' w', CROk P W0 E h n vm (runCode r rd (cDraw P n vm ops.toList) a h) e x' w' → Q e x' w') → (Code.region id ops true).wpIn F 0 P Q x w

section
variable {P : Program} {W0 : World} {n vm : Nat} {r : Rec} {rd : Option Nat} {F : Fence}

/-- the range over a function -/
theorem range_sound (hP : ProgOk P) (hR : RecOk P W0 r) {g : Operand} {xg : XO} {ps : Array Tmp} {asg body : Code} {E : Env} {a : A} {h : H} {x : Act} {w : World} {Q : Exit → Act → World → Prop} (S : HSim P W0 E h w) (hA : ASim E n vm a x)
    (hF : RdOk E rd F) (hg : cO vm g = some xg) (hne : rRange xg n vm ps.toList asg body r rd a h ≠ .fail)
    (hQ : ∀ e x' w', CROk P W0 E h n vm (rRange xg n vm ps.toList asg body r rd a h) e x' w' → Q e x' w') : (Code.rangeFunc g ps asg body).wpIn F 0 P Q x w := by
  have hdep : F.depth.isSome = true → 1 ≤ 0 := fun hh => by rw [hF.depth] at hh; cases hh
  unfold rRange at hne hQ
  split at hne
  · rename_i f fs cs hgx
    simp only [hgx] at hQ
    obtain ⟨lf, lc, hlf, hlc, heq⟩ := cv_func (opr_sound S hA hg hgx)
    split at hne
    · rename_i d a1 h1 hst
      simp only [hst] at hQ
      refine wpIn_rangeFunc fun fn hfn => ?_
      -- the loop's record is laid
      have hlay : ∃ (E2 : Env) (rb : Nat) (mark : List Deferred) (w2 : World), (Instr.enterLoop fn x.tmps ps asg body F.round).run P w = .ok (rb, mark) w2 ∧
          Trans E h E2 (h1.new (.loop .ready none a.vars vm n ps.toList asg body d)) ∧ HSim P W0 E2 (h1.new (.loop .ready none a.vars vm n ps.toList asg body d)) w2 ∧
          E2 h1.next = some ⟨rb, 0, 0, none⟩ ∧ ASim E2 n vm a1 { x with defers := mark ++ x.defers } := by
        have hloop : ∀ (E1 : Env) (w1 : World) (db : Nat) (e' : Loc), HSim P W0 E1 h1 w1 → (∀ b e, E b = some e → E1 b = some e) → E1 d = some e' → e'.rb = db →
            HSim P W0 (E1.add h1.next ⟨w1.heap.size, 0, 0, none⟩) (h1.new (.loop .ready none a.vars vm n ps.toList asg body d))
              { w1 with heap := w1.heap.push (.loop { state := .ready, pending := none, fn := fn, tmps := x.tmps, params := ps, assign := asg, body := body, defers := db }) } := by
          intro E1 w1 db e' S1 hE hd hdb
          refine S1.alloc 0 rfl fun E' hE' => ⟨_, rfl, rfl, rfl, hA.size, (hA.vars.up hE).up hE', rfl, rfl, rfl, e', hE' d e' hd, hdb⟩
        cases rd with
        | none =>
          cases hF
          simp only [rangeStart, Option.some.injEq, Prod.mk.injEq] at hst
          obtain ⟨rfl, rfl, rfl⟩ := hst
          have S1 := S.alloc 0 (x := .deferred true) (o := .deferred (some [])) rfl (fun E' _ => rfl)
          have t1 : Trans E h (E.add h.next ⟨w.heap.size, 0, 0, none⟩) (h.new (.deferred true)) := .new S.fresh
          have S2 := hloop _ _ w.heap.size _ S1 t1.up (add_new _ _) rfl
          have t2 := t1.trans (Trans.new (e := ⟨w.heap.size + 1, 0, 0, none⟩) (y := .loop .ready none a.vars vm n ps.toList asg body h.next) S1.fresh)
          simp only [Array.size_push] at S2
          refine ⟨_, w.heap.size + 1, [{ target := .collected w.heap.size, args := #[] }], { w with heap := (w.heap.push (.deferred (some []))).push (.loop { state := .ready, pending := none, fn := fn, tmps := x.tmps, params := ps, assign := asg, body := body, defers := w.heap.size }) }, ?_, t2, S2, add_new _ _, ?_⟩
          rotate_left
          · have hup : ∀ b e, E b = some e → ((E.add h.next ⟨w.heap.size, 0, 0, none⟩).add (h.new (.deferred true)).next ⟨w.heap.size + 1, 0, 0, none⟩) b = some e := t2.up
            refine ⟨hA.size, hA.vars.up hup, fun t v hb hv => let ⟨u, hu, ht⟩ := hA.log t v hb hv; ⟨u, cv_up hup v u hu, ht⟩, ⟨⟨w.heap.size, 0, 0, none⟩, ?_, rfl⟩, hA.defers.up hup⟩
            exact (Trans.new (h := h.new (.deferred true)) (y := .dead) S1.fresh).up _ _ (add_new _ _)
          · simp [Instr.enterLoop, Fence.wide, newObj, Sem.run]
            rfl
        | some l =>
          obtain ⟨e, hel, rfl⟩ := hF
          simp only [rangeStart] at hst
          split at hst
          · rename_i st pend vars vm' n' ps' asg' body' d' hgl
            simp only [Option.some.injEq, Prod.mk.injEq] at hst
            obtain ⟨rfl, rfl, rfl⟩ := hst
            obtain ⟨o, ho, L, rfl, -, -, -, -, -, -, -, e', he', hrb⟩ := S.blk l e _ hel hgl
            have S2 := hloop E w L.defers e' S (fun _ _ hh => hh) he' hrb
            have t2 : Trans E h (E.add h.next ⟨w.heap.size, 0, 0, none⟩) (h.new (.loop .ready none a.vars vm n ps.toList asg body d')) := .new S.fresh
            refine ⟨_, w.heap.size, [], { w with heap := w.heap.push (.loop { state := .ready, pending := none, fn := fn, tmps := x.tmps, params := ps, assign := asg, body := body, defers := L.defers }) }, ?_, t2, S2, add_new _ _, ?_⟩
            · have hget : (getObj e.rb).run P w = .ok (.loop L) w := by simp [getObj, Sem.run, ho]
              simp [Instr.enterLoop, Instr.getLoop, hget, newObj, Sem.run]
            · simpa using hA.up t2.up
          · cases hst
      obtain ⟨E2, rb, mark, w2, hrun, t2, S2, hrb, hA2⟩ := hlay
      have hargs : cvL E2 (fs ++ (.yield h1.next :: cs)) = some (lf ++ (.func (.yield rb) #[] #[] :: lc)) := by
        refine cvL_append (cvL_up t2.up _ _ hlf) ?_
        simp [cvL, cv, hrb, cvL_up t2.up _ _ hlc]
      have hout : Outs (r.call f (fs ++ (.yield h1.next :: cs)) (h1.new (.loop .ready none a.vars vm n ps.toList asg body d))) := by
        cases hoo : r.call f (fs ++ (.yield h1.next :: cs)) (h1.new (.loop .ready none a.vars vm n ps.toList asg body d)) with
        | fail => simp only [hoo] at hne; exact absurd rfl hne
        | val v h' => trivial
        | pan c h' => trivial
        | dfr d h' => exact absurd hoo (hR.callD _ _ _ _ _)
      obtain ⟨hbody, hcalls⟩ := hR.call E2 _ w2 f _ _ S2 hargs hout
      refine ⟨rb, mark, w2, { target := .fn (.func f) lc.toArray, args := lf.toArray ++ #[.func (.yield rb) #[] #[]] }, w2, f, (lf ++ (.func (.yield rb) #[] #[] :: lc)).toArray, w2, hrun, ?_, fun f' _ => hF.fn f', ?_, hdep, hF.calls (hcalls.mono fun e w3 he => ?_)⟩
      · have hcst : x.eval (.const (.func (.yield rb) #[] #[])) = .func (.yield rb) #[] #[] := rfl
        simp [resolve, rangeCall, heq, Deferred.ofValue, hcst]
      · have harr : (lf.toArray ++ #[.func (.yield rb) #[] #[]]) ++ lc.toArray = (lf ++ (.func (.yield rb) #[] #[] :: lc)).toArray := by apply Array.ext'; simp
        simp only [invoke, harr, callFunc_run hP hbody]
      · cases hoo : r.call f (fs ++ (.yield h1.next :: cs)) (h1.new (.loop .ready none a.vars vm n ps.toList asg body d)) with
        | fail => rw [hoo] at hout; exact hout.elim
        | dfr d h' => rw [hoo] at hout; exact hout.elim
        | pan c h2 =>
          rw [hoo] at he
          simp only [hoo] at hQ
          obtain ⟨E3, ch, rfl, t3, S3, hch⟩ := he
          exact hQ (.panic ch) _ _ ⟨E3, t2.trans t3, S3, hA2.up t3.up, hch⟩
        | val v h2 =>
          rw [hoo] at he
          simp only [hoo] at hQ hne
          obtain ⟨E3, u, rfl, t3, S3, hv⟩ := he
          have hrb3 := t3.up _ _ hrb
          cases hg2 : h2.get h1.next with
          | none => simp only [hg2] at hne; exact absurd rfl hne
          | some blk =>
            cases blk with
            | loop st pend vars vm' n' ps' asg' body' d' =>
              simp only [hg2] at hne hQ
              obtain ⟨o, ho, L, rfl, hL1, hL2, hL3, hL4, hL5, hL6, hL7, e', he', hrb'⟩ := S3.blk _ _ _ hrb3 hg2
              have hget : (getObj rb).run P w3 = .ok (.loop L) w3 := by simp [getObj, Sem.run, ho]
              have hlt : rb < w3.heap.size := by
                rcases Nat.lt_or_ge rb w3.heap.size with h1 | h1
                · exact h1
                · rw [Array.getElem?_eq_none h1] at ho; cases ho
              have hend : st ≠ .busy → (Instr.endLoop rb).run P w3 = .ok pend { w3 with heap := w3.heap.setIfInBounds rb (.loop { L with state := .exhausted }) } := by
                intro hst'
                have : ¬ (L.state = LoopState.busy) := by rw [hL1]; exact hst'
                simp [Instr.endLoop, Instr.getLoop, hget, this, setObj, Sem.run, ho, hL2]
              have S4 : HSim P W0 E3 (h2.put h1.next (.loop .exhausted pend vars vm' n' ps' asg' body' d')) { w3 with heap := w3.heap.setIfInBounds rb (.loop { L with state := .exhausted }) } := by
                refine S3.write hrb3 hg2 rfl (by simp) ⟨{ L with state := .exhausted }, rfl, rfl, hL2, hL3, hL4, hL5, hL6, hL7, e', he', hrb'⟩ (by simp) (by simp [hlt]) (fun k hk => by simp [Ne.symm hk]) rfl rfl
              have t4 : Trans E h E3 (h2.put h1.next (.loop .exhausted pend vars vm' n' ps' asg' body' d')) := (t2.trans t3).trans (.put hrb3)
              have hA4 := hA2.up t3.up
              have fin : st ≠ .busy → (match pend with
                  | none => CR.normal a1 (h2.put h1.next (.loop .exhausted pend vars vm' n' ps' asg' body' d'))
                  | some .ret => .ret a1 (h2.put h1.next (.loop .exhausted pend vars vm' n' ps' asg' body' d'))
                  | some (.exit id) => .exit id a1 (h2.put h1.next (.loop .exhausted pend vars vm' n' ps' asg' body' d'))
                  | some _ => .fail) ≠ .fail →
                  (∀ e x' w', CROk P W0 E h n vm (match pend with
                  | none => CR.normal a1 (h2.put h1.next (.loop .exhausted pend vars vm' n' ps' asg' body' d'))
                  | some .ret => .ret a1 (h2.put h1.next (.loop .exhausted pend vars vm' n' ps' asg' body' d'))
                  | some (.exit id) => .exit id a1 (h2.put h1.next (.loop .exhausted pend vars vm' n' ps' asg' body' d'))
                  | some _ => .fail) e x' w' → Q e x' w') →
                  rangePost F 0 P rb Q { x with defers := mark ++ x.defers } (.returned u) w3 := by
                intro hnb hne' hQ'
                refine ⟨pend, _, hend hnb, ?_⟩
                cases pend with
                | none => exact hQ' .normal _ _ ⟨E3, t4, S4, hA4⟩
                | some j =>
                  cases j <;> first | exact absurd rfl hne' | skip
                  · exact wpIn_exit (hQ' _ _ _ ⟨rfl, E3, t4, S4, hA4⟩)
                  · exact wpIn_ret (hQ' .ret _ _ ⟨E3, t4, S4, hA4⟩)
              cases st with
              | busy => exact absurd rfl hne
              | ready => exact fin (by simp) hne hQ
              | done => exact fin (by simp) hne hQ
              | exhausted => exact fin (by simp) hne hQ
            | cells cs' el tl ro => simp only [hg2] at hne; exact absurd rfl hne
            | map es cl => simp only [hg2] at hne; exact absurd rfl hne
            | siter l c p => simp only [hg2] at hne; exact absurd rfl hne
            | deferred fr => simp only [hg2] at hne; exact absurd rfl hne
            | mapU es fin => simp only [hg2] at hne; exact absurd rfl hne
            | dead => simp only [hg2] at hne; exact absurd rfl hne
    · exact absurd rfl hne
  · exact absurd rfl hne

theorem code_sound (hP : ProgOk P) (hR : RecOk P W0 r) (hD : DrawOk P W0 r) : ∀ (c : Code) (E : Env) (a : A) (h : H) (x : Act) (w : World) (Q : Exit → Act → World → Prop),
    HSim P W0 E h w → ASim E n vm a x → RdOk E rd F → runCode r rd (cCode P n vm c) a h ≠ .fail →
    (∀ e x' w', CROk P W0 E h n vm (runCode r rd (cCode P n vm c) a h) e x' w' → Q e x' w') → c.wpIn F 0 P Q x w := by
  intro c
  induction c with
  | skip => intro E a h x w Q S hA hF hne hQ; exact wpIn_skip (hQ .normal x w ⟨E, .refl _ _, S, hA⟩)
  | label l => intro E a h x w Q S hA hF hne hQ; exact wpIn_label (hQ .normal x w ⟨E, .refl _ _, S, hA⟩)
  | region id ops d =>
    intro E a h x w Q S hA hF hne hQ
    cases d with
    | false => exact region_sound hP hR S hA hF hne hQ
    | true => exact hD E h w rd F n vm ops id a x Q S hA hF hne hQ
  | seq c d ihc ihd =>
    intro E a h x w Q S hA hF hne hQ
    have hrun : runCode r rd (cCode P n vm (.seq c d)) a h = rSeq (runCode r rd (cCode P n vm c)) (runCode r rd (cCode P n vm d)) a h := rfl
    rw [hrun] at hne hQ
    refine wpIn_seq (ihc E a h x w _ S hA hF (fun hf => hne (by simp only [rSeq, hf])) ?_)
    intro e x' w' hc
    cases hcr : runCode r rd (cCode P n vm c) a h with
    | fail => simp only [rSeq, hcr] at hne; exact absurd rfl hne
    | normal a' h' =>
      simp only [rSeq, hcr] at hne hQ hc
      cases e <;> simp only [CROk] at hc
      obtain ⟨E', ht, hs, ha⟩ := hc
      exact ihd E' a' h' x' w' Q hs ha (hF.up ht.up) hne (fun e x'' w'' hc' => hQ e x'' w'' (hc'.pre ht))
    | exit id a' h' => simp only [rSeq, hcr] at hQ hc; cases e <;> simp only [CROk] at hc; exact hQ _ _ _ hc
    | goto l a' h' => simp only [rSeq, hcr] at hQ hc; cases e <;> simp only [CROk] at hc; exact hQ _ _ _ hc
    | ret a' h' => simp only [rSeq, hcr] at hQ hc; cases e <;> simp only [CROk] at hc; exact hQ _ _ _ hc
    | pan ch a' h' => simp only [rSeq, hcr] at hQ hc; cases e <;> simp only [CROk] at hc; exact hQ _ _ _ hc
  | cond c d e ihd ihe =>
    intro E a h x w Q S hA hF hne hQ
    simp only [cCode] at hne hQ
    split at hne
    · rename_i xc hxc
      simp only [hxc] at hQ
      have hrun : runCode r rd (.cond xc (cCode P n vm d) (cCode P n vm e)) a h = rCond xc (runCode r rd (cCode P n vm d)) (runCode r rd (cCode P n vm e)) a h := rfl
      rw [hrun] at hne hQ
      unfold rCond at hne hQ
      split at hne
      · rename_i hgx
        simp only [hgx] at hQ
        exact wpIn_cond_true (cv_bool (opr_sound S hA hxc hgx)) (ihd E a h x w Q S hA hF hne hQ)
      · rename_i hgx
        simp only [hgx] at hQ
        exact wpIn_cond_false (cv_bool (opr_sound S hA hxc hgx)) (ihe E a h x w Q S hA hF hne hQ)
      · exact absurd rfl hne
    · exact absurd rfl hne
  | block id c ih =>
    intro E a h x w Q S hA hF hne hQ
    have hrun : runCode r rd (cCode P n vm (.block id c)) a h = rBlock id (runCode r rd (cCode P n vm c)) a h := rfl
    rw [hrun] at hne hQ
    refine wpIn_block (ih E a h x w _ S hA hF (fun hf => hne (by simp only [rBlock, hf])) ?_)
    intro e x' w' hc
    cases hcr : runCode r rd (cCode P n vm c) a h with
    | fail => simp only [rBlock, hcr] at hne; exact absurd rfl hne
    | normal a' h' => simp only [rBlock, hcr] at hQ hc; cases e <;> simp only [CROk] at hc; exact hQ .normal _ _ hc
    | exit j a' h' =>
      simp only [rBlock, hcr] at hQ hc
      cases e <;> simp only [CROk] at hc
      obtain ⟨rfl, hc⟩ := hc
      simp only [Exit.inBlock]
      by_cases hj : j = id
      · subst hj
        simp only [if_true]
        simp only [Nat.beq_refl] at hQ
        exact hQ .normal _ _ hc
      · have hb : Nat.beq j id = false := by
          cases hb : Nat.beq j id with
          | false => rfl
          | true => exact absurd (Nat.eq_of_beq_eq_true hb) hj
        simp only [hj, if_false]
        simp only [hb] at hQ
        exact hQ (.exit j) _ _ ⟨rfl, hc⟩
    | goto l a' h' => simp only [rBlock, hcr] at hQ hc; cases e <;> simp only [CROk] at hc; exact hQ _ _ _ hc
    | ret a' h' => simp only [rBlock, hcr] at hQ hc; cases e <;> simp only [CROk] at hc; exact hQ _ _ _ hc
    | pan ch a' h' => simp only [rBlock, hcr] at hQ hc; cases e <;> simp only [CROk] at hc; exact hQ _ _ _ hc
  | loop c ih =>
    intro E a h x w Q S hA hF hne hQ
    exact wpIn_of_wpLoop (wpLoop_mono (hR.loop E h w rd F n vm c a x S hA hF hne) hQ)
  | scope c ih =>
    intro E a h x w Q S hA hF hne hQ
    have hrun : runCode r rd (cCode P n vm (.scope c)) a h = rScope (runCode r rd (cCode P n vm c)) a h := rfl
    rw [hrun] at hne hQ
    refine wpIn_scope (ih E a h x w _ S hA hF (fun hf => hne (by simp only [rScope, hf])) ?_)
    intro e x' w' hc
    cases hcr : runCode r rd (cCode P n vm c) a h with
    | fail => simp only [rScope, hcr] at hne; exact absurd rfl hne
    | normal a' h' => simp only [rScope, hcr] at hQ hc; cases e <;> simp only [CROk] at hc; exact hQ _ _ _ hc
    | exit j a' h' => simp only [rScope, hcr] at hQ hc; cases e <;> simp only [CROk] at hc; exact hQ _ _ _ hc
    | goto l a' h' => simp only [rScope, hcr] at hne; exact absurd rfl hne
    | ret a' h' => simp only [rScope, hcr] at hQ hc; cases e <;> simp only [CROk] at hc; exact hQ _ _ _ hc
    | pan ch a' h' => simp only [rScope, hcr] at hQ hc; cases e <;> simp only [CROk] at hc; exact hQ _ _ _ hc
  | rangeFunc f ps asg body ih1 ih2 =>
    intro E a h x w Q S hA hF hne hQ
    simp only [cCode] at hne hQ
    split at hne
    · rename_i xf hxf
      simp only [hxf] at hQ
      exact range_sound hP hR S hA hF hxf hne hQ
    · exact absurd rfl hne
  | exit id => intro E a h x w Q S hA hF hne hQ; exact wpIn_exit (hQ (.exit id) x w ⟨rfl, E, .refl _ _, S, hA⟩)
  | goto l => intro E a h x w Q S hA hF hne hQ; exact wpIn_goto (hQ (.goto l) x w ⟨rfl, E, .refl _ _, S, hA⟩)
  | ret => intro E a h x w Q S hA hF hne hQ; exact wpIn_ret (hQ .ret x w ⟨E, .refl _ _, S, hA⟩)
  | refuse y => intro E a h x w Q S hA hF hne hQ; exact absurd rfl hne

end
end Go.Ev
