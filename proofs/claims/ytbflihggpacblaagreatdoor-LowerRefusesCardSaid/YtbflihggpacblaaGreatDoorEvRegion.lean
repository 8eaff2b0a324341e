/- Regions in their written order; loops; scopes. -/
import Derived.Test.YtbflihggpacblaaGreatDoorEvCall
import Derived.Scope
set_option linter.unusedVariables false
set_option linter.unusedSimpArgs false
namespace Go.Ev
set_option linter.unusedSectionVars false
variable [Sig]

section
variable {P : Program} {W0 : World} {n vm : Nat} {r : Rec} {rd : Option Nat} {F : Fence}

theorem wanted_sound {E : Env} {a : A} {x : Act} (hA : ASim E n vm a x) {ops : Array Oper} {o : Oper} {g : Option (XO × Bool)} (hg : cGuard vm ops.toList o.guard = some g) {b : Bool} (hw : wantedX g a = some b) :
    Region.wanted o (yielded ops x.tmps) = b := by
  unfold cGuard at hg
  unfold Region.wanted
  split at hg
  · rename_i hn
    cases hg
    simp only [wantedX, Option.some.injEq] at hw
    rw [hn]; exact hw
  · rename_i j c hn
    rw [hn]
    split at hg
    · rename_i oj hoj
      split at hg
      · rename_i t ht
        have hoj' : ops[j]? = some oj := by simpa using hoj
        have key : ∀ xo, g = some (xo, c) → (∀ v, getX xo a = some v → ∃ u, cv E v = some u ∧ x.tmps[t]? = some u) → (yielded ops x.tmps j == some c) = b := by
          intro xo hxo hget
          subst hxo
          simp only [wantedX] at hw
          split at hw
          · rename_i d hd
            obtain ⟨u, hu, htm⟩ := hget _ hd
            have := cv_bool hu
            subst this
            cases hw
            simp only [yielded, hoj', Option.bind_some, ht, htm]
            cases c <;> cases d <;> rfl
          · rename_i hd
            obtain ⟨u, hu, htm⟩ := hget _ hd
            simp only [cv, cvL, Option.some.injEq] at hu
            subst hu
            cases hw
            simp only [yielded, hoj', Option.bind_some, ht, htm]
            rfl
          · cases hw
        split at hg
        · rename_i hb
          cases hg
          exact key _ rfl fun v hv => hA.vars t v hb hv
        · rename_i hb
          cases hg
          exact key _ rfl fun v hv => hA.log t v hb hv
      · cases hg
    · cases hg

theorem runOps_none {op : XOp} {d : XD} {rest : List XOper} (a : A) (h : H) : runOps r rd (⟨none, op, d⟩ :: rest) a h = orK rd d a (runOps r rd rest) (runOp op r a h) := rfl
theorem runOps_some {g : XO × Bool} {op : XOp} {d : XD} {rest : List XOper} (a : A) (h : H) :
    runOps r rd (⟨some g, op, d⟩ :: rest) a h = (match wantedX (some g) a with
      | some true => orK rd d a (runOps r rd rest) (runOp op r a h)
      | some false => runOps r rd rest (putX d .undef a) h
      | none => .fail) := rfl

theorem cOper_cases (P : Program) (n vm : Nat) (all : List Oper) (o : Oper) :
    (∃ g xop d, cGuard vm all o.guard = some g ∧ cOp P vm o.op = some xop ∧ cDst n vm o.dst = some d ∧ cOper P n vm all o = ⟨g, xop, d⟩) ∨ cOper P n vm all o = ⟨none, .bad, .no⟩ := by
  unfold cOper
  split
  · rename_i g xop d hg hx hd
    exact .inl ⟨g, xop, d, hg, hx, hd, rfl⟩
  · exact .inr rfl

theorem cv_undef {E : Env} : cv E AV.undef = some undef := by simp [AV.undef, cv, cvL, undef]

theorem ops_sound (hP : ProgOk P) (hR : RecOk P W0 r) {ops : Array Oper} : ∀ (l : List Oper) (i : Nat), ops.toList.drop i = l → ∀ (E : Env) (a : A) (h : H) (x : Act) (w : World) (Q : Exit → Act → World → Prop),
    HSim P W0 E h w → ASim E n vm a x → RdOk E rd F → runOps r rd (cOpers P n vm ops.toList l) a h ≠ .fail →
    (∀ e x' w', CROk P W0 E h n vm (runOps r rd (cOpers P n vm ops.toList l) a h) e x' w' → Q e x' w') → wpOpsIn F 0 P ops Q (List.range' i l.length) x w
  | [], i, _, E, a, h, x, w, Q, S, hA, hF, hne, hQ => hQ .normal x w ⟨E, .refl _ _, S, hA⟩
  | o :: l, i, hi, E, a, h, x, w, Q, S, hA, hF, hne, hQ => by
    have hoi : ops[i]? = some o := by
      have : (ops.toList.drop i)[0]? = some o := by rw [hi]; rfl
      simpa using this
    have hl : ops.toList.drop (i + 1) = l := by
      have : (ops.toList.drop i).drop 1 = l := by rw [hi]; rfl
      rw [List.drop_drop] at this
      exact this
    obtain ⟨g, xop, d, hg, hx, hd, heq⟩ : ∃ g xop d, cGuard vm ops.toList o.guard = some g ∧ cOp P vm o.op = some xop ∧ cDst n vm o.dst = some d ∧ cOper P n vm ops.toList o = ⟨g, xop, d⟩ := by
      rcases cOper_cases P n vm ops.toList o with h1 | h1
      · exact h1
      · simp only [cOpers, h1, runOps_none] at hne
        exact absurd rfl hne
    simp only [cOpers, heq] at hne hQ
    simp only [List.length_cons, List.range'_succ, wpOpsIn, hoi]
    have hgo : ∀ (hcr : orK rd d a (runOps r rd (cOpers P n vm ops.toList l)) (runOp xop r a h) ≠ .fail), (∀ e x' w', CROk P W0 E h n vm (orK rd d a (runOps r rd (cOpers P n vm ops.toList l)) (runOp xop r a h)) e x' w' → Q e x' w') →
        o.wpIn F 0 P x w (wpOpsIn F 0 P ops Q (List.range' (i + 1) l.length)) Q := by
      intro hcr hQ'
      refine oper_sound hP hR S hA hF hx hd (K := runOps r rd (cOpers P n vm ops.toList l)) hcr ?_ ?_
      · intro E' a' h' x' w' ht hs ha hk
        refine ops_sound hP hR l (i + 1) hl E' a' h' x' w' Q hs ha (hF.up ht.up) (by rw [hk]; exact hcr) ?_
        intro e x'' w'' hc
        rw [hk] at hc
        exact hQ' e x'' w'' (hc.pre ht)
      · intro c h' E' ch w' hk ht hs ha hch
        exact hQ' _ _ _ (by rw [hk]; exact ⟨E', ht, hs, ha, hch⟩)
    cases g with
    | none =>
      have hw : Region.wanted o (yielded ops x.tmps) = true := wanted_sound hA hg rfl
      rw [hw]
      simp only [if_true]
      rw [runOps_none] at hne hQ
      exact hgo hne hQ
    | some g =>
      rw [runOps_some] at hne hQ
      cases hwx : wantedX (some g) a with
      | none => rw [hwx] at hne; exact absurd rfl hne
      | some b =>
        rw [hwx] at hne hQ
        have hw := wanted_sound hA hg hwx
        rw [hw]
        cases b with
        | true => simp only [if_true]; exact hgo hne hQ
        | false =>
          simp only [Bool.false_eq_true, if_false]
          refine ⟨fun f _ => hF.fn f, ?_⟩
          exact ops_sound hP hR l (i + 1) hl E _ h _ w Q S (put_sound hA hd cv_undef) hF hne hQ

/-- a region in its written order -/
theorem region_sound (hP : ProgOk P) (hR : RecOk P W0 r) {ops : Array Oper} {id : Nat} {E : Env} {a : A} {h : H} {x : Act} {w : World} {Q : Exit → Act → World → Prop} (S : HSim P W0 E h w) (hA : ASim E n vm a x) (hF : RdOk E rd F)
    (hne : runOps r rd (cOpers P n vm ops.toList ops.toList) ⟨a.vars, [], a.defers⟩ h ≠ .fail)
    (hQ : ∀ e x' w', CROk P W0 E h n vm (runOps r rd (cOpers P n vm ops.toList ops.toList) ⟨a.vars, [], a.defers⟩ h) e x' w' → Q e x' w') : (Code.region id ops false).wpIn F 0 P Q x w := by
  refine wpIn_region ?_
  have := ops_sound (W0 := W0) hP hR ops.toList 0 (by simp) E ⟨a.vars, [], a.defers⟩ h x w Q S hA.fresh hF hne hQ
  rw [← List.range_eq_range'] at this
  simpa using this

/-! loops -/
theorem wpLoop_of {c : Code} {Q : Exit → Act → World → Prop} {x : Act} {w : World} (hh : c.wpIn F 0 P (Exit.then (wpLoop F P c Q) Q) x w) : wpLoop F P c Q x w := by
  intro b k cs hro hb hr
  obtain ⟨e, a₁, w₁, hq, harr⟩ := hh b (.inLoop c :: k) cs hro hb hr
  cases e with
  | normal =>
    obtain ⟨e₂, a₂, w₂, hq₂, harr₂⟩ := hq b k cs hro hb hr
    exact ⟨e₂, a₂, w₂, hq₂, .of_steps (StepsIn.trans harr (.one (fenced_calm hb hr rfl) stepR_inLoop)) harr₂⟩
  | exit id => exact ⟨_, a₁, w₁, hq, .pass (x := .inLoop c) rfl (fun _ _ => .inl (by simp)) harr⟩
  | goto l => exact ⟨_, a₁, w₁, hq, .pass (x := .inLoop c) rfl (fun _ _ => .inl (by simp)) harr⟩
  | ret => exact ⟨_, a₁, w₁, hq, .pass (x := .inLoop c) rfl (fun _ _ => .inl (by simp)) harr⟩
  | panic ch => exact ⟨_, a₁, w₁, hq, .pass (x := .inLoop c) rfl (fun _ _ => .inl (by simp)) harr⟩
  | outgrown => exact ⟨_, a₁, w₁, hq, .pass (x := .inLoop c) rfl (fun _ _ => .inl (by simp)) harr⟩
theorem wpIn_of_wpLoop {c : Code} {Q : Exit → Act → World → Prop} {x : Act} {w : World} (hh : wpLoop F P c Q x w) : (Code.loop c).wpIn F 0 P Q x w :=
  fun b k cs hro hb hr => let ⟨e, a', w', q, rr⟩ := hh b k cs hro hb hr; ⟨e, a', w', q, .of_steps (.one (fenced_calm hb hr rfl) stepR_loop) rr⟩
theorem wpLoop_mono {c : Code} {Q Q' : Exit → Act → World → Prop} {x : Act} {w : World} (hh : wpLoop F P c Q x w) (hq : ∀ e a w, Q e a w → Q' e a w) : wpLoop F P c Q' x w :=
  fun b k cs hro hb hr => let ⟨e, a', w', q, rr⟩ := hh b k cs hro hb hr; ⟨e, a', w', hq _ _ _ q, rr⟩

/-! scopes -/
theorem stepR_scope {b : Frame} {a : Act} {k : List Item} {cs : List Frame} {w : World} {c : Code} : step P (lone (b.atR a (.code (.scope c) :: k)) cs w) = .next (lone (b.atR a (.code c :: .inScope c :: k)) cs w) :=
  step_lone_go (by simp [stepG, stepG.exec, Frame.atR])
theorem stepR_inScope {b : Frame} {a : Act} {k : List Item} {cs : List Frame} {w : World} {c : Code} : step P (lone (b.atR a (.inScope c :: k)) cs w) = .next (lone (b.atR a k) cs w) :=
  step_lone_go (by simp [stepG, stepG.exec, Frame.atR])
theorem wpIn_scope {m : Nat} {c : Code} {Q : Exit → Act → World → Prop} {x : Act} {w : World} (hh : c.wpIn F m P (Exit.noGoto Q) x w) : (Code.scope c).wpIn F m P Q x w := by
  intro b k cs hro hb hr
  have h0 : (lone (b.atR x (.code (.scope c) :: k)) cs w).fenced P F := fenced_calm hb hr rfl
  obtain ⟨e, a₁, w₁, hq, harr⟩ := hh b (.inScope c :: k) cs hro hb hr
  cases e with
  | normal => exact ⟨.normal, a₁, w₁, hq, .head h0 stepR_scope (StepsIn.trans harr (.one (fenced_calm hb hr rfl) stepR_inScope))⟩
  | exit id =>
    have hx : exitTo id (.inScope c :: k) = exitTo id k := by simp [exitTo]
    exact ⟨.exit id, a₁, w₁, hq, fun k' hk => .head h0 stepR_scope (harr.1 k' (by rw [hx]; exact hk)),
      fun hr' hk => let ⟨k₁, h1, h2⟩ := harr.2 hr' (by rw [hx]; exact hk); ⟨k₁, h1, .head h0 stepR_scope h2⟩⟩
  | goto l => exact hq.elim
  | ret => exact ⟨_, a₁, w₁, hq, .of_steps (.one h0 stepR_scope) harr⟩
  | panic ch => exact ⟨_, a₁, w₁, hq, .of_steps (.one h0 stepR_scope) harr⟩
  | outgrown => exact ⟨_, a₁, w₁, hq, .of_steps (.one h0 stepR_scope) harr⟩

end
end Go.Ev
