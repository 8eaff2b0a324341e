/- Drawn regions: the walk. -/
import Derived.Test.YtakmbfkehnfgaaaGreatDoorEvDrawC
set_option linter.unusedVariables false
set_option linter.unusedSimpArgs false
namespace Go.Ev
set_option linter.unusedSectionVars false
variable [Sig]

section
variable {P : Program} {W0 : World} {n vm : Nat} {r : Rec} {ops : Array Oper} {qs : List Nat} {Q : Exit → Act → World → Prop} {E0 : Env} {h0 : H}
  {listed : Array Bool} {done : List Ent} {is : List Nat} {l : List XDr} {a a' : A} {h : H} {E : Env} {x : Act} {w : World}

/-- those that have been taken, and one that may be -/
theorem Inv.closed' (I : Inv P W0 n vm r ops qs Q E0 h0 listed done is l a a' h E x w) {i : Nat} {o : Oper} (ho : ops[i]? = some o) (hi : i < listed.size) (hpre : ∀ e ∈ o.after, Region.binds .any e = true → listed.getD e.on false = true) :
    Closed ops.toList fun j => (listed.setIfInBounds i true).getD j false = true := by
  intro j oj hoj hj e he hb
  rcases ls_set hj with rfl | hj
  · have : oj = o := by simpa [ho] using hoj.symm
    subst this
    exact ls_set' (hpre e (by simpa using he) hb)
  · exact ls_set' (I.closed j oj hoj hj e he hb)

/-- a delayed operation has been taken -/
theorem Inv.mark (I : Inv P W0 n vm r ops qs Q E0 h0 listed done is l a a' h E x w) {t : Ent} (ht : t ∈ done) (hu : listed.getD t.p.i true = false) {o : Oper} (ho : ops[t.p.i]? = some o)
    (hpre : ∀ e ∈ o.after, Region.binds .any e = true → listed.getD e.on false = true) {E' : Env} {x' : Act} {w' : World} (S' : HSim P W0 E' h w') (hA' : ASim E' n vm (putX t.p.x.dst t.v a') x') (htr : Trans E0 h0 E' h)
    (hE : ∀ b, E b = none → b < h.next → t.b ≠ some b → E' b = none) : Inv P W0 n vm r ops qs Q E0 h0 (listed.setIfInBounds t.p.i true) done is l a (putX t.p.x.dst t.v a') h E' x' w' := by
  have hpm : ∀ t ∈ done, t.p ∈ done.map (·.p) := fun t ht => List.mem_map_of_mem ht
  have hlt := un_lt hu
  refine ⟨S', hA', by rw [defers_put]; exact I.defs, htr, I.ne, I.q, by simp [I.size], I.closed' ho hlt hpre, I.plan, I.placed, ?_, fun s hs hq => ls_set' (I.eff s hs hq), I.cover, ?_, ?_, I.dist, I.bnd, I.dq, I.lq⟩
  · intro j hj
    exact un_set' (fun he => I.plan.notin j hj t.p (hpm t ht) he.symm) (I.rest j hj)
  · intro k hk
    rw [getX_put]
    by_cases hh : hitX t.p.x.dst k = true
    · rw [if_pos hh]; exact ((I.pend t ht hu).1 k hh).symm
    · rw [if_neg hh]
      refine I.agree k fun s hs hus => ?_
      by_cases he : s.p.i = t.p.i
      · cases hsk : hitX s.p.x.dst k with
        | false => rfl
        | true =>
          obtain ⟨⟨o1, ho1, -, hx1⟩, -⟩ := I.placed.oper s.p (hpm s hs)
          obtain ⟨⟨o2, ho2, -, hx2⟩, -⟩ := I.placed.oper t.p (hpm t ht)
          rw [he, ho2] at ho1; cases ho1
          rw [hx1, ← hx2] at hsk
          exact absurd hsk hh
      · exact hk s hs (un_set' he hus)
  · intro s hs hus
    obtain ⟨hne, hus'⟩ := un_set hus
    refine (I.pend s hs hus').mono (fun _ _ => rfl) (fun _ _ => rfl) (Nat.le_refl _) ?_ (fun _ _ hr => hr)
    intro b hb hEb hlt'
    exact ⟨rfl, hE b hEb hlt' fun htb => hne (I.dist s hs t ht b hb htb)⟩

/-- what an operation that is due looks at is there -/
theorem Inv.reads (I : Inv P W0 n vm r ops qs Q E0 h0 listed done is l a a' h E x w) {o : Oper} {i m : Nat} {X : XOper} (ho : ops[i]? = some o) (hu : listed.getD i true = false)
    (hpre : ∀ e ∈ o.after, Region.binds .any e = true → listed.getD e.on false = true) (hgood : ∀ L, Closed ops.toList L → L i → ∀ j, bit m j = true → L j)
    (hconf : ∀ s ∈ done, s.p.q = true → s.p.i ≠ i → hits s.p.x.dst (xreadsO X) = true → bit m s.p.i = true) (hself : ∀ s ∈ done, s.p.i = i → hits s.p.x.dst (xreadsO X) = false) : ∀ k ∈ xreadsO X, getX k a' = getX k a := by
  intro k hk
  refine I.agree k fun s hs hus => ?_
  cases hsk : hitX s.p.x.dst k with
  | false => rfl
  | true =>
    exfalso
    have hh := mem_hits hk hsk
    by_cases he : s.p.i = i
    · rw [hself s hs he] at hh; cases hh
    · have hq : s.p.q = true := by
        cases hq : s.p.q with
        | true => rfl
        | false => exact (un_ls hus (I.eff s hs hq)).elim
      have hb := hconf s hs hq he hh
      have := hgood _ (I.closed' ho (un_lt hu) hpre) (ls_set_self (un_lt hu)) _ hb
      rcases ls_set this with h1 | h1
      · exact he h1
      · exact un_ls hus h1

theorem cOper_parts {all : List Oper} {o : Oper} {X : XOper} (hx : X = cOper P n vm all o) (hnb : X.op ≠ .bad) : cGuard vm all o.guard = some X.guard ∧ cOp P vm o.op = some X.op ∧ cDst n vm o.dst = some X.dst := by
  rcases cOper_cases P n vm all o with ⟨g, xop, d, h1, h2, h3, h4⟩ | h4
  · rw [hx, h4]; exact ⟨h1, h2, h3⟩
  · rw [hx, h4] at hnb; exact absurd rfl hnb

/-- a value is put away, and on -/
theorem wpIn_value {F : Fence} {rd : Option Nat} (hF : RdOk E rd F) {o : Oper} {next : Act → World → Prop} {u : Value} {w' : World} (hnd : ∀ c, o.op ≠ .defer c) (hrun : (execOp x.eval o).run P w = .ok (.value u) w') (hk : next (x.put o.dst u) w') :
    o.wpIn F 0 P x w next Q := by
  refine ⟨fun f _ => hF.fn f, ?_⟩
  have hsem : o.semAt F.round x.eval = execOp x.eval o := Oper.semAt_eq _ _ _ hnd
  rw [hsem, hrun]
  exact hk

/-- a delayed operation comes up -/
theorem Inv.late (hP : ProgOk P) (hR : RecOk P W0 r) {rd : Option Nat} {F : Fence} (hF : RdOk E rd F) (I : Inv P W0 n vm r ops qs Q E0 h0 listed done is l a a' h E x w) {t : Ent} (ht : t ∈ done) (hu : listed.getD t.p.i true = false) {o : Oper} (ho : ops[t.p.i]? = some o)
    (hpre : ∀ e ∈ o.after, Region.binds .any e = true → listed.getD e.on false = true) {K : Act → World → Prop}
    (ih : ∀ (a'' : A) (E' : Env) (x' : Act) (w' : World), (∀ b e, E b = some e → E' b = some e) → Inv P W0 n vm r ops qs Q E0 h0 (listed.setIfInBounds t.p.i true) done is l a a'' h E' x' w' → K x' w') :
    wpOpIn F 0 P ops Q t.p.i K x w := by
  have hpm : ∀ t ∈ done, t.p ∈ done.map (·.p) := fun t ht => List.mem_map_of_mem ht
  obtain ⟨⟨o', ho', hoq, hox⟩, hqq⟩ := I.placed.oper t.p (hpm t ht)
  have : o' = o := by simpa [ho] using ho'.symm
  subst this
  have hq : t.p.q = true := by
    cases hq : t.p.q with
    | true => rfl
    | false => exact (un_ls hu (I.eff t ht hq)).elim
  obtain ⟨hxq, hself⟩ := hqq hq
  have hnb : t.p.x.op ≠ .bad := fun hb => by rw [hb] at hxq; cases hxq
  obtain ⟨hg, hop, hd⟩ := cOper_parts hox hnb
  have hreads := I.reads (X := t.p.x) (m := t.p.m) ho hu hpre (fun L hL hi => I.placed.good t.p (hpm t ht) L hL hi)
    (fun s hs hsq hne hh => I.placed.conflict s.p (hpm s hs) t.p (hpm t ht) hsq hne hh)
    (fun s hs he => by
      obtain ⟨⟨o1, ho1, -, hx1⟩, -⟩ := I.placed.oper s.p (hpm s hs)
      rw [he, ho'] at ho1; cases ho1
      rw [hx1, ← hox]; exact hself)
  obtain ⟨c1, c2⟩ := oper_congr hreads
  unfold wpOpIn
  simp only [ho]
  rcases (I.pend t ht hu).2 with ⟨hw, hv, hb⟩ | ⟨hw, hb, hal, hrun⟩ | ⟨hw, hal, mk, blk, b, hb, hv, hwr, hrun, hEb, hbn, hget⟩
  · rw [wanted_sound I.hA hg (by rw [c1]; exact hw)]
    simp only [Bool.false_eq_true, if_false]
    refine ⟨fun f _ => hF.fn f, ?_⟩
    refine ih _ E _ w (fun _ _ hh => hh) (I.mark ht hu ho hpre I.S ?_ I.tr (fun b h1 _ _ => h1))
    rw [hv]
    exact put_sound I.hA hd cv_undef
  · rw [wanted_sound I.hA hg (by rw [c1]; exact hw)]
    simp only [if_true]
    have hrun' : runOp t.p.x.op r a' h = .val t.v h := by rw [c2]; exact hrun
    refine oper_sound hP hR I.S I.hA hF hop hd (K := fun a h => .normal a h) (by rw [hrun']; simp [orK]) ?_ ?_
    · intro E' a'' h'' x' w' htr hs ha hk
      rw [hrun'] at hk
      simp only [orK] at hk
      injection hk with hk1 hk2
      subst hk1; subst hk2
      exact ih _ E' _ w' htr.up (I.mark ht hu ho hpre hs ha (I.tr.trans htr) (fun b h1 h2 _ => by rw [htr.ext.low b h2]; exact h1))
    · intro c h' E' ch w' hk
      rw [hrun'] at hk
      simp [orK] at hk
  · rw [wanted_sound I.hA hg (by rw [c1]; exact hw)]
    simp only [if_true]
    have hrun' : ∀ h2, runOp t.p.x.op r a' h2 = .val (mk h2.next) (h2.new blk) := fun h2 => by rw [c2]; exact hrun h2
    obtain ⟨obj, u, hblk, hex, hcv⟩ := alloc_raw I.S I.hA hop hal hrun'
    have hnd : ∀ c, o'.op ≠ .defer c := by
      intro c hc
      rw [hc] at hop
      simp only [cOp] at hop
      (repeat' split at hop) <;> first | (cases hop; done) | (simp only [Option.some.injEq] at hop; rw [← hop] at hal; cases hal)
    refine wpIn_value hF hnd hex ?_
    have S' := I.S.place 0 hbn hEb hget hwr hblk
    have hup := Env.add_up (e := ⟨w.heap.size, 0, 0⟩) hEb
    refine ih (putX t.p.x.dst t.v a') _ _ _ hup (I.mark ht hu ho hpre S' ?_ ?_ ?_)
    · exact put_sound (I.hA.up hup) hd (by rw [hv]; exact hcv _ b (by simp [Env.add]))
    · have hb0 := (I.bnd t ht b hb).1
      exact ⟨⟨fun c e hc => hup c e (I.tr.up c e hc), fun c hc => by unfold Env.add; rw [if_neg (by omega)]; exact I.tr.ext.low c hc⟩, I.tr.next, I.tr.keep⟩
    · intro c hc _ hne
      unfold Env.add
      rw [if_neg (fun he => hne (by rw [he]; exact hb))]
      exact hc

/-- an operation that may change memory has been taken -/
theorem Inv.effect {p : Pl} {v : AV} {h1 : H} {is' : List Nat} {l' : List XDr} (I : Inv P W0 n vm r ops qs Q E0 h0 listed done is l a a' h E x w) (hp : PlOk P n vm ops.toList (done.map (·.p)) p) (hq : p.q = false) (hu : listed.getD p.i true = false)
    {o : Oper} (ho : ops[p.i]? = some o) (hpre : ∀ e ∈ o.after, Region.binds .any e = true → listed.getD e.on false = true) (hpl : Plan P n vm ops.toList is' l' (p :: done.map (·.p)))
    (his : ∀ j, j ∈ is → j = p.i ∨ j ∈ is') (his' : ∀ j ∈ is', j ∈ is) (hl' : ∀ d ∈ l', d.quiet = true → ∀ u, d.o.dst = .v u → u ∈ qs)
    {E1 : Env} {x1 : Act} {w1 : World} (S1 : HSim P W0 E1 h1 w1) (hA1 : ASim E1 n vm (putX p.x.dst v a') x1) (t1 : Trans E h E1 h1)
    (hne : runDraw r qs l' (putX p.x.dst v a) h1 ≠ .fail) (hq1 : ∀ e x' w', CROk P W0 E0 h0 n vm (runDraw r qs l' (putX p.x.dst v a) h1) e x' w' → Q e x' w')
    (hlook : ∀ s ∈ done, listed.getD s.p.i true = false → s.p.q = true → xlooks s.p.x.op = true → wantedX s.p.x.guard a = some true → runOp s.p.x.op r a h = .val s.v h → (∀ k ∈ xreadsO s.p.x, getX k (putX p.x.dst v a) = getX k a) →
      (∀ k, hitX s.p.x.dst k = true → getX k (putX p.x.dst v a) = some s.v) → runOp s.p.x.op r a h1 = .val s.v h1) :
    Inv P W0 n vm r ops qs Q E0 h0 (listed.setIfInBounds p.i true) (⟨p, v, none⟩ :: done) is' l' (putX p.x.dst v a) (putX p.x.dst v a') h1 E1 x1 w1 := by
  have hpm : ∀ t ∈ done, t.p ∈ done.map (·.p) := fun t ht => List.mem_map_of_mem ht
  have hlt := un_lt hu
  have hcl := I.closed' ho hlt hpre
  have hgood := hp.good I.placed.good
  refine ⟨S1, hA1, by rw [defers_put, defers_put]; exact I.defs, I.tr.trans t1, hne, hq1, by simp [I.size], hcl, hpl, .cons hp I.placed, ?_, ?_, ?_, ?_, ?_, ?_, ?_, ?_, hl'⟩
  · intro j hj
    exact un_set' (fun he => hpl.notin j hj p (by simp) he.symm) (I.rest j (his' j hj))
  · intro t ht hqt
    rcases List.mem_cons.1 ht with rfl | ht
    · exact ls_set_self hlt
    · exact ls_set' (I.eff t ht hqt)
  · intro j hj
    rcases I.cover j hj with ⟨t, ht, hti⟩ | hj
    · exact .inl ⟨t, by simp [ht], hti⟩
    · rcases his j hj with rfl | hj
      · exact .inl ⟨_, List.mem_cons_self, rfl⟩
      · exact .inr hj
  · intro k hk
    rw [getX_put, getX_put]
    split
    · rfl
    · refine I.agree k fun t ht hut => hk t (by simp [ht]) (un_set' (hp.new t.p (hpm t ht)) hut)
  · intro t ht hut
    rcases List.mem_cons.1 ht with rfl | ht
    · exact absurd rfl (un_set hut).1
    · obtain ⟨hne', hut'⟩ := un_set hut
      obtain ⟨z1, z2, z3, z4⟩ := pairsOk_mem hp.pairs t.p (hpm t ht)
      have hnot : hits p.x.dst (xreadsO t.p.x) = false := by
        cases hh : hits p.x.dst (xreadsO t.p.x) with
        | false => rfl
        | true =>
          exfalso
          rcases ls_set (hgood _ hcl (ls_set_self hlt) _ (z4 hh)) with h2 | h2
          · exact hne' h2
          · exact un_ls hut' h2
      have hr : ∀ k ∈ xreadsO t.p.x, getX k (putX p.x.dst v a) = getX k a := fun k hk => by
        rw [getX_put, if_neg (by rw [hits_mem hnot k hk]; simp)]
      have hd : ∀ k, hitX t.p.x.dst k = true → getX k (putX p.x.dst v a) = getX k a := fun k hk => by
        rw [getX_put, if_neg (fun hh' => sameD_hit z1 hk hh')]
      refine (I.pend t ht hut').mono hr hd t1.next ?_ ?_
      · intro b hb hEb hbn
        exact ⟨t1.keep b hbn hEb, by rw [t1.ext.low b hbn]; exact hEb⟩
      · intro hal hw hrun
        have hqt : t.p.q = true := by
          cases hqt : t.p.q with
          | true => rfl
          | false => exact (un_ls hut' (I.eff t ht hqt)).elim
        obtain ⟨-, hqq⟩ := I.placed.oper t.p (hpm t ht)
        cases hl : xlooks t.p.x.op with
        | true => exact hlook t ht hut' hqt hl hw hrun hr (fun k hk => by rw [hd k hk]; exact (I.pend t ht hut').1 k hk)
        | false => exact (plain_val _ (hqq hqt).1 hl hal hrun).2 h1
  · intro s hs t ht c hcs hct
    rcases List.mem_cons.1 hs with rfl | hs
    · cases hcs
    · rcases List.mem_cons.1 ht with rfl | ht
      · cases hct
      · exact I.dist s hs t ht c hcs hct
  · intro t ht c hc
    rcases List.mem_cons.1 ht with rfl | ht
    · cases hc
    · have := I.bnd t ht c hc
      have := t1.next
      omega
  · intro t ht hqt u hu'
    rcases List.mem_cons.1 ht with rfl | ht
    · simp only at hqt; rw [hq] at hqt; cases hqt
    · exact I.dq t ht hqt u hu'

/-- nothing is left -/
theorem Inv.fin (I : Inv P W0 n vm r ops qs Q E0 h0 listed done is l a a' h E x w) (hr : Region.ready .any ops listed = []) : Q .normal x w := by
  have hL : ∀ i o, ops.toList[i]? = some o → (∀ e ∈ o.after.toList, Region.binds .any e = true → listed.getD e.on false = true) → listed.getD i false = true := by
    intro i o ho hpre
    have ho' : ops[i]? = some o := by simpa using ho
    have hi : i < listed.size := by
      rw [I.size]
      rcases Nat.lt_or_ge i ops.size with h1 | h1
      · exact h1
      · rw [Array.getElem?_eq_none h1] at ho'; cases ho'
    by_cases hh : listed.getD i false = true
    · exact hh
    · exfalso
      have : i ∈ Region.ready .any ops listed := mem_ready.2 ⟨not_ls hi hh, o, ho', fun e he hb => hpre e (by simpa using he) hb⟩
      rw [hr] at this; cases this
  have hall := Placed.all (L := fun j => listed.getD j false = true) hL I.placed
  have hhead : ∀ (p : Pl), PlOk P n vm ops.toList (done.map (·.p)) p → p.i ∈ is → False := by
    intro p hp hpi
    obtain ⟨o, ho, -, -, hm⟩ := hp.op
    refine un_ls (I.rest p.i hpi) (hL p.i o ho fun e he hb => ?_)
    obtain ⟨s, hs, hsi⟩ := predMask_found hm e he hb
    rw [← hsi]; exact hall s hs
  have hp := I.plan
  cases hp with
  | quiet h1 h2 h3 => exact (hhead _ h1 (by simp)).elim
  | eff h1 h2 h3 h4 h5 => exact (hhead _ h1 (by simp)).elim
  | two h1 h2 h3 h4 hl hl' h5 h6 h7 h8 h9 => exact (hhead _ h1 (by simp)).elim
  | nil =>
    have hag : ∀ k, getX k a' = getX k a := fun k => I.agree k fun t ht hut => (un_ls hut (hall t.p (List.mem_map_of_mem ht))).elim
    refine I.q .normal x w ⟨E, I.tr, I.S, I.hA.size, ?_, ?_, by rw [← I.defs]; exact I.hA.defers⟩
    · intro t v hb hv
      exact I.hA.vars t v hb (by have := hag (.v t); exact this.trans hv)
    · intro t v hb hv
      exact I.hA.log t v hb (by have := hag (.l t); exact this.trans hv)

/-- a panic in the midst of it -/
theorem Inv.panic (I : Inv P W0 n vm r ops qs Q E0 h0 listed done is l a a' h E x w) {c : List PE} {h1 : H} (hrun : runDraw r qs l a h = .pan c ⟨delAll qs a.vars, [], a.defers⟩ h1) {E1 : Env} {w1 : World} {ch : List PanicEntry}
    (t1 : Trans E h E1 h1) (S1 : HSim P W0 E1 h1 w1) (hch : ChOk E1 c ch) : Q (.panic ch) x w1 := by
  refine I.q (.panic ch) x w1 ?_
  rw [hrun]
  have hA := I.hA.up t1.up
  refine ⟨E1, I.tr.trans t1, S1, ⟨hA.size, ?_, ?_, by rw [← I.defs]; exact hA.defers⟩, hch⟩
  · intro t v hb hv
    obtain ⟨hnq, hv'⟩ := delAll_get qs a.vars t v hv
    refine hA.vars t v hb ?_
    have := I.agree (.v t) fun s hs hus => by
      cases hsk : hitX s.p.x.dst (.v t) with
      | false => rfl
      | true =>
        exfalso
        have hq : s.p.q = true := by
          cases hq : s.p.q with
          | true => rfl
          | false => exact (un_ls hus (I.eff s hs hq)).elim
        rcases hitX_iff.1 hsk with ⟨t', hd, hk⟩ | ⟨t', hd, hk⟩
        · cases hk; exact hnq (I.dq s hs hq t hd)
        · cases hk
    exact this.trans hv'
  · intro t v hb hv
    have hv' : findLog t [] = some v := hv
    rw [findLog_nil] at hv'; cases hv'

end
end Go.Ev
