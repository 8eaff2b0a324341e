/- Drawn regions: the walk. -/
import Derived.Test.YtbflihggpacblaaGreatDoorEvDrawC
set_option linter.unusedVariables false
set_option linter.unusedSimpArgs false
namespace Go.Ev
set_option linter.unusedSectionVars false
variable [Sig]

section
variable {u : Bool} {acc : UA} {P : Program} {W0 : World} {n vm : Nat} {r : Rec} {ops : Array Oper} {qs : List Nat} {Q : Exit → Act → World → Prop} {E0 : Env} {h0 : H}
  {listed : Array Bool} {done : List Ent} {is : List Nat} {l : List XDr} {a a' : A} {h : H} {E : Env} {x : Act} {w : World}

/-- those that have been taken, and one that may be -/
theorem Inv.closed' (I : Inv u P W0 n vm r ops qs Q E0 h0 listed done is l acc a a' h E x w) {i : Nat} {o : Oper} (ho : ops[i]? = some o) (hi : i < listed.size) (hpre : ∀ e ∈ o.after, Region.binds .any e = true → listed.getD e.on false = true) :
    Closed ops.toList fun j => (listed.setIfInBounds i true).getD j false = true := by
  intro j oj hoj hj e he hb
  rcases ls_set hj with rfl | hj
  · have : oj = o := by simpa [ho] using hoj.symm
    subst this
    exact ls_set' (hpre e (by simpa using he) hb)
  · exact ls_set' (I.closed j oj hoj hj e he hb)

/-- what has come in so far stays where it is -/
theorem MapAt.keep {E E' : Env} {h h' : H} {w w' : World} {M : Nat} {L : List (AV × AV × Nat)} (hm : MapAt E w M L) (S : HSim P W0 E h w) (S' : HSim P W0 E' h' w') (up : ∀ b e, E b = some e → E' b = some e)
    (hg : h.get M = some (.mapU [] false)) (hg' : h'.get M = some (.mapU [] false)) (hnone : E M = none → E' M = none ∨ ∃ e', E' M = some e' ∧ e'.pin = none) : MapAt E' w' M L := by
  rcases hm with ⟨h1, h2⟩ | ⟨e, xs, ck, es, h1, h2, h3, h4⟩
  · rcases hnone h1 with h3 | ⟨e', h3, h4⟩
    · exact .inl ⟨h3, h2⟩
    · obtain ⟨o, ho, xs, ck, rfl, h5, -⟩ := S'.blk M e' _ h3 hg'
      have h5 := h5 rfl
      rw [h4] at h5
      cases h5
      exact .inr ⟨e', #[], 0, [], h3, ho, by rw [h2], trivial⟩
  · obtain ⟨o, ho, xs1, ck1, rfl, h5, -⟩ := S.blk M e _ h1 hg
    obtain ⟨o', ho', xs2, ck2, rfl, h6, -⟩ := S'.blk M e _ (up M e h1) hg'
    have h7 : Obj.map xs2 ck2 = Obj.map xs1 ck1 := (h6 rfl).trans (h5 rfl).symm
    rw [h2] at ho
    cases ho
    cases h7
    exact .inr ⟨e, _, _, es, up M e h1, ho', h3, h4.up up⟩
theorem Placed.nodup : ∀ {ps : List Pl}, Placed u P n vm ops.toList ps → ps.Pairwise fun a b => a.i ≠ b.i
  | [], _ => .nil
  | p :: ps, .cons h t => .cons (fun s hs he => h.new s hs he.symm) t.nodup
theorem filter_mark {t : Ent} : ∀ {done : List Ent}, (done.Pairwise fun a b => a.p.i ≠ b.p.i) → t ∈ done → listed.getD t.p.i true = false →
    (done.filter fun s => (listed.setIfInBounds t.p.i true).getD s.p.i false).Perm (t :: done.filter fun s => listed.getD s.p.i false)
  | s :: done, hp, ht, hu => by
    rw [List.pairwise_cons] at hp
    have hlt := un_lt hu
    have hne : ∀ a : Ent, a.p.i ≠ t.p.i → (listed.setIfInBounds t.p.i true).getD a.p.i false = listed.getD a.p.i false := fun a ha => getD_set_ne false (fun he => ha he.symm)
    have hul : listed.getD t.p.i false = false := by
      cases hh : listed.getD t.p.i false with
      | false => rfl
      | true => exact (un_ls hu hh).elim
    rcases List.mem_cons.1 ht with rfl | ht
    · simp only [List.filter_cons, ls_set_self hlt, hul]
      simp only [if_true, Bool.false_eq_true, if_false]
      refine .cons _ (.of_eq (List.filter_congr fun a ha => hne a fun he => hp.1 a ha he.symm))
    · have hst : s.p.i ≠ t.p.i := hp.1 t ht
      have ih := filter_mark hp.2 ht hu
      simp only [List.filter_cons, hne s hst]
      split
      · exact (ih.cons s).trans (.swap _ _ _)
      · exact ih
/-- an operation that is no entry has been taken -/
theorem UOk.mark {h' : H} {t : Ent} {E' : Env} {w' : World} (hU : UOk acc listed done h0 h E w) (hnd : done.Pairwise fun a b => a.p.i ≠ b.p.i) (ht : t ∈ done) (hu : listed.getD t.p.i true = false) (hkv : t.kv = none)
    (hg : ∀ M l, acc = some (M, l) → h.get M = some (.mapU [] false) → h'.get M = some (.mapU [] false)) (hm : ∀ M l L, acc = some (M, l) → h.get M = some (.mapU [] false) → MapAt E w M L → MapAt E' w' M L) :
    UOk acc (listed.setIfInBounds t.p.i true) done h0 h' E' w' := by
  unfold UOk at hU ⊢
  split
  · exact hU
  · rename_i M l
    simp only at hU
    obtain ⟨u1, u2, u3, u4, u5, u6, u7⟩ := hU
    refine ⟨u1, u2, hg M l rfl u3, u4, u5, u6, ?_⟩
    have hp := (filter_mark hnd ht hu).filterMap fun t => t.kv.map (·.2)
    have h7 := hm M l _ rfl u3 u7
    have hp' : (entsOf (done.filter fun s => (listed.setIfInBounds t.p.i true).getD s.p.i false)).Perm (entsOf (done.filter fun s => listed.getD s.p.i false)) := by
      refine hp.trans (.of_eq ?_)
      rw [List.filterMap_cons, hkv]
      rfl
    rcases h7 with ⟨q1, q2⟩ | ⟨e, xs, ck, es, q1, q2, q3, q4⟩
    · refine .inl ⟨q1, ?_⟩
      rw [q2] at hp'
      exact hp'.eq_nil
    · exact .inr ⟨e, xs, ck, es, q1, q2, q3.trans hp'.symm, q4⟩

/-- a delayed operation has been taken -/
theorem Inv.mark (I : Inv u P W0 n vm r ops qs Q E0 h0 listed done is l acc a a' h E x w) {t : Ent} (ht : t ∈ done) (hu : listed.getD t.p.i true = false) {o : Oper} (ho : ops[t.p.i]? = some o)
    (hpre : ∀ e ∈ o.after, Region.binds .any e = true → listed.getD e.on false = true) {E' : Env} {x' : Act} {w' : World} (S' : HSim P W0 E' h w') (hA' : ASim E' n vm (putX t.p.x.dst t.v a') x') (htr : Trans E0 h0 E' h)
    (hUn : UOk acc (listed.setIfInBounds t.p.i true) done h0 h E' w') (hE : ∀ b, E b = none → b < h.next → t.b ≠ some b → E' b = none) : Inv u P W0 n vm r ops qs Q E0 h0 (listed.setIfInBounds t.p.i true) done is l acc a (putX t.p.x.dst t.v a') h E' x' w' := by
  have hpm : ∀ t ∈ done, t.p ∈ done.map (·.p) := fun t ht => List.mem_map_of_mem ht
  have hlt := un_lt hu
  refine ⟨S', hA', by rw [defers_put]; exact I.defs, htr, I.ne, I.q, by simp [I.size], I.closed' ho hlt hpre, I.plan, I.placed, ?_, fun s hs hq => ls_set' (I.eff s hs hq), I.cover, ?_, ?_, hUn, I.uf, I.dist, I.bnd, I.dq, I.lq⟩
  · intro j hj
    exact un_set' (fun he => I.plan.notin j hj t.p (hpm t ht) he.symm) (I.rest j hj)
  · intro k hk
    rw [getX_put]
    by_cases hh : hitX t.p.x.dst k = true
    · rw [if_pos hh]; exact ((I.pend t ht hu).1 k hh).symm
    · rw [if_neg hh]
      refine I.agree k fun s hs hus => ?_
      by_cases he : s.p.i = t.p.i
      · cases hsk : hitX s.p.x.dst k with
        | false => rfl
        | true =>
          obtain ⟨⟨o1, ho1, -, hx1⟩, -⟩ := I.placed.oper s.p (hpm s hs)
          obtain ⟨⟨o2, ho2, -, hx2⟩, -⟩ := I.placed.oper t.p (hpm t ht)
          rw [he, ho2] at ho1; cases ho1
          rw [hx1, ← hx2] at hsk
          exact absurd hsk hh
      · exact hk s hs (un_set' he hus)
  · intro s hs hus
    obtain ⟨hne, hus'⟩ := un_set hus
    refine (I.pend s hs hus').mono (fun _ _ => rfl) (fun _ _ => rfl) (Nat.le_refl _) ?_ (fun _ _ _ hr => hr)
    intro b hb hEb hlt'
    exact ⟨rfl, hE b hEb hlt' fun htb => hne (I.dist s hs t ht b hb htb)⟩

/-- what an operation that is due looks at is there -/
theorem Inv.reads (I : Inv u P W0 n vm r ops qs Q E0 h0 listed done is l acc a a' h E x w) {o : Oper} {i m : Nat} {X : XOper} (ho : ops[i]? = some o) (hu : listed.getD i true = false)
    (hpre : ∀ e ∈ o.after, Region.binds .any e = true → listed.getD e.on false = true) (hgood : ∀ L, Closed ops.toList L → L i → ∀ j, bit m j = true → L j)
    (hconf : ∀ s ∈ done, s.p.q = true → s.p.i ≠ i → hits s.p.x.dst (xreadsO X) = true → bit m s.p.i = true) (hself : ∀ s ∈ done, s.p.i = i → hits s.p.x.dst (xreadsO X) = false) : ∀ k ∈ xreadsO X, getX k a' = getX k a := by
  intro k hk
  refine I.agree k fun s hs hus => ?_
  cases hsk : hitX s.p.x.dst k with
  | false => rfl
  | true =>
    exfalso
    have hh := mem_hits hk hsk
    by_cases he : s.p.i = i
    · rw [hself s hs he] at hh; cases hh
    · have hq : s.p.q = true := by
        cases hq : s.p.q with
        | true => rfl
        | false => exact (un_ls hus (I.eff s hs hq)).elim
      have hb := hconf s hs hq he hh
      have := hgood _ (I.closed' ho (un_lt hu) hpre) (ls_set_self (un_lt hu)) _ hb
      rcases ls_set this with h1 | h1
      · exact he h1
      · exact un_ls hus h1

theorem cOper_parts {all : List Oper} {o : Oper} {X : XOper} (hx : X = cOper P n vm all o) (hnb : X.op ≠ .bad) : cGuard vm all o.guard = some X.guard ∧ cOp P vm o.op = some X.op ∧ cDst n vm o.dst = some X.dst := by
  rcases cOper_cases P n vm all o with ⟨g, xop, d, h1, h2, h3, h4⟩ | h4
  · rw [hx, h4]; exact ⟨h1, h2, h3⟩
  · rw [hx, h4] at hnb; exact absurd rfl hnb

/-- a value is put away, and on -/
theorem wpIn_value {F : Fence} {rd : Option Nat} (hF : RdOk E rd F) {o : Oper} {next : Act → World → Prop} {u : Value} {w' : World} (hnd : ∀ c, o.op ≠ .defer c) (hrun : (execOp x.eval o).run P w = .ok (.value u) w') (hk : next (x.put o.dst u) w') :
    o.wpIn F 0 P x w next Q := by
  refine ⟨fun f _ => hF.fn f, ?_⟩
  have hsem : o.semAt F.round x.eval = execOp x.eval o := Oper.semAt_eq _ _ _ hnd
  rw [hsem, hrun]
  exact hk
theorem wpIn_skip {F : Fence} {rd : Option Nat} (hF : RdOk E rd F) {o : Oper} {next : Act → World → Prop} {w' : World} (hnd : ∀ c, o.op ≠ .defer c) (hrun : (execOp x.eval o).run P w = .ok .skip w') (hk : next (x.put o.dst undef) w') :
    o.wpIn F 0 P x w next Q := by
  refine ⟨fun f _ => hF.fn f, ?_⟩
  have hsem : o.semAt F.round x.eval = execOp x.eval o := Oper.semAt_eq _ _ _ hnd
  rw [hsem, hrun]
  exact hk

theorem cOp_ins {op : Op} {kt : KT} {xm xk xv : XO} (hc : cOp P vm op = some (.ins kt xm xk xv)) :
    ∃ t m k v kty et, op = .insert t m k v ∧ P.underlying t = some (.map kty et) ∧ keyT P kty = some kt ∧ cO vm m = some xm ∧ cO vm k = some xk ∧ cO vm v = some xv := by
  cases op <;> simp only [cOp] at hc <;> try (cases hc; done)
  case insert t m k v =>
    split at hc
    · rename_i kty et a b c hu ha hb hc'
      split at hc
      · rename_i i hk; cases hc; exact ⟨t, m, k, v, kty, et, rfl, hu, hk, ha, hb, hc'⟩
      · cases hc
    · cases hc
  case call c =>
    exfalso
    unfold cCall at hc
    (repeat' split at hc) <;> cases hc
  case slice t p lo hi mx => exfalso; cases mx <;> simp only at hc <;> (repeat' split at hc) <;> cases hc
  case makeMap t r' => exfalso; cases r' <;> cases hc
  case next it isS => exfalso; cases isS <;> simp only at hc <;> (repeat' split at hc) <;> cases hc
  all_goals (exfalso; (repeat' split at hc) <;> cases hc)
/-- an entry that no other has the key of -/
theorem ins_run (S : HSim P W0 E h w) (hA : ASim E n vm a x) {o : Oper} {kt : KT} {xm xk xv : XO} (hc : cOp P vm o.op = some (.ins kt xm xk xv)) {M : Nat} {key val : AV} (hm : getX xm a = some (.map M)) (hk : getX xk a = some key)
    (hv : getX xv a = some val) (hp : plainKey kt key = true) (h2 : kt ≠ .two) {e : Loc} {xs : Array MapEntry} {ck : Nat} {es : List (AV × AV × Nat)} (he : E M = some e) (ho : w.heap[e.rb]? = some (.map xs ck)) (hx : EntsR E es xs.toList)
    (hmiss : ∀ q ∈ es, keyEq key q.1 = some false) :
    ∃ y z, cv E key = some y ∧ cv E val = some z ∧ (execOp x.eval o).run P w = .ok .skip { w with heap := w.heap.setIfInBounds e.rb (.map (xs.push { key := y, val := z, born := ck }) (ck + 1)) } := by
  obtain ⟨t, m, k, v, kty, et, hop, ht, hkt, hcm, hck, hcv⟩ := cOp_ins hc
  have hkv := opr_sound S hA hck hk
  have hvv := opr_sound S hA hcv hv
  have hK := keyK_of hkt hp
  obtain ⟨L⟩ := keyLaw (w := w) hK hkv
  obtain ⟨e', he', heq⟩ := cv_map (opr_sound S hA hcm hm)
  rw [he] at he'; cases he'
  have hd : ∃ d, P.underlying kty = some d ∧ KeyOk d key := by
    rcases hK with ⟨j, hd, i, m, rfl, hsm⟩ | ⟨hd, l, c, rfl⟩ | ⟨e, q, hd, hue, hs, hg, i, m, i', m', rfl, hsm, hsm'⟩
    · exact ⟨_, hd, .inl ⟨j, rfl, i, m, rfl, hsm⟩⟩
    · exact ⟨_, hd, .inr ⟨rfl, l, c, rfl⟩⟩
    · cases kt <;> first | exact absurd rfl h2 | (simp [plainKey] at hp)
  obtain ⟨d, hd, hok⟩ := hd
  have hf : (Instr.findKey kty (x.eval k) xs.toList).run P w = .ok none w := MapKept.run_findKey hd (hx.miss hok hkv 0 hmiss)
  have hchk : (Instr.checkKey false 10000 kty (x.eval k)).run P w = .ok () w := L.chk false
  refine ⟨_, _, hkv, hvv, ?_⟩
  simp only [execOp, hop]
  simp [Instr.mapUpdate, run_underlying ht, heq, MapKept.run_getObj_map ho, hchk, hf, MapKept.run_setObj_map _ ho]

theorem Inv.nodup (I : Inv u P W0 n vm r ops qs Q E0 h0 listed done is l acc a a' h E x w) : done.Pairwise fun a b => a.p.i ≠ b.p.i := by
  have := I.placed.nodup
  rw [List.pairwise_map] at this
  exact this
theorem Inv.lt (I : Inv u P W0 n vm r ops qs Q E0 h0 listed done is l acc a a' h E x w) {M : Nat} {b : Blk} (hg : h.get M = some b) : M < h.next := by
  rcases Nat.lt_or_ge M h.next with h1 | h1
  · exact h1
  · rw [I.S.top M h1] at hg; cases hg

/-- a delayed operation comes up -/
theorem Inv.late (hP : ProgOk P) (hR : RecOk P W0 r) (hd0 : ∀ b e, E0 b = some e → b < h0.next) (h64 : 64 ≤ h0.next) {rd : Option Nat} {F : Fence} (hF : RdOk E rd F) (I : Inv u P W0 n vm r ops qs Q E0 h0 listed done is l acc a a' h E x w) {t : Ent} (ht : t ∈ done) (hu : listed.getD t.p.i true = false) {o : Oper} (ho : ops[t.p.i]? = some o)
    (hpre : ∀ e ∈ o.after, Region.binds .any e = true → listed.getD e.on false = true) {K : Act → World → Prop}
    (ih : ∀ (a'' : A) (E' : Env) (x' : Act) (w' : World), RdOk E' rd F → Inv u P W0 n vm r ops qs Q E0 h0 (listed.setIfInBounds t.p.i true) done is l acc a a'' h E' x' w' → K x' w') :
    wpOpIn F 0 P ops Q t.p.i K x w := by
  have hpm : ∀ t ∈ done, t.p ∈ done.map (·.p) := fun t ht => List.mem_map_of_mem ht
  obtain ⟨⟨o', ho', hoq, hox⟩, hqq⟩ := I.placed.oper t.p (hpm t ht)
  have : o' = o := by simpa [ho] using ho'.symm
  subst this
  have hq : t.p.q = true := by
    cases hq : t.p.q with
    | true => rfl
    | false => exact (un_ls hu (I.eff t ht hq)).elim
  obtain ⟨hxq, hself⟩ := hqq hq
  have hnb : t.p.x.op ≠ .bad := fun hb => by rw [hb] at hxq; cases u <;> cases hxq
  obtain ⟨hg, hop, hd⟩ := cOper_parts hox hnb
  have hreads := I.reads (X := t.p.x) (m := t.p.m) ho hu hpre (fun L hL hi => I.placed.good t.p (hpm t ht) L hL hi)
    (fun s hs hsq hne hh => I.placed.conflict s.p (hpm s hs) t.p (hpm t ht) hsq hne hh)
    (fun s hs he => by
      obtain ⟨⟨o1, ho1, -, hx1⟩, -⟩ := I.placed.oper s.p (hpm s hs)
      rw [he, ho'] at ho1; cases ho1
      rw [hx1, ← hox]; exact hself)
  obtain ⟨c1, c2⟩ := oper_congr hreads
  obtain ⟨-, c3⟩ := operU_congr (u := u) hreads
  unfold wpOpIn
  simp only [ho]
  rcases (I.pend t ht hu).2 with ⟨hw, hv, hb, hkv⟩ | ⟨hw, hb, hkv, hal, hins, hrun⟩ | ⟨hw, hkv, hal, mk, blk, b, hb, hv, hwr, hrun, hEb, hbn, hget⟩ | ⟨hu1, hw, hb, hv, kt, xm, xk, xv, M, key, val, hxo, gm, gk, gv, hpk, hk2, hkv⟩
  · rw [wanted_sound I.hA hg (by rw [c1]; exact hw)]
    simp only [Bool.false_eq_true, if_false]
    refine ⟨fun f _ => hF.fn f, ?_⟩
    refine ih _ E _ w hF (I.mark ht hu ho hpre I.S ?_ I.tr (I.un.mark I.nodup ht hu hkv (fun _ _ _ hh => hh) fun _ _ _ _ _ hh => hh) (fun b h1 _ _ => h1))
    rw [hv]
    exact put_sound I.hA hd cv_undef
  · rw [wanted_sound I.hA hg (by rw [c1]; exact hw)]
    simp only [if_true]
    have hrun' : runOp t.p.x.op r a' h = .val t.v h := by rw [c2]; exact hrun
    refine oper_sound hP hR I.S I.hA hF hop hd (K := fun a h => .normal a h) (by rw [hrun']; simp [orK]) ?_ ?_
    · intro E' a'' h'' x' w' htr hs ha hk
      rw [hrun'] at hk
      simp only [orK] at hk
      injection hk with hk1 hk2
      subst hk1; subst hk2
      refine ih _ E' _ w' (hF.up htr.up) (I.mark ht hu ho hpre hs ha (I.tr.trans htr) (I.un.mark I.nodup ht hu hkv (fun _ _ _ hh => hh) ?_) (fun b h1 h2 _ => by rw [htr.ext.low b h2]; exact h1))
      intro M l' L _ hgM hm
      exact hm.keep I.S hs htr.up hgM hgM fun hn => .inl (by rw [htr.ext.low M (I.lt hgM)]; exact hn)
    · intro c h' E' ch w' hk
      rw [hrun'] at hk
      simp [orK] at hk
  · rw [wanted_sound I.hA hg (by rw [c1]; exact hw)]
    simp only [if_true]
    have hrun' : ∀ h2, runOpU u t.p.x.op r a' h2 = .val (mk h2.next) (h2.new blk) := fun h2 => by rw [c3]; exact hrun h2
    obtain ⟨obj, u', hblk, hex, hcv⟩ := allocU_raw I.S I.hA hop hal hrun'
    have hnd : ∀ c, o'.op ≠ .defer c := by
      intro c hc
      rw [hc] at hop
      simp only [cOp] at hop
      (repeat' split at hop) <;> first | (cases hop; done) | (simp only [Option.some.injEq] at hop; rw [← hop] at hal; cases hal)
    refine wpIn_value hF hnd hex ?_
    have S' := I.S.place 0 hbn hEb hget hwr hblk
    have hup := Env.add_up (e := ⟨w.heap.size, 0, 0, none⟩) hEb
    refine ih (putX t.p.x.dst t.v a') _ _ _ (hF.up hup) (I.mark ht hu ho hpre S' ?_ ?_ (I.un.mark I.nodup ht hu hkv (fun _ _ _ hh => hh) ?_) ?_)
    · exact put_sound (I.hA.up hup) hd (by rw [hv]; exact hcv _ b (by simp [Env.add]))
    · have hb0 := (I.bnd t ht b hb).1
      exact ⟨⟨fun c e hc => hup c e (I.tr.up c e hc), fun c hc => by unfold Env.add; rw [if_neg (by omega)]; exact I.tr.ext.low c hc⟩, I.tr.next, I.tr.keep⟩
    · intro M l' L _ hgM hm
      refine hm.keep I.S S' hup hgM hgM fun hn => ?_
      by_cases hMb : M = b
      · exact .inr ⟨_, by unfold Env.add; rw [if_pos hMb], rfl⟩
      · exact .inl (by unfold Env.add; rw [if_neg hMb]; exact hn)
    · intro c hc _ hne
      unfold Env.add
      rw [if_neg (fun he => hne (by rw [he]; exact hb))]
      exact hc
  · -- an entry comes in
    rw [wanted_sound I.hA hg (by rw [c1]; exact hw)]
    simp only [if_true]
    obtain ⟨r1, r2, r3⟩ := ins_reads hxo
    rw [hxo] at hop
    have gm' : getX xm a' = some (.map M) := by rw [hreads _ r1]; exact gm
    have gk' : getX xk a' = some key := by rw [hreads _ r2]; exact gk
    have gv' : getX xv a' = some val := by rw [hreads _ r3]; exact gv
    have hun := I.un
    unfold UOk at hun
    cases acc with
    | none => have := hun t ht; rw [hkv] at this; cases this
    | some p =>
      obtain ⟨M', l0⟩ := p
      simp only at hun
      obtain ⟨u1, u2, u3, u4, u5, u6, u7⟩ := hun
      have hMM : M = M' := u2 t ht _ hkv
      subst hMM
      have hul : listed.getD t.p.i false = false := by
        cases hh : listed.getD t.p.i false with
        | false => rfl
        | true => exact (un_ls hu hh).elim
      obtain ⟨e0, he0⟩ : ∃ e, E M = some e := by
        obtain ⟨_, _, _, _, _, _, _, _, _, hcm, _, _⟩ := cOp_ins hop
        obtain ⟨e', he', -⟩ := cv_map (opr_sound I.S I.hA hcm gm')
        exact ⟨e', he'⟩
      rcases u7 with ⟨hn, -⟩ | ⟨e, xs, ck, es, he, hob, hperm0, hx⟩
      · rw [hn] at he0; cases he0
      have hmiss : ∀ q ∈ es, keyEq key q.1 = some false := by
        intro q hqm
        obtain ⟨s, hs, hsq⟩ := List.mem_filterMap.1 (hperm0.mem_iff.1 hqm)
        obtain ⟨hs1, hs2⟩ := List.mem_filter.1 hs
        obtain ⟨q', hq', rfl⟩ := Option.map_eq_some_iff.1 hsq
        exact u5 t ht s hs1 (fun hh => by rw [← hh, hul] at hs2; cases hs2) _ _ hkv hq'
      obtain ⟨y, z, hy, hz, hex⟩ := ins_run I.S I.hA hop gm' gk' gv' hpk hk2 he hob hx hmiss
      have hnd : ∀ c, o'.op ≠ .defer c := by
        intro c hc
        obtain ⟨_, _, _, _, _, _, h1, -⟩ := cOp_ins hop
        rw [h1] at hc; cases hc
      refine wpIn_skip hF hnd hex ?_
      have S' := I.S.pin (by omega : 64 ≤ M) he u3 (xs.push { key := y, val := z, born := ck }) (ck + 1)
      refine ih (putX t.p.x.dst t.v a') _ _ _ hF.pin (I.mark ht hu ho hpre S' ?_ (I.tr.pin u4 hd0) ?_ (fun b h1 _ _ => pinAt_none h1))
      · rw [hv]; exact put_sound I.hA.pin hd cv_undef
      · have hp := (filter_mark I.nodup ht hu).filterMap fun t => t.kv.map (·.2)
        have hperm' : (entsOf (done.filter fun s => (listed.setIfInBounds t.p.i true).getD s.p.i false)).Perm ((key, val, 0) :: entsOf (done.filter fun s => listed.getD s.p.i false)) := by
          refine hp.trans (.of_eq ?_)
          rw [List.filterMap_cons, hkv]
          rfl
        obtain ⟨e', q1, q2, -, -⟩ := pinAt_some (M := M) (o := .map (xs.push { key := y, val := z, born := ck }) (ck + 1)) he
        have hlt : e.rb < w.heap.size := (Array.getElem?_eq_some_iff.1 hob).1
        refine ⟨u1, u2, u3, u4, u5, u6, .inr ⟨e', _, _, es ++ [(key, val, 0)], q1, by rw [q2]; exact Array.getElem?_setIfInBounds_self_of_lt hlt, ?_, ?_⟩⟩
        · exact (List.perm_append_singleton _ _).trans ((hperm0.cons _).trans hperm'.symm)
        · rw [Array.toList_push]
          exact (hx.push hy hz).pin

/-- an operation that may change memory has been taken -/
theorem Inv.effect {p : Pl} {v : AV} {h1 : H} {is' : List Nat} {l' : List XDr} (I : Inv u P W0 n vm r ops qs Q E0 h0 listed done is l acc a a' h E x w) (hp : PlOk u P n vm ops.toList (done.map (·.p)) p) (hq : p.q = false) (hu : listed.getD p.i true = false)
    {o : Oper} (ho : ops[p.i]? = some o) (hpre : ∀ e ∈ o.after, Region.binds .any e = true → listed.getD e.on false = true) (hpl : Plan u P n vm ops.toList is' l' (p :: done.map (·.p)))
    (his : ∀ j, j ∈ is → j = p.i ∨ j ∈ is') (his' : ∀ j ∈ is', j ∈ is) (hl' : ∀ d ∈ l', d.quiet = true → ∀ u, d.o.dst = .v u → u ∈ qs)
    {E1 : Env} {x1 : Act} {w1 : World} (S1 : HSim P W0 E1 h1 w1) (hA1 : ASim E1 n vm (putX p.x.dst v a') x1) (t1 : Trans E h E1 h1) (hck : chkU acc h1 = true)
    (hne : runDraw r qs u l' acc (putX p.x.dst v a) h1 ≠ .fail) (hq1 : ∀ e x' w', CROk P W0 E0 h0 n vm (runDraw r qs u l' acc (putX p.x.dst v a) h1) e x' w' → Q e x' w')
    (hlook : ∀ s ∈ done, listed.getD s.p.i true = false → s.p.q = true → xlooks s.p.x.op = true → wantedX s.p.x.guard a = some true → runOp s.p.x.op r a h = .val s.v h → (∀ k ∈ xreadsO s.p.x, getX k (putX p.x.dst v a) = getX k a) →
      (∀ k, hitX s.p.x.dst k = true → getX k (putX p.x.dst v a) = some s.v) → runOp s.p.x.op r a h1 = .val s.v h1) :
    Inv u P W0 n vm r ops qs Q E0 h0 (listed.setIfInBounds p.i true) (⟨p, v, none, none⟩ :: done) is' l' acc (putX p.x.dst v a) (putX p.x.dst v a') h1 E1 x1 w1 := by
  have hpm : ∀ t ∈ done, t.p ∈ done.map (·.p) := fun t ht => List.mem_map_of_mem ht
  have hlt := un_lt hu
  have hcl := I.closed' ho hlt hpre
  have hgood := hp.good I.placed.good
  have hun1 : UOk acc (listed.setIfInBounds p.i true) (⟨p, v, none, none⟩ :: done) h0 h1 E1 w1 := by
    have hU : UOk acc listed (⟨p, v, none, none⟩ :: done) h0 h E w := I.un.cons rfl fun _ _ _ hh => hh
    have hnd : (⟨p, v, none, none⟩ :: done : List Ent).Pairwise fun a b => a.p.i ≠ b.p.i := .cons (fun s hs he => hp.new s.p (hpm s hs) he.symm) I.nodup
    have hget : ∀ M l, acc = some (M, l) → h1.get M = some (.mapU [] false) := by
      intro M l hacc
      rw [hacc] at hck
      simp only [chkU] at hck
      split at hck
      · assumption
      · cases hck
    refine hU.mark (t := ⟨p, v, none, none⟩) hnd List.mem_cons_self hu rfl (fun M l hacc _ => hget M l hacc) fun M l L hacc hgM hm => ?_
    exact hm.keep I.S S1 t1.up hgM (hget M l hacc) fun hn => .inl (by rw [t1.ext.low M (I.lt hgM)]; exact hn)
  refine ⟨S1, hA1, by rw [defers_put, defers_put]; exact I.defs, I.tr.trans t1, hne, hq1, by simp [I.size], hcl, hpl, .cons hp I.placed, ?_, ?_, ?_, ?_, ?_, hun1, I.uf, ?_, ?_, ?_, hl'⟩
  · intro j hj
    exact un_set' (fun he => hpl.notin j hj p (by simp) he.symm) (I.rest j (his' j hj))
  · intro t ht hqt
    rcases List.mem_cons.1 ht with rfl | ht
    · exact ls_set_self hlt
    · exact ls_set' (I.eff t ht hqt)
  · intro j hj
    rcases I.cover j hj with ⟨t, ht, hti⟩ | hj
    · exact .inl ⟨t, by simp [ht], hti⟩
    · rcases his j hj with rfl | hj
      · exact .inl ⟨_, List.mem_cons_self, rfl⟩
      · exact .inr hj
  · intro k hk
    rw [getX_put, getX_put]
    split
    · rfl
    · refine I.agree k fun t ht hut => hk t (by simp [ht]) (un_set' (hp.new t.p (hpm t ht)) hut)
  · intro t ht hut
    rcases List.mem_cons.1 ht with rfl | ht
    · exact absurd rfl (un_set hut).1
    · obtain ⟨hne', hut'⟩ := un_set hut
      obtain ⟨z1, z2, z3, z4⟩ := pairsOk_mem hp.pairs t.p (hpm t ht)
      have hnot : hits p.x.dst (xreadsO t.p.x) = false := by
        cases hh : hits p.x.dst (xreadsO t.p.x) with
        | false => rfl
        | true =>
          exfalso
          rcases ls_set (hgood _ hcl (ls_set_self hlt) _ (z4 hh)) with h2 | h2
          · exact hne' h2
          · exact un_ls hut' h2
      have hr : ∀ k ∈ xreadsO t.p.x, getX k (putX p.x.dst v a) = getX k a := fun k hk => by
        rw [getX_put, if_neg (by rw [hits_mem hnot k hk]; simp)]
      have hd : ∀ k, hitX t.p.x.dst k = true → getX k (putX p.x.dst v a) = getX k a := fun k hk => by
        rw [getX_put, if_neg (fun hh' => sameD_hit z1 hk hh')]
      refine (I.pend t ht hut').mono hr hd t1.next ?_ ?_
      · intro b hb hEb hbn
        exact ⟨t1.keep b hbn hEb, by rw [t1.ext.low b hbn]; exact hEb⟩
      · intro hal hins hw hrun
        have hqt : t.p.q = true := by
          cases hqt : t.p.q with
          | true => rfl
          | false => exact (un_ls hut' (I.eff t ht hqt)).elim
        obtain ⟨-, hqq⟩ := I.placed.oper t.p (hpm t ht)
        cases hl : xlooks t.p.x.op with
        | true => exact hlook t ht hut' hqt hl hw hrun hr (fun k hk => by rw [hd k hk]; exact (I.pend t ht hut').1 k hk)
        | false => exact (plain_val _ ((quietU (hqq hqt).1).resolve_left (fun hh => by rw [hins] at hh; cases hh.2)).1 hl hal hrun).2 h1
  · intro s hs t ht c hcs hct
    rcases List.mem_cons.1 hs with rfl | hs
    · cases hcs
    · rcases List.mem_cons.1 ht with rfl | ht
      · cases hct
      · exact I.dist s hs t ht c hcs hct
  · intro t ht c hc
    rcases List.mem_cons.1 ht with rfl | ht
    · cases hc
    · have := I.bnd t ht c hc
      have := t1.next
      omega
  · intro t ht hqt u hu'
    rcases List.mem_cons.1 ht with rfl | ht
    · simp only at hqt; rw [hq] at hqt; cases hqt
    · exact I.dq t ht hqt u hu'

theorem ents_pairwise (hnd : done.Pairwise fun a b => a.p.i ≠ b.p.i) (h5 : ∀ s ∈ done, ∀ t ∈ done, s.p.i ≠ t.p.i → ∀ q q', s.kv = some q → t.kv = some q' → keyEq q.2.1 q'.2.1 = some false) :
    (entsOf done).Pairwise fun a b => keyEq a.1 b.1 = some false ∧ keyEq b.1 a.1 = some false := by
  unfold entsOf
  rw [List.pairwise_filterMap]
  refine hnd.imp_of_mem ?_
  intro s t hs ht hne b hb b' hb'
  obtain ⟨q, hq, rfl⟩ := Option.map_eq_some_iff.1 hb
  obtain ⟨q', hq', rfl⟩ := Option.map_eq_some_iff.1 hb'
  exact ⟨h5 s hs t ht hne q q' hq hq', h5 t ht s hs (fun he => hne he.symm) q' q hq' hq⟩

/-- nothing is left -/
theorem Inv.fin (I : Inv u P W0 n vm r ops qs Q E0 h0 listed done is l acc a a' h E x w) (hr : Region.ready .any ops listed = []) : Q .normal x w := by
  have hL : ∀ i o, ops.toList[i]? = some o → (∀ e ∈ o.after.toList, Region.binds .any e = true → listed.getD e.on false = true) → listed.getD i false = true := by
    intro i o ho hpre
    have ho' : ops[i]? = some o := by simpa using ho
    have hi : i < listed.size := by
      rw [I.size]
      rcases Nat.lt_or_ge i ops.size with h1 | h1
      · exact h1
      · rw [Array.getElem?_eq_none h1] at ho'; cases ho'
    by_cases hh : listed.getD i false = true
    · exact hh
    · exfalso
      have : i ∈ Region.ready .any ops listed := mem_ready.2 ⟨not_ls hi hh, o, ho', fun e he hb => hpre e (by simpa using he) hb⟩
      rw [hr] at this; cases this
  have hall := Placed.all (L := fun j => listed.getD j false = true) hL I.placed
  have hhead : ∀ (p : Pl), PlOk u P n vm ops.toList (done.map (·.p)) p → p.i ∈ is → False := by
    intro p hp hpi
    obtain ⟨o, ho, -, -, hm⟩ := hp.op
    refine un_ls (I.rest p.i hpi) (hL p.i o ho fun e he hb => ?_)
    obtain ⟨s, hs, hsi⟩ := predMask_found hm e he hb
    rw [← hsi]; exact hall s hs
  have hp := I.plan
  cases hp with
  | quiet h1 h2 h3 => exact (hhead _ h1 (by simp)).elim
  | eff h1 h2 h3 h4 h5 => exact (hhead _ h1 (by simp)).elim
  | two hu h1 h2 h3 h4 hl hl' h5 h6 h7 h8 h9 => exact (hhead _ h1 (by simp)).elim
  | nil =>
    have hag : ∀ k, getX k a' = getX k a := fun k => I.agree k fun t ht hut => (un_ls hut (hall t.p (List.mem_map_of_mem ht))).elim
    have key : ∀ h2, Trans E0 h0 E h2 → HSim P W0 E h2 w → runDraw r qs u [] acc a h = .normal a h2 → Q .normal x w := by
      intro h2 t2 S2 hrun
      refine I.q .normal x w ?_
      rw [hrun]
      refine ⟨E, t2, S2, I.hA.size, ?_, ?_, by rw [← I.defs]; exact I.hA.defers⟩
      · intro t v hb hv
        exact I.hA.vars t v hb (by have := hag (.v t); exact this.trans hv)
      · intro t v hb hv
        exact I.hA.log t v hb (by have := hag (.l t); exact this.trans hv)
    have hrun : runDraw r qs u [] acc a h = finU u acc a h := rfl
    cases u with
    | false => exact key h I.tr I.S hrun
    | true =>
      have hun := I.un
      have hne := I.ne
      rw [hrun] at hne
      cases acc with
      | none => exact absurd rfl hne
      | some p =>
        obtain ⟨M, l0⟩ := p
        cases l0 with
        | nil => exact absurd rfl hne
        | cons e0 l0 =>
          unfold UOk at hun
          simp only at hun
          obtain ⟨u1, u2, u3, u4, u5, u6, u7⟩ := hun
          have hfil : (done.filter fun t => listed.getD t.p.i false) = done := List.filter_eq_self.2 fun t ht => hall t.p (List.mem_map_of_mem ht)
          rw [hfil, ← u1] at u7
          rcases u7 with ⟨-, hn⟩ | ⟨e, xs, ck, es, he, hob, hperm, hx⟩
          · cases hn
          · have hpw : es.Pairwise fun a b => keyEq a.1 b.1 = some false ∧ keyEq b.1 a.1 = some false := by
              have h1 := ents_pairwise I.nodup u5
              rw [← u1] at h1
              exact (hperm.pairwise_iff fun hh => ⟨hh.2, hh.1⟩).2 h1
            refine key (h.put M (.mapU (e0 :: l0) true)) ⟨I.tr.ext, by rw [H.next_put]; exact I.tr.next, fun b hb hE => ?_⟩ ?_ hrun
            · rw [H.get_put, if_neg (by omega)]; exact I.tr.keep b hb hE
            · exact I.S.write he u3 rfl (by simp) ⟨xs, ck, rfl, (fun hf => by cases hf), fun _ => lookOk_of hx hperm hpw⟩ rfl hob (fun _ _ => rfl) rfl rfl

/-- a panic in the midst of it -/
theorem Inv.panic (I : Inv u P W0 n vm r ops qs Q E0 h0 listed done is l acc a a' h E x w) {c : List PE} {h1 : H} (hrun : runDraw r qs u l acc a h = .pan c ⟨delAll qs a.vars, [], a.defers⟩ h1) {E1 : Env} {w1 : World} {ch : List PanicEntry}
    (t1 : Trans E h E1 h1) (S1 : HSim P W0 E1 h1 w1) (hch : ChOk E1 c ch) : Q (.panic ch) x w1 := by
  refine I.q (.panic ch) x w1 ?_
  rw [hrun]
  have hA := I.hA.up t1.up
  refine ⟨E1, I.tr.trans t1, S1, ⟨hA.size, ?_, ?_, by rw [← I.defs]; exact hA.defers⟩, hch⟩
  · intro t v hb hv
    obtain ⟨hnq, hv'⟩ := delAll_get qs a.vars t v hv
    refine hA.vars t v hb ?_
    have := I.agree (.v t) fun s hs hus => by
      cases hsk : hitX s.p.x.dst (.v t) with
      | false => rfl
      | true =>
        exfalso
        have hq : s.p.q = true := by
          cases hq : s.p.q with
          | true => rfl
          | false => exact (un_ls hus (I.eff s hs hq)).elim
        rcases hitX_iff.1 hsk with ⟨t', hd, hk⟩ | ⟨t', hd, hk⟩
        · cases hk; exact hnq (I.dq s hs hq t hd)
        · cases hk
    exact this.trans hv'
  · intro t v hb hv
    have hv' : findLog t [] = some v := hv
    rw [findLog_nil] at hv'; cases hv'

end
end Go.Ev
