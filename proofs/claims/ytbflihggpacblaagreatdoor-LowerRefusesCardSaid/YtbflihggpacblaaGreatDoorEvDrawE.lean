/- Drawn regions: the end of it. -/
import Derived.Test.YtbflihggpacblaaGreatDoorEvDrawD
set_option linter.unusedVariables false
set_option linter.unusedSimpArgs false
namespace Go.Ev
set_option linter.unusedSectionVars false
variable [Sig]

/-- how many are left -/
def cntU (f : Nat → Bool) : Nat → Nat
  | 0 => 0
  | n + 1 => cntU f n + (if f n then 1 else 0)
theorem cntU_same {f g : Nat → Bool} : ∀ n, (∀ j, j < n → f j = g j) → cntU f n = cntU g n
  | 0, _ => rfl
  | n + 1, h => by simp only [cntU, h n (by omega), cntU_same n (fun j hj => h j (by omega))]
theorem cntU_less {f g : Nat → Bool} {i : Nat} (hf : f i = true) (hg : g i = false) (ho : ∀ j, j ≠ i → f j = g j) : ∀ n, i < n → cntU g n + 1 = cntU f n
  | 0, h => by omega
  | n + 1, h => by
    simp only [cntU]
    by_cases hi : i = n
    · subst hi
      rw [hf, hg, cntU_same i (fun j hj => ho j (by omega))]
      simp
    · have := cntU_less hf hg ho n (by omega)
      rw [ho n (by omega)]
      omega
theorem cntU_pos {f : Nat → Bool} : ∀ n, cntU f n = 0 → ∀ j, j < n → f j = false
  | 0, _, j, hj => by omega
  | n + 1, h, j, hj => by
    simp only [cntU] at h
    by_cases hjn : j = n
    · subst hjn
      cases hf : f j with
      | false => rfl
      | true => rw [hf] at h; simp at h
    · exact cntU_pos n (by omega) j (by omega)
def left (listed : Array Bool) : Nat := cntU (fun j => !listed.getD j true) listed.size
theorem left_set {listed : Array Bool} {i : Nat} (hu : listed.getD i true = false) : left (listed.setIfInBounds i true) + 1 = left listed := by
  have hi := un_lt hu
  unfold left
  rw [Array.size_setIfInBounds]
  refine cntU_less (i := i) (by simp only [hu]; rfl) ?_ ?_ _ hi
  · simp [Array.getD_eq_getD_getElem?, hi]
  · intro j hj
    simp only [getD_set_ne true (fun he => hj he.symm)]

theorem st_run {r : Rec} {a : A} {h : H} {n : Nat} {x y : XO} {v : AV} {h' : H} (hr : runOp (.st n x y) r a h = .val v h') : ∃ b off u, getX x a = some (.ptr b off) ∧ getX y a = some u ∧ storeAt h n b off u = some h' ∧ v = .undef := by
  have hr' : rSt n x y a h = .val v h' := hr
  unfold rSt at hr'
  split at hr'
  · rename_i b off hx
    split at hr'
    · rename_i u hu
      split at hr'
      · rename_i h2 hs; cases hr'; exact ⟨b, off, u, hx, hu, hs, rfl⟩
      · cases hr'
    · cases hr'
  · cases hr'
theorem run_st {r : Rec} {a : A} {h : H} {n : Nat} {x y : XO} {h' : H} {b off : Nat} {u : AV} (hx : getX x a = some (.ptr b off)) (hy : getX y a = some u) (hs : storeAt h n b off u = some h') : runOp (.st n x y) r a h = .val .undef h' := by
  show rSt n x y a h = _
  simp only [rSt, hx, hy, hs]
theorem storeAt_some {h h' : H} {n b off : Nat} {v : AV} (hs : storeAt h n b off v = some h') : ∃ blk, h' = h.put b blk ∧ ∀ h2 : H, h2.get b = h.get b → storeAt h2 n b off v = some (h2.put b blk) := by
  unfold storeAt at hs
  split at hs
  · rename_i cs e tail hg
    split at hs
    · rename_i vs hv
      split at hs
      · rename_i hn
        split at hs
        · rename_i l hl
          cases hs
          refine ⟨_, rfl, fun h2 h2g => ?_⟩
          unfold storeAt
          rw [h2g, hg]
          simp only [hv, hn, hl]
        · cases hs
      · cases hs
    · cases hs
  · cases hs

section
variable {u : Bool} {acc : UA} {P : Program} {W0 : World} {n vm : Nat} {r : Rec} {ops : Array Oper} {qs : List Nat} {Q : Exit → Act → World → Prop} {E0 : Env} {h0 : H}

theorem cOp_mkM {op : Op} (hc : cOp P vm op = some .mkM) : isQuiet op = true := by
  cases op <;> simp only [cOp] at hc <;> try (cases hc; done)
  case makeMap t r' => rfl
  case call c =>
    exfalso
    unfold cCall at hc
    (repeat' split at hc) <;> cases hc
  case slice t p lo hi mx => rfl
  case next it isS => exfalso; cases isS <;> simp only at hc <;> (repeat' split at hc) <;> cases hc
  all_goals (exfalso; (repeat' split at hc) <;> cases hc)
theorem isQuietU_of {op : Op} (h : isQuiet op = true) : isQuietU true op = true := by
  cases op <;> first | rfl | exact h
theorem effU {ops : List Oper} {ps : List Pl} {p : Pl} (hp : PlOk u P n vm ops ps p) (hq : p.q = false) : (∀ r a h, runOpU u p.x.op r a h = runOp p.x.op r a h) ∧ ∀ a h acc, accU u p.x.op a h acc = some acc := by
  cases u with
  | false => exact ⟨fun _ _ _ => rfl, fun _ _ _ => rfl⟩
  | true =>
    obtain ⟨o, ho, hoq, hox, -⟩ := hp.op
    rw [hq] at hoq
    have hm : p.x.op ≠ .mkM := by
      intro hm
      rcases cOper_cases P n vm ops o with ⟨g, xop, d, h1, h2, h3, h4⟩ | h4
      · rw [hox, h4] at hm
        simp only at hm
        subst hm
        have := cOp_mkM h2
        rw [isQuietU_of this] at hoq; cases hoq
      · rw [hox, h4] at hm; cases hm
    have hi : insX p.x.op = false := by
      cases hi : insX p.x.op with
      | false => rfl
      | true =>
        rcases cOper_cases P n vm ops o with ⟨g, xop, d, h1, h2, h3, h4⟩ | h4
        · rw [hox, h4] at hi
          simp only at hi
          cases xop <;> simp only [insX] at hi <;> try (cases hi; done)
          obtain ⟨_, _, _, _, _, _, h5, -⟩ := cOp_ins h2
          rw [h5] at hoq; cases hoq
        · rw [hox, h4] at hi; cases hi
    refine ⟨fun r a h => runOpU_eq hm hi, fun a h acc => ?_⟩
    cases hxo : p.x.op <;> rw [hxo] at hm hi <;> first | rfl | exact absurd rfl hm | (cases hi; done)
theorem Inv.chk {listed : Array Bool} {done : List Ent} {is : List Nat} {l : List XDr} {a a' : A} {h : H} {E : Env} {x : Act} {w : World} (I : Inv u P W0 n vm r ops qs Q E0 h0 listed done is l acc a a' h E x w) : chkU acc h = true := by
  have hun := I.un
  unfold UOk at hun
  cases acc with
  | none => rfl
  | some p =>
    obtain ⟨M, l0⟩ := p
    simp only at hun
    simp only [chkU, hun.2.2.1]

/-- an operation that may change memory comes up -/
theorem Inv.now (hP : ProgOk P) (hR : RecOk P W0 r) {listed : Array Bool} {done : List Ent} {is : List Nat} {l : List XDr} {a a' : A} {h : H} {E : Env} {x : Act} {w : World} {rd : Option Nat} {F : Fence} (hF : RdOk E rd F)
    (I : Inv u P W0 n vm r ops qs Q E0 h0 listed done is l acc a a' h E x w) {p : Pl} (hp : PlOk u P n vm ops.toList (done.map (·.p)) p) (hu : listed.getD p.i true = false) {o : Oper} (ho : ops[p.i]? = some o)
    (hpre : ∀ e ∈ o.after, Region.binds .any e = true → listed.getD e.on false = true) {K : Act → World → Prop} {b : Bool} (hw : wantedX p.x.guard a = some b) (hrun : b = true → (∃ v h', runOp p.x.op r a h = .val v h') ∨ (∃ c h', runOp p.x.op r a h = .pan c h'))
    (hnot : b = false → p.x.op ≠ .bad → ∀ x', ASim E n vm (putX p.x.dst .undef a') x' → K x' w)
    (hnext : b = true → ∀ v h' E' x' w', runOp p.x.op r a h = .val v h' → Trans E h E' h' → HSim P W0 E' h' w' → ASim E' n vm (putX p.x.dst v a') x' → K x' w')
    (hpan : b = true → ∀ c h' E' ch w', runOp p.x.op r a h = .pan c h' → Trans E h E' h' → HSim P W0 E' h' w' → ChOk E' c ch → Q (.panic ch) x w') : wpOpIn F 0 P ops Q p.i K x w := by
  have hpm : ∀ t ∈ done, t.p ∈ done.map (·.p) := fun t ht => List.mem_map_of_mem ht
  obtain ⟨o', ho', hoq, hox, -⟩ := hp.op
  have : o' = o := by simpa [ho] using ho'.symm
  subst this
  have hreads := I.reads (X := p.x) (m := p.m) ho hu hpre (fun L hL hi => hp.good I.placed.good L hL hi)
    (fun s hs _ _ hh => (pairsOk_mem hp.pairs s.p (hpm s hs)).2.2.1 hh) (fun s hs he => absurd he (hp.new s.p (hpm s hs)))
  obtain ⟨c1, c2⟩ := oper_congr hreads
  rcases cOper_cases P n vm ops.toList o' with ⟨g, xop, d, h1, h2, h3, h4⟩ | h4
  · rw [← hox] at h4
    have hg : cGuard vm ops.toList o'.guard = some p.x.guard := by rw [h4]; exact h1
    have hop : cOp P vm o'.op = some p.x.op := by rw [h4]; exact h2
    have hd : cDst n vm o'.dst = some p.x.dst := by rw [h4]; exact h3
    unfold wpOpIn
    simp only [ho]
    rw [wanted_sound I.hA hg (by rw [c1]; exact hw)]
    cases b with
    | false =>
      simp only [Bool.false_eq_true, if_false]
      refine ⟨fun f _ => hF.fn f, hnot rfl ?_ _ (put_sound I.hA hd cv_undef)⟩
      intro hb
      rw [hb] at hop
      -- an operation that can't be compiled has no compiled form
      have hne : ∀ op : Op, cOp P vm op ≠ some .bad := by
        intro op hc
        cases op <;> simp only [cOp] at hc <;> try (cases hc; done)
        case call c =>
          unfold cCall at hc
          (repeat' split at hc) <;> cases hc
        case slice t p lo hi mx => cases mx <;> simp only at hc <;> (repeat' split at hc) <;> cases hc
        case makeMap t r' => cases r' <;> cases hc
        case next it isS => cases isS <;> simp only at hc <;> (repeat' split at hc) <;> cases hc
        all_goals ((repeat' split at hc) <;> cases hc)
      exact hne _ hop
    | true =>
      simp only [if_true]
      have hcr : orK rd p.x.dst a' (fun a h => CR.normal a h) (runOp p.x.op r a' h) ≠ .fail := by
        rw [c2]
        rcases hrun rfl with ⟨v, h', hv⟩ | ⟨c, h', hv⟩ <;> rw [hv] <;> simp [orK]
      refine oper_sound hP hR I.S I.hA hF hop hd (K := fun a h => .normal a h) hcr ?_ ?_
      · intro E' a'' h'' x' w' htr hs ha hk
        rw [c2] at hk
        rcases hrun rfl with ⟨v, h', hv⟩ | ⟨c, h', hv⟩
        · rw [hv] at hk
          simp only [orK] at hk
          injection hk with hk1 hk2
          subst hk1; subst hk2
          exact hnext rfl v _ E' x' w' hv htr hs ha
        · rw [hv] at hk; simp [orK] at hk
      · intro c h' E' ch w' hk htr hs ha hch
        rw [c2] at hk
        rcases hrun rfl with ⟨v, h2, hv⟩ | ⟨c2', h2, hv⟩
        · rw [hv] at hk; simp [orK] at hk
        · rw [hv] at hk
          simp only [orK] at hk
          injection hk with hk1 hk2 hk3
          subst hk1; subst hk3
          exact hpan rfl _ _ E' ch w' hv htr hs hch
  · rw [← hox] at h4
    have hb : b = true := by rw [h4] at hw; simp only [wantedX, Option.some.injEq] at hw; exact hw.symm
    subst hb
    exfalso
    rcases hrun rfl with ⟨v, h', hv⟩ | ⟨c, h', hv⟩ <;> rw [h4] at hv <;> cases hv

theorem CROk.same {cr : A → H → CR} {e : Exit} {x : Act} {w : World} {a : A} {h1 h2 : H} (hc : CROk P W0 E0 h0 n vm (.normal a h1) e x w) (hn : h2.next = h1.next) (hg : ∀ b, h2.get b = h1.get b) : CROk P W0 E0 h0 n vm (.normal a h2) e x w := by
  cases e <;> simp only [CROk] at hc ⊢
  obtain ⟨E', ht, hs, ha⟩ := hc
  exact ⟨E', ⟨ht.ext, by rw [hn]; exact ht.next, fun b hb hE => by rw [hg]; exact ht.keep b hb hE⟩, hs.same hn hg, ha⟩

theorem draw_walk (hP : ProgOk P) (hR : RecOk P W0 r) (hd0 : ∀ b e, E0 b = some e → b < h0.next) (h64 : 64 ≤ h0.next) {rd : Option Nat} {F : Fence} : ∀ (m : Nat) (listed : Array Bool) (done : List Ent) (is : List Nat) (l : List XDr) (acc : UA) (a a' : A) (h : H) (E : Env) (x : Act) (w : World),
    Inv u P W0 n vm r ops qs Q E0 h0 listed done is l acc a a' h E x w → left listed ≤ m → RdOk E rd F → wpAnyIn F 0 P .any ops Q m listed x w := by
  intro m
  induction m with
  | zero =>
    intro listed done is l acc a a' h E x w I hl hF
    have hr : Region.ready .any ops listed = [] := by
      cases hr : Region.ready .any ops listed with
      | nil => rfl
      | cons i rs =>
        exfalso
        have hi : i ∈ Region.ready .any ops listed := by rw [hr]; simp
        obtain ⟨hu, -⟩ := mem_ready.1 hi
        have := left_set hu
        omega
    exact ⟨hr, I.fin hr⟩
  | succ m ih =>
    intro listed done is l acc a a' h E x w I hl hF
    obtain ⟨done, is, l, acc, a, h, I, hck⟩ := advance _ is l done acc a h (Nat.le_refl _) I
    refine ⟨fun hr => I.fin hr, fun i hi => ?_⟩
    obtain ⟨hu, o, ho, hpre⟩ := mem_ready.1 hi
    have hpre' : ∀ e ∈ o.after, Region.binds .any e = true → listed.getD e.on false = true := hpre
    have hleft : left (listed.setIfInBounds i true) ≤ m := by have := left_set hu; omega
    have hisz : i < ops.size := by rw [← I.size]; exact un_lt hu
    rcases I.cover i hisz with ⟨t, ht, rfl⟩ | hii
    · exact I.late hP hR hd0 h64 hF ht hu ho hpre' fun a'' E' x' w' hF' I' => ih _ _ _ _ _ _ _ _ _ _ _ I' hleft hF'
    · have hpl := I.plan
      have hne := I.ne
      have hq0 := I.q
      have hlq := I.lq
      cases hpl with
      | nil => cases hii
      | quiet h1 h2 h3 =>
        rcases hck with hck | ⟨d, ds, hck, hdq⟩
        · cases hck
        · cases hck; cases hdq
      | eff hp hpq hag later hpl' =>
        rename_i p is' l' ag
        have hip : i = p.i := by
          rcases List.mem_cons.1 hii with rfl | hii'
          · rfl
          · have := later i hii' _ (I.closed' ho (un_lt hu) hpre') (ls_set_self (un_lt hu))
            rcases ls_set this with h2 | h2
            · exact h2.symm
            · exact (un_ls (I.rest p.i (by simp)) h2).elim
        subst hip
        obtain ⟨eU1, eU2⟩ := effU hp hpq
        have hrunc := runDraw_cons (r := r) (qs := qs) (u := u) (acc := acc) (a := a) (h := h) ⟨false, p.x, ag, none⟩ l'
        have heff : ∀ v h1 E1 x1 w1, runDraw r qs u (⟨false, p.x, ag, none⟩ :: l') acc a h = runDraw r qs u l' acc (putX p.x.dst v a) h1 → chkU acc h1 = true → HSim P W0 E1 h1 w1 → ASim E1 n vm (putX p.x.dst v a') x1 → Trans E h E1 h1 →
            (∀ s ∈ done, listed.getD s.p.i true = false → s.p.q = true → xlooks s.p.x.op = true → wantedX s.p.x.guard a = some true → runOp s.p.x.op r a h = .val s.v h → (∀ k ∈ xreadsO s.p.x, getX k (putX p.x.dst v a) = getX k a) →
              (∀ k, hitX s.p.x.dst k = true → getX k (putX p.x.dst v a) = some s.v) → runOp s.p.x.op r a h1 = .val s.v h1) →
            wpAnyIn F 0 P .any ops Q m (listed.setIfInBounds p.i true) x1 w1 := by
          intro v h1 E1 x1 w1 hrun hck1 S1 hA1 t1 hlook
          refine ih _ _ _ _ _ _ _ _ _ _ _ (I.effect hp hpq hu ho hpre' hpl' (fun j hj => List.mem_cons.1 hj) (fun j hj => List.mem_cons_of_mem _ hj) (fun d hd => I.lq d (List.mem_cons_of_mem _ hd)) S1 hA1 t1 hck1 ?_ ?_ hlook) hleft (hF.up t1.up)
          · rw [← hrun]; exact I.ne
          · rw [← hrun]; exact I.q
        cases hw : wantedX p.x.guard a with
        | none => simp only [hw] at hrunc; exact absurd hrunc I.ne
        | some b =>
          cases b with
          | false =>
            simp only [hw] at hrunc
            refine I.now hP hR hF hp hu ho hpre' hw (fun hb => by cases hb) ?_ (fun hb => by cases hb) (fun hb => by cases hb)
            intro _ _ x' hA'
            exact heff _ _ E x' w hrunc I.chk I.S hA' (.refl _ _) (fun s _ _ _ _ _ hr _ _ => hr)
          | true =>
            simp only [hw, twoOk, eU1, eU2] at hrunc
            cases hop : runOp p.x.op r a h with
            | fail => simp only [hop] at hrunc; exact absurd hrunc I.ne
            | dfr d h' => simp only [hop] at hrunc; exact absurd hrunc I.ne
            | pan c h' =>
              simp only [hop] at hrunc
              refine I.now hP hR hF hp hu ho hpre' hw (fun _ => .inr ⟨c, h', hop⟩) (fun hb => by cases hb) (fun _ v h2 _ _ _ hv => by rw [hop] at hv; cases hv) ?_
              intro _ c2 h2 E' ch w' hv htr hs hch
              rw [hop] at hv; cases hv
              exact I.panic hrunc htr hs hch
            | val v h1 =>
              simp only [hop] at hrunc
              cases hck1 : chkU acc h1 with
              | false => simp only [hck1] at hrunc; exact absurd hrunc I.ne
              | true =>
              simp only [hck1] at hrunc
              refine I.now hP hR hF hp hu ho hpre' hw (fun _ => .inl ⟨v, h1, hop⟩) (fun hb => by cases hb) ?_ (fun _ c h2 _ _ _ hv => by rw [hop] at hv; cases hv)
              intro _ v2 h2 E1 x1 w1 hv t1 S1 hA1
              rw [hop] at hv; cases hv
              rcases hag with hmv | rfl
              · have hh : h1 = h := by
                  cases hxo : p.x.op <;> rw [hxo] at hmv <;> try (cases hmv; done)
                  rename_i z
                  rw [hxo] at hop
                  exact (ofO_val2 (show ofO (getX z a) h = .val v h1 from hop)).1
                subst hh
                have hag' : ∃ X, runDraw r qs u (⟨false, p.x, ag, none⟩ :: l') acc a h1 = X ∧ (X = runDraw r qs u l' acc (putX p.x.dst v a) h1 ∨ X = .fail) := by
                  refine ⟨_, rfl, ?_⟩
                  rw [hrunc]
                  split
                  · exact .inl rfl
                  · split
                    · exact .inl rfl
                    · exact .inr rfl
                obtain ⟨X, hX, hX' | hX'⟩ := hag'
                · exact heff v h1 E1 x1 w1 (hX.trans hX') hck1 S1 hA1 t1 (fun s _ _ _ _ _ hr _ _ => hr)
                · exact absurd (hX.trans hX') I.ne
              · have hunbit : ∀ s ∈ done, listed.getD s.p.i true = false → bit p.m s.p.i = false := by
                  intro s hs hus
                  cases hb : bit p.m s.p.i with
                  | false => rfl
                  | true =>
                    exfalso
                    rcases ls_set (hp.good I.placed.good _ (I.closed' ho (un_lt hu) hpre') (ls_set_self (un_lt hu)) _ hb) with h2 | h2
                    · exact hp.new s.p (List.mem_map_of_mem hs) h2
                    · exact un_ls hus h2
                split at hrunc
                · rename_i hnil
                  have hnil' : againOf p.m (done.map (·.p)) = [] := hnil
                  refine heff v h1 E1 x1 w1 hrunc hck1 S1 hA1 t1 ?_
                  intro s hs hus hsq hsl
                  have := againOf_mem (List.mem_map_of_mem (f := (·.p)) hs) hsq hsl (hunbit s hs hus)
                  rw [hnil'] at this; cases this
                · split at hrunc
                  · rename_i hck2
                    refine heff v h1 E1 x1 w1 hrunc hck1 S1 hA1 t1 ?_
                    intro s hs hus hsq hsl hws hrs hreads hdst
                    have hmem := againOf_mem (List.mem_map_of_mem (f := (·.p)) hs) hsq hsl (hunbit s hs hus)
                    obtain ⟨c1, c2⟩ := oper_congr hreads
                    obtain ⟨v2, h2, hr2, hg2⟩ := recheck_mem hck2 s.p.x hmem (by rw [c1]; exact hws)
                    have hv2 : v2 = s.v := by
                      unfold getD at hg2
                      split at hg2
                      · cases hg2
                      · rename_i t hd
                        have := hdst (.v t) (by rw [hd]; exact hitX_iff.2 (.inl ⟨t, rfl, rfl⟩))
                        have hg3 : getX (.v t) (putX p.x.dst v a) = some v2 := hg2
                        rw [this] at hg3; cases hg3; rfl
                      · rename_i t hd
                        have := hdst (.l t) (by rw [hd]; exact hitX_iff.2 (.inr ⟨t, rfl, rfl⟩))
                        have hg3 : getX (.l t) (putX p.x.dst v a) = some v2 := hg2
                        rw [this] at hg3; cases hg3; rfl
                    subst hv2
                    have hh := (look_val _ hsl hr2).1
                    subst hh
                    rw [← c2]; exact hr2
                  · exact absurd hrunc I.ne
      | two hu0 hp hp' hpl1 hpl2 hlk hlk' hpq hpq' hx1 hx2 htwo =>
        rename_i p p' d1 d2 tt
        subst hu0
        have hacc := I.uf rfl
        subst hacc
        -- the two stores
        have hform : ∃ n1 X1 Y1 n2 X2 Y2, d1 = ⟨false, ⟨none, .st n1 X1 Y1, .no⟩, [], none⟩ ∧ d2 = ⟨false, ⟨none, .st n2 X2 Y2, .no⟩, [], none⟩ ∧ tt = (X1, X2) := by
          unfold twoSt at htwo
          split at htwo
          · cases htwo; exact ⟨_, _, _, _, _, _, rfl, rfl, rfl⟩
          · cases htwo
        obtain ⟨n1, X1, Y1, n2, X2, Y2, rfl, rfl, rfl⟩ := hform
        simp only at hx1 hx2
        -- nothing that looks is left
        have hnolook : ∀ (pp : Pl) (hok : PlOk false P n vm ops.toList (done.map (·.p)) pp), (∀ s ∈ done.map (·.p), s.q = true → xlooks s.x.op = true → bit pp.m s.i = true) → pp.i = i → ∀ s ∈ done, listed.getD s.p.i true = false → s.p.q = true → xlooks s.p.x.op = true → False := by
          intro pp hok hall hpi s hs hus hsq hsl
          have hmem : s.p ∈ done.map (·.p) := List.mem_map_of_mem hs
          have hb := hall s.p hmem hsq hsl
          rcases ls_set (hok.good I.placed.good _ (I.closed' ho (un_lt hu) hpre') (by rw [hpi]; exact ls_set_self (un_lt hu)) _ hb) with h2 | h2
          · exact hok.new s.p hmem (by rw [hpi]; exact h2)
          · exact un_ls hus h2
        -- the evaluator's run
        have hrun0 : runDraw r qs false [⟨false, ⟨none, .st n1 X1 Y1, .no⟩, [], some (X1, X2)⟩, ⟨false, ⟨none, .st n2 X2 Y2, .no⟩, [], none⟩] none a h =
            (match twoOk (some (X1, X2)) a with
              | true => (match runOp (.st n1 X1 Y1) r a h with
                | .val v h' => runDraw r qs false [⟨false, ⟨none, .st n2 X2 Y2, .no⟩, [], none⟩] none a h'
                | .pan c h' => .pan c ⟨delAll qs a.vars, [], a.defers⟩ h'
                | _ => .fail)
              | false => .fail) := rfl
        have hrun1 : ∀ (nn : Nat) (X Y : XO) (hh : H), runDraw r qs false [⟨false, ⟨none, .st nn X Y, .no⟩, [], none⟩] none a hh = (match runOp (.st nn X Y) r a hh with
                | .val v h' => .normal a h'
                | .pan c h' => .pan c ⟨delAll qs a.vars, [], a.defers⟩ h'
                | _ => .fail) := fun _ _ _ _ => rfl
        have hstp : ∀ (nn : Nat) (X Y : XO) (hh : H), (∃ h', runOp (.st nn X Y) r a hh = .val .undef h') ∨ runOp (.st nn X Y) r a hh = .fail := by
          intro nn X Y hh
          show (∃ h', rSt nn X Y a hh = .val .undef h') ∨ rSt nn X Y a hh = .fail
          unfold rSt
          split
          · split
            · split
              · exact .inl ⟨_, rfl⟩
              · exact .inr rfl
            · exact .inr rfl
          · exact .inr rfl
        simp only at hne hq0
        rw [hrun0] at hne hq0
        cases htw : twoOk (some (X1, X2)) a with
        | false => rw [htw] at hne; exact absurd rfl hne
        | true =>
          rw [htw] at hne hq0
          rcases hstp n1 X1 Y1 h with ⟨h1, hr1⟩ | hr1
          rotate_left
          · rw [hr1] at hne; exact absurd rfl hne
          rw [hr1] at hne hq0
          simp only at hne hq0
          rcases hstp n2 X2 Y2 h1 with ⟨h12, hr2⟩ | hr2
          rotate_left
          · rw [hrun1, hr2] at hne; exact absurd rfl hne
          have hq1 := hq0
          rw [hrun1, hr2] at hq1
          simp only at hq1
          obtain ⟨b1, o1, u1, e1, f1, g1, -⟩ := st_run hr1
          obtain ⟨b2, o2, u2, e2, f2, g2, -⟩ := st_run hr2
          have hbne : b1 ≠ b2 := by
            intro he
            simp only [twoOk, e1, e2, he, Nat.beq_refl] at htw
            cases htw
          obtain ⟨B1, rfl, k1⟩ := storeAt_some g1
          obtain ⟨B2, rfl, k2⟩ := storeAt_some g2
          -- the other order
          have g2' := k2 h (by rw [H.get_put, if_neg (fun he => hbne he.symm)])
          have g1' := k1 (h.put b2 B2) (by rw [H.get_put, if_neg hbne])
          have hr2' : runOp (.st n2 X2 Y2) r a h = .val .undef (h.put b2 B2) := run_st e2 f2 g2'
          have hr1' : runOp (.st n1 X1 Y1) r a (h.put b2 B2) = .val .undef ((h.put b2 B2).put b1 B1) := run_st e1 f1 g1'
          have hlq0 : ∀ d ∈ ([] : List XDr), d.quiet = true → ∀ u, d.o.dst = .v u → u ∈ qs := fun d hd => by cases hd
          simp only [List.mem_cons, List.not_mem_nil, or_false] at hii
          rcases hii with rfl | rfl
          · have hdst : p.x.dst = .no := by rw [← hx1]
            have hxop : p.x.op = .st n1 X1 Y1 := by rw [← hx1]
            have hxg : p.x.guard = none := by rw [← hx1]
            refine I.now hP hR hF hp hu ho hpre' (b := true) (by rw [hxg]; rfl) (fun _ => .inl ⟨_, _, by rw [hxop]; exact hr1⟩) (fun hb => by cases hb) ?_ (fun _ c h2 _ _ _ hv => by rw [hxop, hr1] at hv; cases hv)
            intro _ v2 h2 E1 x1 w1 hv t1 S1 hA1
            rw [hxop, hr1] at hv; cases hv
            have hput : putX p.x.dst AV.undef a = a := by rw [hdst]; rfl
            refine ih _ _ _ _ _ _ _ _ _ _ _ (I.effect hp hpq hu ho hpre' hpl1 (fun j hj => List.mem_cons.1 hj) (fun j hj => List.mem_cons_of_mem _ hj) (fun d hd => I.lq d (List.mem_cons_of_mem _ hd)) S1 hA1 t1 rfl ?_ ?_ ?_) hleft (hF.up t1.up)
            · rw [hput]; exact hne
            · rw [hput]; exact hq0
            · intro s hs hus hsq hsl
              exact (hnolook p hp hlk rfl s hs hus hsq hsl).elim
          · have hdst : p'.x.dst = .no := by rw [← hx2]
            have hxop : p'.x.op = .st n2 X2 Y2 := by rw [← hx2]
            have hxg : p'.x.guard = none := by rw [← hx2]
            refine I.now hP hR hF hp' hu ho hpre' (b := true) (by rw [hxg]; rfl) (fun _ => .inl ⟨_, _, by rw [hxop]; exact hr2'⟩) (fun hb => by cases hb) ?_ (fun _ c h2 _ _ _ hv => by rw [hxop, hr2'] at hv; cases hv)
            intro _ v2 h2 E1 x1 w1 hv t1 S1 hA1
            rw [hxop, hr2'] at hv; cases hv
            have hput : putX p'.x.dst AV.undef a = a := by rw [hdst]; rfl
            refine ih _ _ _ _ _ _ _ _ _ _ _ (I.effect hp' hpq' hu ho hpre' hpl2 (fun j hj => by simp only [List.mem_cons, List.not_mem_nil, or_false] at hj ⊢; exact hj.symm) (fun j hj => by simp only [List.mem_cons, List.not_mem_nil, or_false] at hj ⊢; exact .inl hj) (fun d hd hdq => by simp only [List.mem_cons, List.not_mem_nil, or_false] at hd; subst hd; cases hdq) S1 hA1 t1 rfl ?_ ?_ ?_) hleft (hF.up t1.up)
            · rw [hput, hrun1, hr1']; simp
            · rw [hput, hrun1, hr1']
              intro e x' w' hc
              refine hq1 e x' w' (CROk.same (cr := fun _ _ => .fail) hc rfl fun b => ?_)
              simp only [H.get_put]
              by_cases h1' : b = b1
              · subst h1'; simp [hbne]
              · simp [h1']
            · intro s hs hus hsq hsl
              exact (hnolook p' hp' hlk' rfl s hs hus hsq hsl).elim

theorem quietVs_mem : ∀ {l : List XDr} {d : XDr}, d ∈ l → d.quiet = true → ∀ u, d.o.dst = .v u → u ∈ quietVs l
  | [], d, hd, _, _, _ => by cases hd
  | e :: l, d, hd, hq, u, hu => by
    simp only [quietVs]
    rcases List.mem_cons.1 hd with rfl | hd
    · rw [hq, hu]; simp
    · have := quietVs_mem hd hq u hu
      split
      · exact List.mem_cons_of_mem _ this
      · exact this
theorem coversB_mem {order : List Nat} : ∀ {n : Nat}, coversB order n = true → ∀ j, j < n → j ∈ order
  | 0, _, j, hj => by omega
  | n + 1, h, j, hj => by
    simp only [coversB, Bool.and_eq_true] at h
    by_cases he : j = n
    · subst he; simpa using h.1
    · exact coversB_mem h.2 j (by omega)

/-- drawn regions are walked -/
theorem draw_ok (hP : ProgOk P) (hR : RecOk P W0 r) : DrawOk P W0 r := by
  intro E h w rd F n vm ops id a x Q S hA hF hne hQ
  unfold cDraw cDrawU at hne hQ
  split at hne
  · rename_i l hcov hpl
    have hrun : runCode r rd (.draw (hasIns ops.toList) l (quietVs l)) a h = runDraw r (quietVs l) (hasIns ops.toList) l none ⟨a.vars, [], a.defers⟩ h := rfl
    simp only [hcov, hpl, hrun] at hne hQ
    refine wpIn_region_any hP.mixed ?_
    obtain ⟨plan, -⟩ := placeGo_plan hpl (fun s hs => by cases hs)
    have I : Inv (hasIns ops.toList) P W0 n vm r ops (quietVs l) Q E h (Array.replicate ops.size false) [] (eager (hasIns ops.toList) ops.toList) l none ⟨a.vars, [], a.defers⟩ ⟨a.vars, [], a.defers⟩ h E x { w with drawn := w.drawn + 1 } := by
      refine ⟨S.world rfl rfl rfl, hA.fresh, rfl, .refl _ _, hne, hQ, by simp, ?_, plan, .nil, ?_, ?_, ?_, fun _ _ => rfl, ?_, (fun t ht => by cases ht), (fun _ => rfl), ?_, ?_, ?_, fun d hd hq u hu => quietVs_mem hd hq u hu⟩
      · intro i o _ hi
        simp only [Array.getD_eq_getD_getElem?, Array.getElem?_replicate] at hi
        split at hi <;> simp at hi
      · intro i hi
        have hlt : i < ops.size := by
          have key : ∀ {u : Bool} {is : List Nat} {l : List XDr} {ps : List Pl}, Plan u P n vm ops.toList is l ps → ∀ j ∈ is, j < ops.size := by
            intro u is l ps hp
            have one : ∀ {ps : List Pl} {p : Pl}, PlOk u P n vm ops.toList ps p → p.i < ops.size := by
              intro ps p hp
              obtain ⟨o, ho, -⟩ := hp.op
              have := (List.getElem?_eq_some_iff.1 ho).1
              simpa using this
            induction hp with
            | nil => intro j hj; cases hj
            | quiet h1 h2 t ih => intro j hj; exact (List.mem_cons.1 hj).elim (fun he => he ▸ one h1) (fun hj => ih j hj)
            | eff h1 h2 h3 h4 t ih => intro j hj; exact (List.mem_cons.1 hj).elim (fun he => he ▸ one h1) (fun hj => ih j hj)
            | two _ h1 h2 t1 t2 _ _ _ _ _ _ _ ih1 ih2 =>
              intro j hj
              simp only [List.mem_cons, List.not_mem_nil, or_false] at hj
              exact hj.elim (fun he => he ▸ one h1) (fun he => he ▸ one h2)
          exact key plan i hi
        simp [Array.getD_eq_getD_getElem?, hlt]
      · intro t ht; cases ht
      · intro j hj; exact .inr (coversB_mem hcov j (by simpa using hj))
      · intro t ht; cases ht
      · intro s hs; cases hs
      · intro t ht; cases ht
      · intro t ht; cases ht
    refine draw_walk hP hR S.dom S.low ops.size _ _ _ _ _ _ _ _ _ _ _ I ?_ hF
    have : ∀ k, cntU (fun j => !(Array.replicate ops.size false).getD j true) k ≤ k := by
      intro k
      induction k with
      | zero => simp [cntU]
      | succ k ih => simp only [cntU]; split <;> omega
    simpa [left] using this ops.size
  · rename_i hno
    exact absurd rfl hne

end
end Go.Ev
