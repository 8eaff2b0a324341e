/- The start; closed calls; answers known beforehand. -/
import Derived.Test.YtbflihggpacblaaGreatDoorEvTop
set_option linter.unusedVariables false
set_option linter.unusedSimpArgs false
namespace Go.Ev
set_option linter.unusedSectionVars false
variable [Sig]

/-- nothing that was there has turned -/
structure Keeps (w w' : World) : Prop where
  os : w'.os = w.os
  out : w'.output = w.output
  size : w.heap.size ≤ w'.heap.size
  block : ∀ k, k < w.heap.size → w'.heap[k]? = w.heap[k]?
omit [Sig] in
theorem Keeps.refl (w : World) : Keeps w w := ⟨rfl, rfl, Nat.le_refl _, fun _ _ => rfl⟩
omit [Sig] in
theorem Keeps.trans {a b c : World} (h : Keeps a b) (k : Keeps b c) : Keeps a c :=
  ⟨k.os.trans h.os, k.out.trans h.out, Nat.le_trans h.size k.size, fun i hi => (k.block i (Nat.lt_of_lt_of_le hi h.size)).trans (h.block i hi)⟩

/-- values without addresses -/
def AV.plainB : AV → Bool
  | .bool _ | .int _ _ | .str _ _ | .nilptr | .nilslice | .nilmap | .nilfunc | .niliface => true
  | _ => false
theorem plain_one {v : AV} (h : v.plainB = true) : v.one = true := by cases v <;> first | rfl | cases h
theorem plain_cv {v : AV} (h : v.plainB = true) (E E' : Env) : cv E v = cv E' v := by cases v <;> first | (cases h; done) | simp [cv]
def allPlain : List AV → Bool
  | [] => true
  | v :: vs => v.plainB && allPlain vs
theorem allPlain_mem : ∀ {l : List AV}, allPlain l = true → ∀ v ∈ l, v.plainB = true
  | [], _, v, hv => by cases hv
  | x :: l, h, v, hv => by
    simp only [allPlain, Bool.and_eq_true] at h
    rcases List.mem_cons.1 hv with rfl | hv
    · exact h.1
    · exact allPlain_mem h.2 v hv
theorem allPlain_cvL : ∀ {l : List AV}, allPlain l = true → ∀ (E E' : Env), cvL E l = cvL E' l
  | [], _, E, E' => by simp [cvL]
  | x :: l, h, E, E' => by
    simp only [allPlain, Bool.and_eq_true] at h
    simp only [cvL, plain_cv h.1 E E', allPlain_cvL h.2 E E']

/-! the start -/
def E00 : Env := fun g => if g < 64 then some ⟨g, 0, 0, none⟩ else none
structure Tab where
  g : Nat
  cs : List AV
  raw : Option Value := none
noncomputable def tabTr : List Tab → Tr Blk
  | [] => .nil
  | t :: ts => (tabTr ts).put t.g (.cells t.cs 0 false true)
noncomputable def hInit (l : List Tab) : H := ⟨64, tabTr l⟩
/-- a table lies in the world -/
def TabOk (w : World) (t : Tab) : Prop := t.g < 64 ∧ ∃ (C : Array Value) (el : TypeId) (fz : Nat × Nat), w.heap[t.g]? = some (.cells C el fz) ∧ t.cs.length ≤ C.size ∧
  (∀ (i : Nat) (v : AV), t.cs[i]? = some v → v.plainB = true ∧ (∃ u, cv E00 v = some u ∧ C[i]? = some u)) ∧ ∀ v, t.raw = some v → C[0]? = some v
def TabsOk (w : World) (l : List Tab) : Prop := ∀ t ∈ l, TabOk w t
theorem TabsOk.keeps {w w' : World} {l : List Tab} (h : TabsOk w l) (k : Keeps w w') : TabsOk w' l := by
  intro t ht
  obtain ⟨h1, C, el, fz, h2, h3, h4⟩ := h t ht
  have hlt : t.g < w.heap.size := by
    rcases Nat.lt_or_ge t.g w.heap.size with h5 | h5
    · exact h5
    · rw [Array.getElem?_eq_none h5] at h2; cases h2
  exact ⟨h1, C, el, fz, by rw [k.block _ hlt]; exact h2, h3, h4⟩
theorem tabTr_get : ∀ (l : List Tab) (b : Nat) (x : Blk), (tabTr l).get b = some x → ∃ t ∈ l, t.g = b ∧ x = .cells t.cs 0 false true
  | [], b, x, h => by rw [tabTr, Tr.get_nil] at h; cases h
  | t :: ts, b, x, h => by
    rw [tabTr, Tr.get_put] at h
    split at h
    · rename_i he; cases h; exact ⟨t, by simp, he.symm, rfl⟩
    · obtain ⟨s, hs, h1, h2⟩ := tabTr_get ts b x h; exact ⟨s, by simp [hs], h1, h2⟩

theorem start_sim {P : Program} {w : World} {l : List Tab} (ht : TabsOk w l) : HSim P w E00 (hInit l) w := by
  have hget : ∀ b x, (hInit l).get b = some x → ∃ t ∈ l, t.g = b ∧ x = .cells t.cs 0 false true := fun b x h => tabTr_get l b x h
  have hE : ∀ b e, E00 b = some e → b < 64 ∧ e = ⟨b, 0, 0, none⟩ := by
    intro b e h
    unfold E00 at h
    split at h
    · cases h; exact ⟨by assumption, rfl⟩
    · cases h
  refine ⟨Nat.le_refl _, fun _ _ => rfl, rfl, rfl, Nat.le_refl _, fun g hg => by simp [E00, hg], fun b e h => (hE b e h).1, ?_, ?_, ?_, ?_, ?_⟩
  · intro b hb
    cases h : (hInit l).get b with
    | none => rfl
    | some x =>
      obtain ⟨t, ht', rfl, -⟩ := hget b x h
      have h64 := (ht t ht').1
      have hb' : 64 ≤ t.g := hb
      omega
  · intro b e x hb hx
    obtain ⟨t, ht', rfl, rfl⟩ := hget b x hx
    obtain ⟨-, rfl⟩ := hE _ e hb
    obtain ⟨-, C, el, fz, h2, h3, h4, -⟩ := ht t ht'
    refine ⟨_, h2, C, el, fz, rfl, (fun h => by cases h), by simpa using h3, ?_, (fun h => by cases h)⟩
    intro i v hv
    obtain ⟨h5, u, hu, hC⟩ := h4 i v hv
    exact ⟨plain_one h5, u, hu, by simpa using hC⟩
  · intro b e x hb hx hw
    obtain ⟨t, -, -, rfl⟩ := hget b x hx
    cases hw
  · intro b e cs el tl hb hx
    obtain ⟨t, ht', rfl, -⟩ := hget b _ hx
    obtain ⟨-, rfl⟩ := hE _ e hb
    obtain ⟨-, C, el, fz, h2, -⟩ := ht t ht'
    show t.g < w.heap.size
    rcases Nat.lt_or_ge t.g w.heap.size with h5 | h5
    · exact h5
    · rw [Array.getElem?_eq_none h5] at h2; cases h2
  · intro b c e f x y hb hc hx hy hxw
    obtain ⟨t, -, -, rfl⟩ := hget b x hx
    cases hxw

theorem HSim.keeps {P : Program} {w w' : World} {E : Env} {h : H} (S : HSim P w E h w') : Keeps w w' := ⟨S.os, S.out, S.size, S.base⟩

/-- a closed call -/
theorem run_sound {P : Program} {w : World} (hP : ProgOk P) {O : Orc} (hO : OrcOk P w O) {l : List Tab} (ht : TabsOk w l) {f : FuncId} {args : List AV} {us : List Value} {n : Nat} {v : AV} {h' : H}
    (hr : (fns P O n).call f args (hInit l) = .val v h') (hu : cvL E00 args = some us) :
    HasBody P f ∧ CallsIn Fence.wide 0 P f us.toArray w (fun e w' => ∃ E' u, e = .returned u ∧ HSim P w E' h' w' ∧ cv E' v = some u) := by
  have ho : Outs ((fns P O n).call f args (hInit l)) := by rw [hr]; trivial
  obtain ⟨h1, h2⟩ := (fns_ok hP hO n).call E00 (hInit l) w f args us (start_sim ht) hu ho
  refine ⟨h1, h2.mono fun e w' he => ?_⟩
  rw [hr] at he
  obtain ⟨E', u, he, -, hs, hv⟩ := he
  exact ⟨E', u, he, hs, hv⟩

/-! answers -/
/-- is it this value? -/
def isV (v : AV) (o : OR) : Bool := match o with
  | .val u _ => AV.beq u v && u.plainB
  | _ => false
/-- is it a new row of these cells? -/
noncomputable def isRow (cs : List AV) (e : TypeId) (n : Nat) (o : OR) : Bool := match o with
  | .val (.slice b 0 m k true) h' => Nat.beq m n && Nat.beq k n && (match h'.get b with | some (.cells ds e' _ false) => AV.beqL ds cs && allPlain ds && Nat.beq e' e | _ => false)
  | _ => false

/-- a closed call yields this value, and nothing that was there turns -/
theorem run_val {P : Program} {w : World} (hP : ProgOk P) {O : Orc} (hO : OrcOk P w O) {l : List Tab} (ht : TabsOk w l) {f : FuncId} {args : List AV} {us : List Value} {n : Nat} {v : AV} {u : Value}
    (hr : isV v ((fns P O n).call f args (hInit l)) = true) (hu : cvL E00 args = some us) (hv : cv E00 v = some u) : Calls P f us.toArray w (fun e w' => e = .returned u ∧ Keeps w w') := by
  cases hc : (fns P O n).call f args (hInit l) with
  | val v' h' =>
    rw [hc] at hr
    simp only [isV, Bool.and_eq_true] at hr
    have := AV.beq_eq _ _ hr.1
    subst this
    obtain ⟨-, h2⟩ := run_sound hP hO ht hc hu
    rw [callsIn_wide] at h2
    refine h2.mono fun e w' he => ?_
    obtain ⟨E', u', rfl, hs, hv'⟩ := he
    rw [plain_cv hr.2 E' E00, hv] at hv'
    cases hv'
    exact ⟨rfl, hs.keeps⟩
  | fail => rw [hc] at hr; cases hr
  | pan _ _ => rw [hc] at hr; cases hr
  | dfr _ _ => rw [hc] at hr; cases hr

/-- the world has grown: what is known of it stays, and a row that another run made is taken over -/
theorem HSim.adopt {P : Program} {W0 w w' : World} {E E' : Env} {h h' : H} (S : HSim P W0 E h w) (S' : HSim P w E' h' w') {b : Nat} {e : Loc} {cs : List AV} {el : TypeId} {tl : Bool} (hb : E' b = some e) (hg : h'.get b = some (.cells cs el tl false)) (hp : allPlain cs = true) :
    HSim P W0 (E.add h.next e) (h.new (.cells cs el false false)) w' := by
  have hf := S.fresh
  have hup := Env.add_up (e := e) hf
  have hget : ∀ c y, (h.new (.cells cs el false false)).get c = some y → (c = h.next ∧ y = .cells cs el false false) ∨ (c ≠ h.next ∧ h.get c = some y) := by
    intro c y hc
    rw [H.get_new] at hc
    split at hc
    · cases hc; exact .inl ⟨by assumption, rfl⟩
    · exact .inr ⟨by assumption, hc⟩
  have hE : ∀ c f, (E.add h.next e) c = some f → (c = h.next ∧ f = e) ∨ (c ≠ h.next ∧ E c = some f) := by
    intro c f hc
    unfold Env.add at hc
    split at hc
    · cases hc; exact .inl ⟨by assumption, rfl⟩
    · exact .inr ⟨by assumption, hc⟩
  have hlt : ∀ c f y, E c = some f → h.get c = some y → f.rb < w.heap.size := by
    intro c f y hc hy
    obtain ⟨o', ho', -⟩ := S.blk c f y hc hy
    rcases Nat.lt_or_ge f.rb w.heap.size with h1 | h1
    · exact h1
    · rw [Array.getElem?_eq_none h1] at ho'; cases ho'
  have hrb := S'.own b e _ hb hg rfl
  refine ⟨Nat.le_trans S.size S'.size, ?_, S'.os.trans S.os, S'.out.trans S.out, by rw [H.next_new]; have := S.low; omega, fun g hg => hup g _ (S.glob g hg), ?_, ?_, ?_, ?_, ?_, ?_⟩
  · intro r hr
    rw [S'.base r (Nat.lt_of_lt_of_le hr S.size)]
    exact S.base r hr
  · intro c f hc
    rw [H.next_new]
    rcases hE c f hc with ⟨rfl, -⟩ | ⟨-, hc'⟩
    · omega
    · have := S.dom c f hc'; omega
  · intro c hc
    rw [H.next_new] at hc
    rw [H.get_new, if_neg (by omega)]
    exact S.top c (by omega)
  · intro c f y hc hy
    rcases hget c y hy with ⟨rfl, rfl⟩ | ⟨hne, hy'⟩
    · rcases hE _ f hc with ⟨-, rfl⟩ | ⟨hne, -⟩
      · obtain ⟨o, ho, C, el', fz, h1, h2, h3, h4, h5⟩ := S'.blk b f _ hb hg
        refine ⟨o, ho, C, el', fz, h1, h2, h3, ?_, fun hh => by cases hh⟩
        intro i v hv
        obtain ⟨q1, u, hu, hC⟩ := h4 i v hv
        have hpl := allPlain_mem hp v (List.mem_of_getElem? hv)
        exact ⟨q1, u, by rw [plain_cv hpl _ E']; exact hu, hC⟩
      · exact absurd rfl hne
    · rcases hE c f hc with ⟨rfl, -⟩ | ⟨-, hc'⟩
      · exact absurd rfl hne
      · obtain ⟨o', ho', hok⟩ := S.blk c f y hc' hy'
        exact ⟨o', by rw [S'.base _ (hlt c f y hc' hy')]; exact ho', hok.up hup⟩
  · intro c f y hc hy hw
    rcases hget c y hy with ⟨rfl, rfl⟩ | ⟨hne, hy'⟩
    · rcases hE _ f hc with ⟨-, rfl⟩ | ⟨hne, -⟩
      · exact Nat.le_trans S.size hrb
      · exact absurd rfl hne
    · rcases hE c f hc with ⟨rfl, -⟩ | ⟨-, hc'⟩
      · exact absurd rfl hne
      · exact S.own c f y hc' hy' hw
  · intro c f cs' el' tl' hc hy
    rcases hget c _ hy with ⟨rfl, h1⟩ | ⟨hne, hy'⟩
    · cases h1
    · rcases hE c f hc with ⟨rfl, -⟩ | ⟨-, hc'⟩
      · exact absurd rfl hne
      · exact S.ronly c f cs' el' tl' hc' hy'
  · intro c d f g y z hc hd hy hz hyw hzw hfg
    rcases hE c f hc with ⟨rfl, rfl⟩ | ⟨hne, hc'⟩
    · rcases hE d g hd with ⟨rfl, rfl⟩ | ⟨hne', hd'⟩
      · rfl
      · rcases hget d z hz with ⟨rfl, -⟩ | ⟨-, hz'⟩
        · exact absurd rfl hne'
        · have := hlt d g z hd' hz'; omega
    · rcases hget c y hy with ⟨rfl, -⟩ | ⟨-, hy'⟩
      · exact absurd rfl hne
      · rcases hE d g hd with ⟨rfl, rfl⟩ | ⟨hne', hd'⟩
        · have := hlt c f y hc' hy'; omega
        · rcases hget d z hz with ⟨rfl, -⟩ | ⟨-, hz'⟩
          · exact absurd rfl hne'
          · exact S.inj c d f g y z hc' hd' hy' hz' hyw hzw hfg

theorem HSim.grown {P : Program} {W0 w w' : World} {E : Env} {h : H} (S : HSim P W0 E h w) (k : Keeps w w') : HSim P W0 E h w' := by
  have hlt : ∀ c f y, E c = some f → h.get c = some y → f.rb < w.heap.size := by
    intro c f y hc hy
    obtain ⟨o', ho', -⟩ := S.blk c f y hc hy
    rcases Nat.lt_or_ge f.rb w.heap.size with h1 | h1
    · exact h1
    · rw [Array.getElem?_eq_none h1] at ho'; cases ho'
  refine ⟨Nat.le_trans S.size k.size, ?_, k.os.trans S.os, k.out.trans S.out, S.low, S.glob, S.dom, S.top, ?_, S.own, S.ronly, S.inj⟩
  · intro r hr
    rw [k.block r (Nat.lt_of_lt_of_le hr S.size)]
    exact S.base r hr
  · intro c f y hc hy
    obtain ⟨o', ho', hok⟩ := S.blk c f y hc hy
    exact ⟨o', by rw [k.block _ (hlt c f y hc hy)]; exact ho', hok⟩

/-- what an answer says: wherever the tables lie -/
def AnsOk (P : Program) (l : List Tab) (f : FuncId) (args : List AV) (ans : Ans) : Prop := HasBody P f ∧ ∀ (W0 : World), TabsOk W0 l → ∀ (E : Env) (h : H) (w : World) (us : List Value), HSim P W0 E h w → cvL E args = some us → Outs (ansRun ans h) →
  CallsIn Fence.wide 0 P f us.toArray w (EndOk P W0 E h (ansRun ans h))

theorem TabsOk.sim {P : Program} {W0 w : World} {E : Env} {h : H} {l : List Tab} (ht : TabsOk W0 l) (S : HSim P W0 E h w) : TabsOk w l := ht.keeps S.keeps

theorem hasBody_of {P : Program} {f : FuncId} (h : (fnOf P f).isSome = true) : HasBody P f := by
  cases hf : fnOf P f with
  | none => rw [hf] at h; cases h
  | some xf => obtain ⟨fn, h1, h2, -⟩ := fnOf_some hf; exact ⟨fn, _, h1, h2⟩

/-- an answer out of a run -/
theorem ans_row {P : Program} (hP : ProgOk P) {O : Orc} {l : List Tab} (hO : ∀ w, TabsOk w l → OrcOk P w O) {f : FuncId} {args : List AV} {n N : Nat} {cs : List AV} {e : TypeId} (hb : (fnOf P f).isSome = true) (hpl : allPlain args = true)
    (hr : isRow cs e n ((fns P O N).call f args (hInit l)) = true) : AnsOk P l f args (.row cs e n) := by
  refine ⟨hasBody_of hb, fun W0 ht E h w us S hu _ => ?_⟩
  have htw := ht.sim S
  cases hc : (fns P O N).call f args (hInit l) with
  | fail => rw [hc] at hr; cases hr
  | pan _ _ => rw [hc] at hr; cases hr
  | dfr _ _ => rw [hc] at hr; cases hr
  | val v h' =>
    rw [hc] at hr
    unfold isRow at hr
    split at hr
    · rename_i b m k h2 heq
      cases heq
      simp only [Bool.and_eq_true] at hr
      obtain ⟨⟨h1, h2⟩, h3⟩ := hr
      have := Nat.eq_of_beq_eq_true h1; subst this
      have := Nat.eq_of_beq_eq_true h2; subst this
      split at h3
      · rename_i ds e' tl hg
        simp only [Bool.and_eq_true] at h3
        obtain ⟨⟨h4, h5⟩, h6⟩ := h3
        have := AV.beqL_eq _ _ h4; subst this
        have := Nat.eq_of_beq_eq_true h6; subst this
        obtain ⟨-, hcalls⟩ := run_sound hP (hO w htw) htw hc (by rw [allPlain_cvL hpl E00 E]; exact hu)
        refine hcalls.mono fun en w' he => ?_
        obtain ⟨E', u, rfl, hs, hv⟩ := he
        simp only [cv] at hv
        split at hv
        · rename_i loc hloc
          simp only [if_true, Option.some.injEq] at hv
          refine ⟨E.add h.next loc, u, rfl, .new S.fresh, S.adopt hs hloc hg h5, ?_⟩
          simp only [cv, add_new, ← hv, if_true]
        · cases hv
      · cases h3
    · cases hr
theorem ans_val {P : Program} (hP : ProgOk P) {O : Orc} {l : List Tab} (hO : ∀ w, TabsOk w l → OrcOk P w O) {f : FuncId} {args : List AV} {N : Nat} {v : AV} (hb : (fnOf P f).isSome = true) (hpl : allPlain args = true)
    (hr : isV v ((fns P O N).call f args (hInit l)) = true) : AnsOk P l f args (.val v) := by
  refine ⟨hasBody_of hb, fun W0 ht E h w us S hu _ => ?_⟩
  have htw := ht.sim S
  cases hc : (fns P O N).call f args (hInit l) with
  | fail => rw [hc] at hr; cases hr
  | pan _ _ => rw [hc] at hr; cases hr
  | dfr _ _ => rw [hc] at hr; cases hr
  | val v' h' =>
    rw [hc] at hr
    simp only [isV, Bool.and_eq_true] at hr
    have := AV.beq_eq _ _ hr.1
    subst this
    obtain ⟨-, hcalls⟩ := run_sound hP (hO w htw) htw hc (by rw [allPlain_cvL hpl E00 E]; exact hu)
    refine hcalls.mono fun en w' he => ?_
    obtain ⟨E', u, rfl, hs, hv⟩ := he
    exact ⟨E, u, rfl, .refl _ _, S.grown hs.keeps, by rw [plain_cv hr.2 E E']; exact hv⟩

theorem noOrc_ok {P : Program} {W0 : World} : OrcOk P W0 noOrc := fun f args ans h => by cases h

end Go.Ev
