/- Operations that call; regions in their written order. -/
import Derived.Test.YtbflihggpacblaaGreatDoorEvOp
import Derived.RangeFuncIn
set_option linter.unusedVariables false
set_option linter.unusedSimpArgs false
namespace Go.Ev
set_option linter.unusedSectionVars false
variable [Sig]

structure ProgOk (P : Program) : Prop where
  plain : ∀ (f : FuncId) (fn : Func), P.funcs[f]? = some fn → fn.body.isSome = true → (fn.name == "runtime.NumGoroutine") = false
  mixed : P.follows .mixedOrders = true

/-- what a call's or a round's ending says -/
def EndOk (P : Program) (W0 : World) (E : Env) (h : H) : OR → Ending → World → Prop
  | .val v h', e, w' => ∃ E' u, e = .returned u ∧ Trans E h E' h' ∧ HSim P W0 E' h' w' ∧ cv E' v = some u
  | .pan c h', e, w' => ∃ E' ch, e = .panicked ch ∧ Trans E h E' h' ∧ HSim P W0 E' h' w' ∧ ChOk E' c ch
  | _, _, _ => False

def HasBody (P : Program) (f : FuncId) : Prop := ∃ fn c, P.funcs[f]? = some fn ∧ fn.body = some c

def Outs : OR → Prop
  | .val _ _ => True
  | .pan _ _ => True
  | _ => False

def RdOk (E : Env) : Option Nat → Fence → Prop
  | none, F => F = Fence.wide
  | some l, F => ∃ e, E l = some e ∧ F = Fence.wide.inRound e.rb
theorem RdOk.up {E E' : Env} (hE : ∀ b e, E b = some e → E' b = some e) : ∀ {rd : Option Nat} {F : Fence}, RdOk E rd F → RdOk E' rd F
  | none, _, hh => hh
  | some l, _, ⟨e, h1, h2⟩ => ⟨e, hE _ _ h1, h2⟩
theorem RdOk.fn {E : Env} {rd : Option Nat} {F : Fence} (hF : RdOk E rd F) (f : FuncId) : F.fn f := by
  cases rd with
  | none => cases hF; trivial
  | some l => obtain ⟨e, -, rfl⟩ := hF; trivial
theorem RdOk.depth {E : Env} {rd : Option Nat} {F : Fence} (hF : RdOk E rd F) : F.depth = none := by
  cases rd with
  | none => cases hF; rfl
  | some l => obtain ⟨e, -, rfl⟩ := hF; rfl
theorem RdOk.room {E : Env} {rd : Option Nat} {F : Fence} (hF : RdOk E rd F) (k : Nat) : F.room k := by
  intro d hd
  rw [hF.depth] at hd
  cases hd
theorem RdOk.calls {E : Env} {rd : Option Nat} {F : Fence} (hF : RdOk E rd F) {P : Program} {f : FuncId} {args : Array Value} {w : World} {R : Ending → World → Prop} (hc : CallsIn Fence.wide 0 P f args w R) :
    CallsIn F 0 P f args w R := by
  cases rd with
  | none => cases hF; exact hc
  | some l => obtain ⟨e, -, rfl⟩ := hF; exact hc
theorem RdOk.rounds {E : Env} {rd : Option Nat} {F : Fence} (hF : RdOk E rd F) {P : Program} {l : Nat} {f : FuncId} {tmps : Array Value} {asg body : Code} {w : World} {R : Ending → World → Prop}
    (hc : RoundIn Fence.wide 0 P l f tmps asg body w R) : RoundIn F 0 P l f tmps asg body w R := by
  cases rd with
  | none => cases hF; exact hc
  | some l => obtain ⟨e, -, rfl⟩ := hF; exact hc

/-- how a piece of code ends -/
def CROk (P : Program) (W0 : World) (E : Env) (h : H) (n vm : Nat) : CR → Exit → Act → World → Prop
  | .normal a' h', .normal, x', w' => ∃ E', Trans E h E' h' ∧ HSim P W0 E' h' w' ∧ ASim E' n vm a' x'
  | .exit id a' h', .exit id', x', w' => id = id' ∧ ∃ E', Trans E h E' h' ∧ HSim P W0 E' h' w' ∧ ASim E' n vm a' x'
  | .goto l a' h', .goto l', x', w' => l = l' ∧ ∃ E', Trans E h E' h' ∧ HSim P W0 E' h' w' ∧ ASim E' n vm a' x'
  | .ret a' h', .ret, x', w' => ∃ E', Trans E h E' h' ∧ HSim P W0 E' h' w' ∧ ASim E' n vm a' x'
  | .pan c a' h', .panic ch, x', w' => ∃ E', Trans E h E' h' ∧ HSim P W0 E' h' w' ∧ ASim E' n vm a' x' ∧ ChOk E' c ch
  | _, _, _, _ => False
theorem CROk.pre {P : Program} {W0 : World} {E E1 : Env} {h h1 : H} {n vm : Nat} (t : Trans E h E1 h1) : ∀ {cr : CR} {e : Exit} {x : Act} {w : World}, CROk P W0 E1 h1 n vm cr e x w → CROk P W0 E h n vm cr e x w := by
  intro cr e x w hc
  cases cr <;> cases e <;> simp only [CROk] at hc ⊢ <;> try exact hc
  · obtain ⟨E', h1, h2⟩ := hc; exact ⟨E', t.trans h1, h2⟩
  · obtain ⟨h0, E', h1, h2⟩ := hc; exact ⟨h0, E', t.trans h1, h2⟩
  · obtain ⟨h0, E', h1, h2⟩ := hc; exact ⟨h0, E', t.trans h1, h2⟩
  · obtain ⟨E', h1, h2⟩ := hc; exact ⟨E', t.trans h1, h2⟩
  · obtain ⟨E', h1, h2⟩ := hc; exact ⟨E', t.trans h1, h2⟩

/-- inside a loop: the body is about to run, the loop's mark behind it -/
def wpLoop (F : Fence) (P : Program) (c : Code) (Q : Exit → Act → World → Prop) (a : Act) (w : World) : Prop :=
  ∀ (b : Frame) (k : List Item) (cs : List Frame), b.roundOf = F.round → F.fn b.fn → F.room (cs.length + 1 + 0) →
    ∃ e a' w', Q e a' w' ∧ ArrivesIn (Machine.fenced P F) P (lone (b.atR a (.code c :: .inLoop c :: k)) cs w) b k cs e a' w'

structure RecOk (P : Program) (W0 : World) (r : Rec) : Prop where
  call : ∀ (E : Env) (h : H) (w : World) (f : FuncId) (args : List AV) (us : List Value), HSim P W0 E h w → cvL E args = some us → Outs (r.call f args h) →
    HasBody P f ∧ CallsIn Fence.wide 0 P f us.toArray w (EndOk P W0 E h (r.call f args h))
  yield : ∀ (E : Env) (h : H) (w : World) (l : Nat) (e : Loc) (args : List AV) (us : List Value), HSim P W0 E h w → E l = some e → cvL E args = some us → Outs (r.yield l args h) →
    ∃ f tmps asg body, (Instr.yield e.rb us.toArray).run P w = .ok (.round e.rb f tmps asg body) w ∧ RoundIn Fence.wide 0 P e.rb f tmps asg body w (EndOk P W0 E h (r.yield l args h))
  callD : ∀ (f : FuncId) (args : List AV) (h : H) (d : ADef) (h' : H), r.call f args h ≠ .dfr d h'
  yieldD : ∀ (l : Nat) (args : List AV) (h : H) (d : ADef) (h' : H), r.yield l args h ≠ .dfr d h'
  loop : ∀ (E : Env) (h : H) (w : World) (rd : Option Nat) (F : Fence) (n vm : Nat) (c : Code) (a : A) (x : Act), HSim P W0 E h w → ASim E n vm a x → RdOk E rd F → r.loop rd (cCode P n vm c) a h ≠ .fail →
    wpLoop F P c (CROk P W0 E h n vm (r.loop rd (cCode P n vm c) a h)) x w

section
variable {P : Program} {W0 : World} {E : Env} {h : H} {w : World} {n vm : Nat} {a : A} {x : Act} {r : Rec} {rd : Option Nat} {F : Fence}

theorem callFunc_run (hP : ProgOk P) {f : FuncId} (hb : HasBody P f) (args : Array Value) : (callFunc f args).run P w = .ok (.enter f args) w := by
  obtain ⟨fn, c, hf, hc⟩ := hb
  have hn := hP.plain f fn hf (by simp [hc])
  have hn' : fn.name ≠ "runtime.NumGoroutine" := by simpa using hn
  simp [callFunc, program, Sem.run, hf, hn', hc]

/-- the forms of an operation that calls -/
theorem call_form {c : Call} {f : XO} {args : List XO} (hc : cCall P vm c = some (.call f args)) : ∃ g, c.callee = .value g ∧ cO vm g = some f ∧ cOs vm c.args.toList = some args := by
  unfold cCall at hc
  split at hc
  · (repeat' split at hc) <;> cases hc
  · rename_i g hne hg
    split at hc
    · rename_i gx l h1 h2; cases hc; exact ⟨g, hg, h1, h2⟩
    · cases hc
  all_goals ((repeat' split at hc) <;> cases hc)
theorem callF_form {c : Call} {f : FuncId} {args : List XO} (hc : cCall P vm c = some (.callF f args)) : c.callee = .value (.func f) ∧ cOs vm c.args.toList = some args := by
  unfold cCall at hc
  split at hc
  · rename_i g hg
    split at hc
    · rename_i l h2; cases hc; exact ⟨hg, h2⟩
    · cases hc
  all_goals ((repeat' split at hc) <;> cases hc)
theorem cOp_call_form {op : Op} {f : XO} {args : List XO} (hc : cOp P vm op = some (.call f args)) : ∃ c, op = .call c ∧ cCall P vm c = some (.call f args) := by
  cases op <;> simp only [cOp] at hc <;> try (cases hc; done)
  case call c => exact ⟨c, rfl, hc⟩
  case slice t p lo hi mx => cases mx <;> simp only at hc <;> (repeat' split at hc) <;> cases hc
  case makeMap t r' => cases r' <;> cases hc
  case next it isS => cases isS <;> simp only at hc <;> (repeat' split at hc) <;> cases hc
  all_goals ((repeat' split at hc) <;> cases hc)
theorem cOp_callF_form {op : Op} {f : FuncId} {args : List XO} (hc : cOp P vm op = some (.callF f args)) : ∃ c, op = .call c ∧ cCall P vm c = some (.callF f args) := by
  cases op <;> simp only [cOp] at hc <;> try (cases hc; done)
  case call c => exact ⟨c, rfl, hc⟩
  case slice t p lo hi mx => cases mx <;> simp only at hc <;> (repeat' split at hc) <;> cases hc
  case makeMap t r' => cases r' <;> cases hc
  case next it isS => cases isS <;> simp only at hc <;> (repeat' split at hc) <;> cases hc
  all_goals ((repeat' split at hc) <;> cases hc)
theorem cOp_dfr_form {op : Op} {f : XO} {args : List XO} (hc : cOp P vm op = some (.dfr f args)) : ∃ c g, op = .defer c ∧ c.callee = .value g ∧ cO vm g = some f ∧ cOs vm c.args.toList = some args := by
  cases op <;> simp only [cOp] at hc <;> try (cases hc; done)
  case defer c =>
    split at hc
    · rename_i g hg
      split at hc
      · rename_i gx l h1 h2; cases hc; exact ⟨c, g, rfl, hg, h1, h2⟩
      · cases hc
    · cases hc
  case call c =>
    unfold cCall at hc
    (repeat' split at hc) <;> cases hc
  case slice t p lo hi mx => cases mx <;> simp only at hc <;> (repeat' split at hc) <;> cases hc
  case makeMap t r' => cases r' <;> cases hc
  case next it isS => cases isS <;> simp only at hc <;> (repeat' split at hc) <;> cases hc
  all_goals ((repeat' split at hc) <;> cases hc)

theorem ofO_dfr {o : Option AV} {d : ADef} {h' : H} (hr : ofO o h = .dfr d h') : False := by
  unfold ofO at hr
  split at hr <;> cases hr
theorem runOp_dfr {xop : XOp} {d : ADef} {h' : H} (hr : runOp xop r a h = .dfr d h') (hcall : ∀ f args, xop ≠ .call f args) (hcallF : ∀ f args, xop ≠ .callF f args) :
    ∃ f args g fs cs l, xop = .dfr f args ∧ h' = h ∧ getX f a = some (.func (.func g) fs cs) ∧ getXs a args = some l ∧ d = .call g (fs ++ (l ++ cs)) := by
  cases xop with
  | dfr f args =>
    have hr' : rDfr f args a h = .dfr d h' := hr
    unfold rDfr at hr'
    split at hr'
    · rename_i g fs cs l h1 h2; cases hr'; exact ⟨f, args, g, fs, cs, l, rfl, rfl, h1, h2, rfl⟩
    · cases hr'
  | call f args => exact absurd rfl (hcall f args)
  | callF f args => exact absurd rfl (hcallF f args)
  | bad => cases hr
  | mv z0 =>
    have hr' : rMv z0 a h = .dfr d h' := hr
    unfold rMv at hr'
    (repeat' split at hr') <;> first | (cases hr'; done) | (exact (ofO_dfr hr').elim) | (simp only [frc_eq] at hr'; cases hr'; done)
  | pick z0 z1 z2 =>
    have hr' : rPick z0 z1 z2 a h = .dfr d h' := hr
    unfold rPick at hr'
    (repeat' split at hr') <;> first | (cases hr'; done) | (exact (ofO_dfr hr').elim) | (simp only [frc_eq] at hr'; cases hr'; done)
  | new z0 z1 =>
    have hr' : rNew z0 z1 a h = .dfr d h' := hr
    unfold rNew at hr'
    (repeat' split at hr') <;> first | (cases hr'; done) | (exact (ofO_dfr hr').elim) | (simp only [frc_eq] at hr'; cases hr'; done)
  | box z0 z1 =>
    have hr' : rBox z0 z1 a h = .dfr d h' := hr
    unfold rBox at hr'
    (repeat' split at hr') <;> first | (cases hr'; done) | (exact (ofO_dfr hr').elim) | (simp only [frc_eq] at hr'; cases hr'; done)
  | build z0 z1 =>
    have hr' : rBuild z0 z1 a h = .dfr d h' := hr
    unfold rBuild at hr'
    (repeat' split at hr') <;> first | (cases hr'; done) | (exact (ofO_dfr hr').elim) | (simp only [frc_eq] at hr'; cases hr'; done)
  | buildS z0 z1 z2 z3 =>
    have hr' : rBuildS z0 z1 z2 z3 a h = .dfr d h' := hr
    unfold rBuildS at hr'
    (repeat' split at hr') <;> first | (cases hr'; done) | (exact (ofO_dfr hr').elim) | (simp only [frc_eq] at hr'; cases hr'; done)
  | ld z0 z1 z2 =>
    have hr' : rLd z0 z1 z2 a h = .dfr d h' := hr
    unfold rLd at hr'
    (repeat' split at hr') <;> first | (cases hr'; done) | (exact (ofO_dfr hr').elim) | (simp only [frc_eq] at hr'; cases hr'; done)
  | st z0 z1 z2 =>
    have hr' : rSt z0 z1 z2 a h = .dfr d h' := hr
    unfold rSt at hr'
    (repeat' split at hr') <;> first | (cases hr'; done) | (exact (ofO_dfr hr').elim) | (simp only [frc_eq] at hr'; cases hr'; done)
  | nilc z0 =>
    have hr' : rNilc z0 a h = .dfr d h' := hr
    unfold rNilc at hr'
    (repeat' split at hr') <;> first | (cases hr'; done) | (exact (ofO_dfr hr').elim) | (simp only [frc_eq] at hr'; cases hr'; done)
  | bin z0 z1 z2 z3 z4 =>
    have hr' : rBin z0 z1 z2 z3 z4 a h = .dfr d h' := hr
    unfold rBin at hr'
    (repeat' split at hr') <;> first | (cases hr'; done) | (exact (ofO_dfr hr').elim) | (simp only [frc_eq] at hr'; cases hr'; done)
  | un z0 z1 =>
    have hr' : rUn z0 z1 a h = .dfr d h' := hr
    unfold rUn at hr'
    (repeat' split at hr') <;> first | (cases hr'; done) | (exact (ofO_dfr hr').elim) | (simp only [frc_eq] at hr'; cases hr'; done)
  | conv z0 z1 =>
    have hr' : rConv z0 z1 a h = .dfr d h' := hr
    unfold rConv at hr'
    (repeat' split at hr') <;> first | (cases hr'; done) | (exact (ofO_dfr hr').elim) | (simp only [frc_eq] at hr'; cases hr'; done)
  | convS z0 =>
    have hr' : rConvS z0 a h = .dfr d h' := hr
    unfold rConvS at hr'
    (repeat' split at hr') <;> first | (cases hr'; done) | (exact (ofO_dfr hr').elim) | (simp only [frc_eq] at hr'; cases hr'; done)
  | convB z0 =>
    have hr' : rConvB z0 a h = .dfr d h' := hr
    unfold rConvB at hr'
    (repeat' split at hr') <;> first | (cases hr'; done) | (exact (ofO_dfr hr').elim) | (simp only [frc_eq] at hr'; cases hr'; done)
  | mkI z0 z1 =>
    have hr' : rMkI z0 z1 a h = .dfr d h' := hr
    unfold rMkI at hr'
    (repeat' split at hr') <;> first | (cases hr'; done) | (exact (ofO_dfr hr').elim) | (simp only [frc_eq] at hr'; cases hr'; done)
  | mkF z0 z1 z2 =>
    have hr' : rMkF z0 z1 z2 a h = .dfr d h' := hr
    unfold rMkF at hr'
    (repeat' split at hr') <;> first | (cases hr'; done) | (exact (ofO_dfr hr').elim) | (simp only [frc_eq] at hr'; cases hr'; done)
  | mkM  =>
    have hr' : rMkM  a h = .dfr d h' := hr
    unfold rMkM at hr'
    (repeat' split at hr') <;> first | (cases hr'; done) | (exact (ofO_dfr hr').elim) | (simp only [frc_eq] at hr'; cases hr'; done)
  | mkS z0 z1 z2 z3 z4 z5 =>
    have hr' : rMkS z0 z1 z2 z3 z4 z5 a h = .dfr d h' := hr
    unfold rMkS at hr'
    (repeat' split at hr') <;> first | (cases hr'; done) | (exact (ofO_dfr hr').elim) | (simp only [frc_eq] at hr'; cases hr'; done)
  | slStr z0 z1 z2 =>
    have hr' : rSlStr z0 z1 z2 a h = .dfr d h' := hr
    unfold rSlStr at hr'
    (repeat' split at hr') <;> first | (cases hr'; done) | (exact (ofO_dfr hr').elim) | (simp only [frc_eq] at hr'; cases hr'; done)
  | slSl z0 z1 z2 z3 =>
    have hr' : rSlSl z0 z1 z2 z3 a h = .dfr d h' := hr
    unfold rSlSl at hr'
    (repeat' split at hr') <;> first | (cases hr'; done) | (exact (ofO_dfr hr').elim) | (simp only [frc_eq] at hr'; cases hr'; done)
  | slArr z0 z1 z2 z3 z4 =>
    have hr' : rSlArr z0 z1 z2 z3 z4 a h = .dfr d h' := hr
    unfold rSlArr at hr'
    (repeat' split at hr') <;> first | (cases hr'; done) | (exact (ofO_dfr hr').elim) | (simp only [frc_eq] at hr'; cases hr'; done)
  | fa z0 z1 =>
    have hr' : rFa z0 z1 a h = .dfr d h' := hr
    unfold rFa at hr'
    (repeat' split at hr') <;> first | (cases hr'; done) | (exact (ofO_dfr hr').elim) | (simp only [frc_eq] at hr'; cases hr'; done)
  | fld z0 z1 z2 z3 =>
    have hr' : rFld z0 z1 z2 z3 a h = .dfr d h' := hr
    unfold rFld at hr'
    (repeat' split at hr') <;> first | (cases hr'; done) | (exact (ofO_dfr hr').elim) | (simp only [frc_eq] at hr'; cases hr'; done)
  | ia z0 z1 z2 =>
    have hr' : rIa z0 z1 z2 a h = .dfr d h' := hr
    unfold rIa at hr'
    (repeat' split at hr') <;> first | (cases hr'; done) | (exact (ofO_dfr hr').elim) | (simp only [frc_eq] at hr'; cases hr'; done)
  | iaArr z0 z1 z2 z3 =>
    have hr' : rIaArr z0 z1 z2 z3 a h = .dfr d h' := hr
    unfold rIaArr at hr'
    (repeat' split at hr') <;> first | (cases hr'; done) | (exact (ofO_dfr hr').elim) | (simp only [frc_eq] at hr'; cases hr'; done)
  | ixS z0 z1 =>
    have hr' : rIxS z0 z1 a h = .dfr d h' := hr
    unfold rIxS at hr'
    (repeat' split at hr') <;> first | (cases hr'; done) | (exact (ofO_dfr hr').elim) | (simp only [frc_eq] at hr'; cases hr'; done)
  | ixA z0 z1 z2 =>
    have hr' : rIxA z0 z1 z2 a h = .dfr d h' := hr
    unfold rIxA at hr'
    (repeat' split at hr') <;> first | (cases hr'; done) | (exact (ofO_dfr hr').elim) | (simp only [frc_eq] at hr'; cases hr'; done)
  | look z0 z1 z2 z3 z4 =>
    have hr' : rLook z0 z1 z2 z3 z4 a h = .dfr d h' := hr
    unfold rLook at hr'
    (repeat' split at hr') <;> first | (cases hr'; done) | (exact (ofO_dfr hr').elim) | (simp only [frc_eq] at hr'; cases hr'; done)
  | upd z0 z1 z2 z3 =>
    have hr' : rUpd z0 z1 z2 z3 a h = .dfr d h' := hr
    unfold rUpd at hr'
    (repeat' split at hr') <;> first | (cases hr'; done) | (exact (ofO_dfr hr').elim) | (simp only [frc_eq] at hr'; cases hr'; done)
  | ins z0 z1 z2 z3 =>
    have hr' : rUpd z0 z1 z2 z3 a h = .dfr d h' := hr
    unfold rUpd at hr'
    (repeat' split at hr') <;> first | (cases hr'; done) | (exact (ofO_dfr hr').elim) | (simp only [frc_eq] at hr'; cases hr'; done)
  | ext z0 z1 =>
    have hr' : rExt z0 z1 a h = .dfr d h' := hr
    unfold rExt at hr'
    (repeat' split at hr') <;> first | (cases hr'; done) | (exact (ofO_dfr hr').elim) | (simp only [frc_eq] at hr'; cases hr'; done)
  | ta z0 z1 z2 z3 =>
    have hr' : rTa z0 z1 z2 z3 a h = .dfr d h' := hr
    unfold rTa at hr'
    (repeat' split at hr') <;> first | (cases hr'; done) | (exact (ofO_dfr hr').elim) | (simp only [frc_eq] at hr'; cases hr'; done)
  | len z0 z1 =>
    have hr' : rLen z0 z1 a h = .dfr d h' := hr
    unfold rLen at hr'
    (repeat' split at hr') <;> first | (cases hr'; done) | (exact (ofO_dfr hr').elim) | (simp only [frc_eq] at hr'; cases hr'; done)
  | lenN z0 =>
    have hr' : rLenN z0 a h = .dfr d h' := hr
    unfold rLenN at hr'
    (repeat' split at hr') <;> first | (cases hr'; done) | (exact (ofO_dfr hr').elim) | (simp only [frc_eq] at hr'; cases hr'; done)
  | capS z0 =>
    have hr' : rCapS z0 a h = .dfr d h' := hr
    unfold rCapS at hr'
    (repeat' split at hr') <;> first | (cases hr'; done) | (exact (ofO_dfr hr').elim) | (simp only [frc_eq] at hr'; cases hr'; done)
  | app z0 z1 z2 z3 z4 =>
    have hr' : rApp z0 z1 z2 z3 z4 a h = .dfr d h' := hr
    unfold rApp at hr'
    (repeat' split at hr') <;> first | (cases hr'; done) | (exact (ofO_dfr hr').elim) | (simp only [frc_eq] at hr'; cases hr'; done)
  | appZ z0 z1 z2 z3 z4 z5 =>
    have hr' : rAppZ z0 z1 z2 z3 z4 z5 a h = .dfr d h' := hr
    unfold rAppZ at hr'
    (repeat' split at hr') <;> first | (cases hr'; done) | (exact (ofO_dfr hr').elim) | (simp only [frc_eq] at hr'; cases hr'; done)
  | max z0 z1 =>
    have hr' : rMax z0 z1 a h = .dfr d h' := hr
    unfold rMax at hr'
    (repeat' split at hr') <;> first | (cases hr'; done) | (exact (ofO_dfr hr').elim) | (simp only [frc_eq] at hr'; cases hr'; done)
  | min z0 z1 =>
    have hr' : rMin z0 z1 a h = .dfr d h' := hr
    unfold rMin at hr'
    (repeat' split at hr') <;> first | (cases hr'; done) | (exact (ofO_dfr hr').elim) | (simp only [frc_eq] at hr'; cases hr'; done)
  | rngS z0 =>
    have hr' : rRngS z0 a h = .dfr d h' := hr
    unfold rRngS at hr'
    (repeat' split at hr') <;> first | (cases hr'; done) | (exact (ofO_dfr hr').elim) | (simp only [frc_eq] at hr'; cases hr'; done)
  | nextS z0 =>
    have hr' : rNextS z0 a h = .dfr d h' := hr
    unfold rNextS at hr'
    (repeat' split at hr') <;> first | (cases hr'; done) | (exact (ofO_dfr hr').elim) | (simp only [frc_eq] at hr'; cases hr'; done)
  | pan z0 =>
    have hr' : rPan z0 a h = .dfr d h' := hr
    unfold rPan at hr'
    (repeat' split at hr') <;> first | (cases hr'; done) | (exact (ofO_dfr hr').elim) | (simp only [frc_eq] at hr'; cases hr'; done)

/-- one operation, whatever it is -/
theorem oper_sound (hP : ProgOk P) (hR : RecOk P W0 r) (S : HSim P W0 E h w) (hA : ASim E n vm a x) (hF : RdOk E rd F) {o : Oper} {xop : XOp} {xd : XD} (hc : cOp P vm o.op = some xop) (hd : cDst n vm o.dst = some xd)
    {K : A → H → CR} {next : Act → World → Prop} {Q : Exit → Act → World → Prop} (hcr : orK rd xd a K (runOp xop r a h) ≠ .fail)
    (hnext : ∀ E' a' h' x' w', Trans E h E' h' → HSim P W0 E' h' w' → ASim E' n vm a' x' → K a' h' = orK rd xd a K (runOp xop r a h) → next x' w')
    (hpan : ∀ c h' E' ch w', orK rd xd a K (runOp xop r a h) = .pan c a h' → Trans E h E' h' → HSim P W0 E' h' w' → ASim E' n vm a x → ChOk E' c ch → Q (.panic ch) x w') :
    o.wpIn F 0 P x w next Q := by
  refine ⟨fun f _ => hF.fn f, ?_⟩
  have hdep : F.depth.isSome = true → 1 ≤ 0 := fun hh => by rw [hF.depth] at hh; cases hh
  -- what an ending of a call leads to
  have hend : ∀ (oo : OR), runOp xop r a h = oo → ∀ e w', EndOk P W0 E h oo e w' → (match e with
      | .returned v => next (x.put o.dst v) w'
      | .panicked chain => Q (.panic chain) x w'
      | .outgrown => LetsOut Q) := by
    intro oo hoo e w' he
    cases oo with
    | fail => exact he.elim
    | dfr d h' => exact he.elim
    | val v h' =>
      obtain ⟨E', u, rfl, ht, hs, hv⟩ := he
      exact hnext E' _ h' _ w' ht hs (put_sound (hA.up ht.up) hd hv) (by rw [hoo]; rfl)
    | pan c h' =>
      obtain ⟨E', ch, rfl, ht, hs, hv⟩ := he
      exact hpan c h' E' ch w' (by rw [hoo]; rfl) ht hs (hA.up ht.up) hv
  by_cases hcall : ∃ f args, xop = .call f args
  · obtain ⟨f, args, rfl⟩ := hcall
    obtain ⟨c, ho, hcc⟩ := cOp_call_form hc
    obtain ⟨g, hg, hgx, hax⟩ := call_form hcc
    have hsem : o.semAt F.round x.eval = execOp x.eval o := Oper.semAt_eq _ _ _ (by rw [ho]; intro c hc'; cases hc')
    rw [hsem]
    have hrun : runOp (.call f args) r a h = rCall f args r a h := rfl
    have hcase : (∃ gg fs cs l, getX f a = some (.func (.func gg) fs cs) ∧ getXs a args = some l ∧ rCall f args r a h = r.call gg (fs ++ (l ++ cs)) h) ∨
        (∃ y l, getX f a = some (.yield y) ∧ getXs a args = some l ∧ rCall f args r a h = r.yield y l h) ∨ rCall f args r a h = .fail := by
      unfold rCall
      split
      · rename_i gg fs cs l h1 h2; exact .inl ⟨gg, fs, cs, l, h1, h2, rfl⟩
      · rename_i y l h1 h2; exact .inr (.inl ⟨y, l, h1, h2, rfl⟩)
      · exact .inr (.inr rfl)
    have houts : Outs (rCall f args r a h) ∨ (∃ d h', rCall f args r a h = .dfr d h') ∨ rCall f args r a h = .fail := by
      cases rCall f args r a h with
      | fail => exact .inr (.inr rfl)
      | val v h' => exact .inl trivial
      | pan c h' => exact .inl trivial
      | dfr d h' => exact .inr (.inl ⟨d, h', rfl⟩)
    have hnf : rCall f args r a h ≠ .fail := fun hf => by
      rw [hrun, hf] at hcr; exact hcr rfl
    rcases hcase with ⟨gg, fs, cs, l, h1, h2, h3⟩ | ⟨y, l, h1, h2, h3⟩ | h3
    · obtain ⟨lf, lc, hlf, hlc, heq⟩ := cv_func (opr_sound S hA hgx h1)
      have hargs := oprs_sound S hA hax h2
      have hall : cvL E (fs ++ (l ++ cs)) = some (lf ++ (c.args.toList.map x.eval ++ lc)) := cvL_append hlf (cvL_append hargs hlc)
      rcases houts with hout | ⟨d, h', hdf⟩ | hf
      · rw [h3] at hout
        obtain ⟨hbody, hcalls⟩ := hR.call E h w gg _ _ S hall hout
        have hex : (execOp x.eval o).run P w = .ok (.enter gg (lf ++ (c.args.toList.map x.eval ++ lc)).toArray) w := by
          have harr : (lf.toArray ++ c.args.map x.eval) ++ lc.toArray = (lf ++ (c.args.toList.map x.eval ++ lc)).toArray := by apply Array.ext'; simp
          simp [execOp, ho, resolve, hg, heq, Deferred.ofValue, invoke, harr, callFunc_run hP hbody]
        rw [hex]
        simp only [Oper.uponIn]
        refine ⟨hdep, hF.calls (hcalls.mono fun e w' he => ?_)⟩
        have := hend _ (by rw [hrun, h3]) e w' he
        cases e <;> exact this
      · exact absurd (h3 ▸ hdf) (hR.callD _ _ _ _ _)
      · exact absurd hf hnf
    · have hyv := opr_sound S hA hgx h1
      have hy' : ∃ e, E y = some e ∧ x.eval g = .func (.yield e.rb) #[] #[] := by
        simp only [cv] at hyv
        split at hyv
        · rename_i e he; simp only [Option.some.injEq] at hyv; exact ⟨e, he, hyv.symm⟩
        · cases hyv
      obtain ⟨e, he, heq⟩ := hy'
      have hargs := oprs_sound S hA hax h2
      rcases houts with hout | ⟨d, h', hdf⟩ | hf
      · rw [h3] at hout
        obtain ⟨ff, tmps, asg, body, hyr, hround⟩ := hR.yield E h w y e l _ S he hargs hout
        have hex : (execOp x.eval o).run P w = .ok (.round e.rb ff tmps asg body) w := by
          have harr : (c.args.toList.map x.eval).toArray = c.args.map x.eval := by apply Array.ext'; simp
          rw [harr] at hyr
          simp [execOp, ho, resolve, hg, heq, Deferred.ofValue, invoke, hyr]
        rw [hex]
        simp only [Oper.uponIn]
        refine ⟨hdep, hF.rounds (hround.mono fun e w' he => ?_)⟩
        have := hend _ (by rw [hrun, h3]) e w' he
        cases e <;> exact this
      · exact absurd (h3 ▸ hdf) (hR.yieldD _ _ _ _ _)
      · exact absurd hf hnf
    · exact absurd h3 hnf
  · have hcall' : ∀ f args, xop ≠ .call f args := fun f args he => hcall ⟨f, args, he⟩
    by_cases hcallF : ∃ f args, xop = .callF f args
    · obtain ⟨f, args, rfl⟩ := hcallF
      obtain ⟨c, ho, hcc⟩ := cOp_callF_form hc
      obtain ⟨hg, hax⟩ := callF_form hcc
      have hsem : o.semAt F.round x.eval = execOp x.eval o := Oper.semAt_eq _ _ _ (by rw [ho]; intro c hc'; cases hc')
      rw [hsem]
      have hrun : runOp (.callF f args) r a h = rCallF f args r a h := rfl
      have hcase : (∃ l, getXs a args = some l ∧ rCallF f args r a h = r.call f l h) ∨ rCallF f args r a h = .fail := by
        unfold rCallF
        split
        · rename_i l h2; exact .inl ⟨l, h2, rfl⟩
        · exact .inr rfl
      have hnf : rCallF f args r a h ≠ .fail := fun hf => by
        rw [hrun, hf] at hcr; exact hcr rfl
      rcases hcase with ⟨l, h2, h3⟩ | h3
      · have hargs := oprs_sound S hA hax h2
        have hout : Outs (r.call f l h) := by
          rw [h3] at hnf
          cases hoo : r.call f l h with
          | fail => exact absurd hoo hnf
          | val v h' => trivial
          | pan c h' => trivial
          | dfr d h' => exact absurd hoo (hR.callD _ _ _ _ _)
        obtain ⟨hbody, hcalls⟩ := hR.call E h w f _ _ S hargs hout
        have hex : (execOp x.eval o).run P w = .ok (.enter f (c.args.toList.map x.eval).toArray) w := by
          have harr : (c.args.map x.eval) = (c.args.toList.map x.eval).toArray := by apply Array.ext'; simp
          simp [execOp, ho, resolve, hg, Act.eval, Deferred.ofValue, invoke]
          have := callFunc_run (w := w) hP hbody (c.args.map x.eval)
          rw [harr] at this
          rw [harr]
          exact this
        rw [hex]
        simp only [Oper.uponIn]
        refine ⟨hdep, hF.calls (hcalls.mono fun e w' he => ?_)⟩
        have := hend _ (by rw [hrun, h3]) e w' he
        cases e <;> exact this
      · exact absurd h3 hnf
    · have hcallF' : ∀ f args, xop ≠ .callF f args := fun f args he => hcallF ⟨f, args, he⟩
      cases hoo : runOp xop r a h with
      | fail => rw [hoo] at hcr; exact absurd rfl hcr
      | val v h' =>
        obtain ⟨⟨E', u, w', ht, hs, hv, hrun⟩, hnd⟩ := op_ok S hA hc hoo hcall' hcallF'
        rw [Oper.semAt_eq _ _ _ hnd]
        have key := hnext E' _ h' (x.put o.dst u) w' ht hs (put_sound (hA.up ht.up) hd hv) (by rw [hoo]; rfl)
        rcases hrun with hrun | ⟨rfl, hrun⟩
        · rw [hrun]; exact key
        · rw [hrun]; exact key
      | pan c h' =>
        obtain ⟨rfl, ⟨u, hrun, hch⟩, hnd⟩ := op_pan S hA hc hoo hcall' hcallF'
        rw [Oper.semAt_eq _ _ _ hnd, hrun]
        exact hpan c h' E _ w (by rw [hoo]; rfl) (.refl _ _) S hA hch
      | dfr d h' =>
        obtain ⟨f, args, g, fs, cs, l, rfl, rfl, h1, h2, rfl⟩ := runOp_dfr hoo hcall' hcallF'
        obtain ⟨c, gg, ho, hg, hgx, hax⟩ := cOp_dfr_form hc
        rw [hoo] at hcr
        cases rd with
        | some l => exact absurd rfl hcr
        | none =>
          cases xd with
          | v t => exact absurd rfl hcr
          | l t => exact absurd rfl hcr
          | no =>
            cases hF
            have hdst : o.dst = none := by
              unfold cDst at hd
              split at hd
              · rename_i hdn; exact hdn
              · (repeat' split at hd) <;> cases hd
            obtain ⟨lf, lc, hlf, hlc, heq⟩ := cv_func (opr_sound S hA hgx h1)
            have hargs := oprs_sound S hA hax h2
            have hex : (execOp x.eval o).run P w = .ok (.defer { target := .fn (.func g) lc.toArray, args := lf.toArray ++ c.args.map x.eval }) w := by
              simp [execOp, ho, resolve, hg, heq, Deferred.ofValue]
            show o.uponIn Fence.wide 0 P x next Q ((execOp x.eval o).run P w)
            rw [hex]
            simp only [Oper.uponIn, hdst, Act.put]
            refine hnext E ⟨a.vars, a.log, .call g (fs ++ (l ++ cs)) :: a.defers⟩ _ _ w (.refl _ _) S ⟨hA.size, hA.vars, hA.log, ?_, hA.defers⟩ (by rw [hoo]; rfl)
            refine ⟨lc.toArray, rfl, ?_⟩
            have hall := cvL_append hlf (cvL_append hargs hlc)
            rw [hall]
            simp

end
end Go.Ev
