/- The evaluator: its definitions and what it says of the program. No condition. -/

import Derived.Test.YtgpibpkplhlihaaGreatDoorEvMem
import Derived.Test.YtgpibpkplhlihaaGreatDoorEvOp
import Derived.RangeFuncIn
set_option linter.unusedVariables false
set_option linter.unusedSimpArgs false
namespace Go.Ev
set_option linter.unusedSectionVars false
structure Fr (h h' : H) : Prop where
 asm : h'.asm = h.asm
 tx : h'.tx = h.tx
 next : h.next ≤ h'.next
 dirty : ∀ b, b ∈ h.dirty → b ∈ h'.dirty
 keep : ∀ b, b < h.next ∨ h'.next ≤ b → b ∉ h'.dirty → h'.get b = h.get b
theorem Fr.refl (h : H) : Fr h h := ⟨rfl, rfl, Nat.le_refl _, fun _ hb => hb, fun _ _ _ => rfl⟩
theorem Fr.trans {h h' h'' : H} (p : Fr h h') (q : Fr h' h'') : Fr h h'' :=
 ⟨q.asm.trans p.asm, q.tx.trans p.tx, Nat.le_trans p.next q.next, fun b hb => q.dirty b (p.dirty b hb),
  fun b hb hn => (q.keep b (hb.imp (fun x => Nat.lt_of_lt_of_le x p.next) id) hn).trans (p.keep b (hb.imp id fun x => Nat.le_trans q.next x) fun hh => hn (q.dirty b hh))⟩
theorem Fr.put (h : H) (b : Nat) (x : Blk) : Fr h (h.put b x) :=
 ⟨rfl, rfl, Nat.le_refl _, fun c hc => .tail _ hc, fun c _ hc => by
  have hne : ¬ c = b := fun he => hc (by rw [he]; exact .head _)
  rw [H.get_put, if_neg hne]⟩
theorem Fr.new (h : H) (x : Blk) : Fr h (h.new x) :=
 ⟨H.asm_new _ _, H.tx_new _ _, by rw [H.next_new]; omega, fun c hc => by rw [H.dirty_new]; exact hc, fun c hc _ => by rw [H.next_new] at hc; rw [H.get_new, if_neg (by omega)]⟩
def FrO (h : H) : OR → Prop
 | .fail => True
 | .val _ h' => Fr h h'
 | .pan _ h' => Fr h h'
 | .dfr _ h' => Fr h h'
def FrC (h : H) : CR → Prop
 | .fail => True
 | .normal _ h' => Fr h h'
 | .exit _ _ h' => Fr h h'
 | .goto _ _ h' => Fr h h'
 | .ret _ h' => Fr h h'
 | .pan _ _ h' => Fr h h'
theorem FrO.trans {h h' : H} (p : Fr h h') : ∀ {o : OR}, FrO h' o → FrO h o
 | .fail, _ => trivial
 | .val _ _, q => p.trans q
 | .pan _ _, q => p.trans q
 | .dfr _ _, q => p.trans q
theorem FrC.trans {h h' : H} (p : Fr h h') : ∀ {o : CR}, FrC h' o → FrC h o
 | .fail, _ => trivial
 | .normal _ _, q => p.trans q
 | .exit _ _ _, q => p.trans q
 | .goto _ _ _, q => p.trans q
 | .ret _ _, q => p.trans q
 | .pan _ _ _, q => p.trans q
structure RecFr (r : Rec) : Prop where
 call : ∀ f args h, FrO h (r.call f args h)
 loop : ∀ rd c a h, FrC h (r.loop rd c a h)
 yield : ∀ l args h, FrO h (r.yield l args h)
end Go.Ev
namespace Go.Ev
set_option linter.unusedSectionVars false
variable [Sig]
structure ProgOk (P : Program) : Prop where
 plain : ∀ (f : FuncId) (fn : Func), P.funcs[f]? = some fn → fn.body.isSome = true → (fn.name == "runtime.NumGoroutine") = false
 mixed : P.follows .mixedOrders = true
def EndOk (P : Program) (W0 : Wb) (E : Env) (h : H) : OR → Ending → World → Prop
 | .val v h', e, w' => ∃ E' u, e = .returned u ∧ Trans E h E' h' ∧ HSim P W0 E' h' w' ∧ cv E' v = some u
 | .pan c h', e, w' => ∃ E' ch, e = .panicked ch ∧ Trans E h E' h' ∧ HSim P W0 E' h' w' ∧ ChOk E' c ch
 | _, _, _ => False
def HasBody (P : Program) (f : FuncId) : Prop := ∃ fn c, P.funcs[f]? = some fn ∧ fn.body = some c
def Outs : OR → Prop
 | .val _ _ => True
 | .pan _ _ => True
 | _ => False
def RdOk (E : Env) : Option Nat → Fence → Prop
 | none, F => F = Fence.wide
 | some l, F => ∃ e, E l = some e ∧ F = Fence.wide.inRound e.rb
theorem RdOk.up {E E' : Env} (hE : ∀ b e, E b = some e → E' b = some e) : ∀ {rd : Option Nat} {F : Fence}, RdOk E rd F → RdOk E' rd F
 | none, _, hh => hh
 | some l, _, ⟨e, h1, h2⟩ => ⟨e, hE _ _ h1, h2⟩
theorem RdOk.fn {E : Env} {rd : Option Nat} {F : Fence} (hF : RdOk E rd F) (f : FuncId) : F.fn f := by
 cases rd with
 | none => cases hF; trivial
 | some l => obtain ⟨e, -, rfl⟩ := hF; trivial
theorem RdOk.depth {E : Env} {rd : Option Nat} {F : Fence} (hF : RdOk E rd F) : F.depth = none := by
 cases rd with
 | none => cases hF; rfl
 | some l => obtain ⟨e, -, rfl⟩ := hF; rfl
theorem RdOk.room {E : Env} {rd : Option Nat} {F : Fence} (hF : RdOk E rd F) (k : Nat) : F.room k := by
 intro d hd
 rw [hF.depth] at hd
 cases hd
theorem RdOk.calls {E : Env} {rd : Option Nat} {F : Fence} (hF : RdOk E rd F) {P : Program} {f : FuncId} {args : Array Value} {w : World} {R : Ending → World → Prop} (hc : CallsIn Fence.wide 0 P f args w R) :
  CallsIn F 0 P f args w R := by
 cases rd with
 | none => cases hF; exact hc
 | some l => obtain ⟨e, -, rfl⟩ := hF; exact hc
theorem RdOk.rounds {E : Env} {rd : Option Nat} {F : Fence} (hF : RdOk E rd F) {P : Program} {l : Nat} {f : FuncId} {tmps : Array Value} {asg body : Code} {w : World} {R : Ending → World → Prop}
  (hc : RoundIn Fence.wide 0 P l f tmps asg body w R) : RoundIn F 0 P l f tmps asg body w R := by
 cases rd with
 | none => cases hF; exact hc
 | some l => obtain ⟨e, -, rfl⟩ := hF; exact hc
def CROk (P : Program) (W0 : Wb) (E : Env) (h : H) (n vm : Nat) : CR → Exit → Act → World → Prop
 | .normal a' h', .normal, x', w' => ∃ E', Trans E h E' h' ∧ HSim P W0 E' h' w' ∧ ASim E' n vm a' x'
 | .exit id a' h', .exit id', x', w' => id = id' ∧ ∃ E', Trans E h E' h' ∧ HSim P W0 E' h' w' ∧ ASim E' n vm a' x'
 | .goto l a' h', .goto l', x', w' => l = l' ∧ ∃ E', Trans E h E' h' ∧ HSim P W0 E' h' w' ∧ ASim E' n vm a' x'
 | .ret a' h', .ret, x', w' => ∃ E', Trans E h E' h' ∧ HSim P W0 E' h' w' ∧ ASim E' n vm a' x'
 | .pan c a' h', .panic ch, x', w' => ∃ E', Trans E h E' h' ∧ HSim P W0 E' h' w' ∧ ASim E' n vm a' x' ∧ ChOk E' c ch
 | _, _, _, _ => False
theorem CROk.pre {P : Program} {W0 : Wb} {E E1 : Env} {h h1 : H} {n vm : Nat} (t : Trans E h E1 h1) : ∀ {cr : CR} {e : Exit} {x : Act} {w : World}, CROk P W0 E1 h1 n vm cr e x w → CROk P W0 E h n vm cr e x w := by
 intro cr e x w hc
 cases cr <;> cases e <;> simp only [CROk] at hc ⊢ <;> try exact hc
 ·obtain ⟨E', h1, h2⟩ := hc; exact ⟨E', t.trans h1, h2⟩
 ·obtain ⟨h0, E', h1, h2⟩ := hc; exact ⟨h0, E', t.trans h1, h2⟩
 ·obtain ⟨h0, E', h1, h2⟩ := hc; exact ⟨h0, E', t.trans h1, h2⟩
 ·obtain ⟨E', h1, h2⟩ := hc; exact ⟨E', t.trans h1, h2⟩
 ·obtain ⟨E', h1, h2⟩ := hc; exact ⟨E', t.trans h1, h2⟩
def wpLoop (F : Fence) (P : Program) (c : Code) (Q : Exit → Act → World → Prop) (a : Act) (w : World) : Prop :=
 ∀ (b : Frame) (k : List Item) (cs : List Frame), b.roundOf = F.round → F.fn b.fn → F.room (cs.length + 1 + 0) →
  ∃ e a' w', Q e a' w' ∧ ArrivesIn (Machine.fenced P F) P (lone (b.atR a (.code c :: .inLoop c :: k)) cs w) b k cs e a' w'
def VrC (D : List Nat) (a : A) : CR → Prop
 | .normal a' _ => ∀ k, k ∉ D → a'.vars.get k = a.vars.get k
 | .exit _ a' _ => ∀ k, k ∉ D → a'.vars.get k = a.vars.get k
 | _ => True
structure RecOk (P : Program) (W0 : Wb) (r : Rec) : Prop where
 call : ∀ (E : Env) (h : H) (w : World) (f : FuncId) (args : List AV) (us : List Value), HSim P W0 E h w → cvL E args = some us → Outs (r.call f args h) →
  HasBody P f ∧ CallsIn Fence.wide 0 P f us.toArray w (EndOk P W0 E h (r.call f args h))
 yield : ∀ (E : Env) (h : H) (w : World) (l : Nat) (e : Loc) (args : List AV) (us : List Value), HSim P W0 E h w → E l = some e → cvL E args = some us → Outs (r.yield l args h) →
  ∃ f tmps asg body, (Instr.yield e.rb us.toArray).run P w = .ok (.round e.rb f tmps asg body) w ∧ RoundIn Fence.wide 0 P e.rb f tmps asg body w (EndOk P W0 E h (r.yield l args h))
 callD : ∀ (f : FuncId) (args : List AV) (h : H) (d : ADef) (h' : H), r.call f args h ≠ .dfr d h'
 yieldD : ∀ (l : Nat) (args : List AV) (h : H) (d : ADef) (h' : H), r.yield l args h ≠ .dfr d h'
 loop : ∀ (E : Env) (h : H) (w : World) (rd : Option Nat) (F : Fence) (n vm : Nat) (c : Code) (a : A) (x : Act), HSim P W0 E h w → ASim E n vm a x → RdOk E rd F → r.loop rd (cCode P n vm c) a h ≠ .fail →
  wpLoop F P c (CROk P W0 E h n vm (r.loop rd (cCode P n vm c) a h)) x w
 fr : RecFr r
section
variable {P : Program} {W0 : Wb} {E : Env} {h : H} {w : World} {n vm : Nat} {a : A} {x : Act} {r : Rec} {rd : Option Nat} {F : Fence}
theorem callFunc_run (hP : ProgOk P) {f : FuncId} (hb : HasBody P f) (args : Array Value) : (callFunc f args).run P w = .ok (.enter f args) w := by
 obtain ⟨fn, c, hf, hc⟩ := hb
 have hn := hP.plain f fn hf (by simp [hc])
 have hn' : fn.name ≠ "runtime.NumGoroutine" := by simpa using hn
 simp [callFunc, program, Sem.run, hf, hn', hc]
theorem call_form {c : Call} {f : XO} {args : List XO} (hc : cCall P vm c = some (.call f args)) : ∃ g, c.callee = .value g ∧ cO vm g = some f ∧ cOs vm c.args.toList = some args := by
 unfold cCall at hc
 split at hc
 ·(repeat' split at hc) <;> cases hc
 ·rename_i g hne hg
  split at hc
  ·rename_i gx l h1 h2; cases hc; exact ⟨g, hg, h1, h2⟩
  ·cases hc
 all_goals ((repeat' split at hc) <;> cases hc)
theorem callF_form {c : Call} {f : FuncId} {args : List XO} (hc : cCall P vm c = some (.callF f args)) : c.callee = .value (.func f) ∧ cOs vm c.args.toList = some args := by
 unfold cCall at hc
 split at hc
 ·rename_i g hg
  split at hc
  ·rename_i l h2; cases hc; exact ⟨hg, h2⟩
  ·cases hc
 all_goals ((repeat' split at hc) <;> cases hc)
theorem cOp_call_form {op : Op} {f : XO} {args : List XO} (hc : cOp P vm op = some (.call f args)) : ∃ c, op = .call c ∧ cCall P vm c = some (.call f args) := by
 cases op <;> simp only [cOp] at hc <;> try (cases hc; done)
 case call c => exact ⟨c, rfl, hc⟩
 case slice t p lo hi mx => cases mx <;> simp only at hc <;> (repeat' split at hc) <;> cases hc
 case makeMap t r' => cases r' <;> cases hc
 case next it isS => cases isS <;> simp only at hc <;> (repeat' split at hc) <;> cases hc
 all_goals ((repeat' split at hc) <;> cases hc)
theorem cOp_callF_form {op : Op} {f : FuncId} {args : List XO} (hc : cOp P vm op = some (.callF f args)) : ∃ c, op = .call c ∧ cCall P vm c = some (.callF f args) := by
 cases op <;> simp only [cOp] at hc <;> try (cases hc; done)
 case call c => exact ⟨c, rfl, hc⟩
 case slice t p lo hi mx => cases mx <;> simp only at hc <;> (repeat' split at hc) <;> cases hc
 case makeMap t r' => cases r' <;> cases hc
 case next it isS => cases isS <;> simp only at hc <;> (repeat' split at hc) <;> cases hc
 all_goals ((repeat' split at hc) <;> cases hc)
theorem cOp_dfr_form {op : Op} {f : XO} {args : List XO} (hc : cOp P vm op = some (.dfr f args)) : ∃ c g, op = .defer c ∧ c.callee = .value g ∧ cO vm g = some f ∧ cOs vm c.args.toList = some args := by
 cases op <;> simp only [cOp] at hc <;> try (cases hc; done)
 case defer c =>
  split at hc
  ·rename_i g hg
   split at hc
   ·rename_i gx l h1 h2; cases hc; exact ⟨c, g, rfl, hg, h1, h2⟩
   ·cases hc
  ·cases hc
 case call c =>
  unfold cCall at hc
  (repeat' split at hc) <;> cases hc
 case slice t p lo hi mx => cases mx <;> simp only at hc <;> (repeat' split at hc) <;> cases hc
 case makeMap t r' => cases r' <;> cases hc
 case next it isS => cases isS <;> simp only at hc <;> (repeat' split at hc) <;> cases hc
 all_goals ((repeat' split at hc) <;> cases hc)
theorem ofO_dfr {o : Option AV} {d : ADef} {h' : H} (hr : ofO o h = .dfr d h') : False := by
 unfold ofO at hr
 split at hr <;> cases hr
theorem runOp_dfr {xop : XOp} {d : ADef} {h' : H} (hr : runOp0 xop r a h = .dfr d h') (hcall : ∀ f args, xop ≠ .call f args) (hcallF : ∀ f args, xop ≠ .callF f args) :
  ∃ f args g fs cs l, xop = .dfr f args ∧ h' = h ∧ getX f a = some (.func (.func g) fs cs) ∧ getXs a args = some l ∧ d = .call g (fs ++ (l ++ cs)) := by
 cases xop with
 | dfr f args =>
  have hr' : rDfr f args a h = .dfr d h' := hr
  unfold rDfr at hr'
  split at hr'
  ·rename_i g fs cs l h1 h2; cases hr'; exact ⟨f, args, g, fs, cs, l, rfl, rfl, h1, h2, rfl⟩
  ·cases hr'
 | call f args => exact absurd rfl (hcall f args)
 | callF f args => exact absurd rfl (hcallF f args)
 | bad => cases hr
 | mv z0 =>
  have hr' : rMv z0 a h = .dfr d h' := hr
  unfold rMv at hr'
  (repeat' split at hr') <;> first | (cases hr'; done) | (exact (ofO_dfr hr').elim) | (simp only [frc_eq] at hr'; cases hr'; done)
 | pick z0 z1 z2 =>
  have hr' : rPick z0 z1 z2 a h = .dfr d h' := hr
  unfold rPick at hr'
  (repeat' split at hr') <;> first | (cases hr'; done) | (exact (ofO_dfr hr').elim) | (simp only [frc_eq] at hr'; cases hr'; done)
 | new z0 z1 =>
  have hr' : rNew z0 z1 a h = .dfr d h' := hr
  unfold rNew at hr'
  (repeat' split at hr') <;> first | (cases hr'; done) | (exact (ofO_dfr hr').elim) | (simp only [frc_eq] at hr'; cases hr'; done)
 | box z0 z1 =>
  have hr' : rBox z0 z1 a h = .dfr d h' := hr
  unfold rBox at hr'
  (repeat' split at hr') <;> first | (cases hr'; done) | (exact (ofO_dfr hr').elim) | (simp only [frc_eq] at hr'; cases hr'; done)
 | build z0 z1 =>
  have hr' : rBuild z0 z1 a h = .dfr d h' := hr
  unfold rBuild at hr'
  (repeat' split at hr') <;> first | (cases hr'; done) | (exact (ofO_dfr hr').elim) | (simp only [frc_eq] at hr'; cases hr'; done)
 | buildS z0 z1 z2 z3 =>
  have hr' : rBuildS z0 z1 z2 z3 a h = .dfr d h' := hr
  unfold rBuildS at hr'
  (repeat' split at hr') <;> first | (cases hr'; done) | (exact (ofO_dfr hr').elim) | (simp only [frc_eq] at hr'; cases hr'; done)
 | ld z0 z1 z2 =>
  have hr' : rLd z0 z1 z2 a h = .dfr d h' := hr
  unfold rLd at hr'
  (repeat' split at hr') <;> first | (cases hr'; done) | (exact (ofO_dfr hr').elim) | (simp only [frc_eq] at hr'; cases hr'; done)
 | st z0 z1 z2 =>
  have hr' : rSt z0 z1 z2 a h = .dfr d h' := hr
  unfold rSt at hr'
  (repeat' split at hr') <;> first | (cases hr'; done) | (exact (ofO_dfr hr').elim) | (simp only [frc_eq] at hr'; cases hr'; done)
 | nilc z0 =>
  have hr' : rNilc z0 a h = .dfr d h' := hr
  unfold rNilc at hr'
  (repeat' split at hr') <;> first | (cases hr'; done) | (exact (ofO_dfr hr').elim) | (simp only [frc_eq] at hr'; cases hr'; done)
 | bin z0 z1 z2 z3 z4 =>
  have hr' : rBin z0 z1 z2 z3 z4 a h = .dfr d h' := hr
  unfold rBin at hr'
  (repeat' split at hr') <;> first | (cases hr'; done) | (exact (ofO_dfr hr').elim) | (simp only [frc_eq] at hr'; cases hr'; done)
 | un z0 z1 =>
  have hr' : rUn z0 z1 a h = .dfr d h' := hr
  unfold rUn at hr'
  (repeat' split at hr') <;> first | (cases hr'; done) | (exact (ofO_dfr hr').elim) | (simp only [frc_eq] at hr'; cases hr'; done)
 | conv z0 z1 =>
  have hr' : rConv z0 z1 a h = .dfr d h' := hr
  unfold rConv at hr'
  (repeat' split at hr') <;> first | (cases hr'; done) | (exact (ofO_dfr hr').elim) | (simp only [frc_eq] at hr'; cases hr'; done)
 | convS z0 =>
  have hr' : rConvS z0 a h = .dfr d h' := hr
  unfold rConvS at hr'
  (repeat' split at hr') <;> first | (cases hr'; done) | (exact (ofO_dfr hr').elim) | (simp only [frc_eq] at hr'; cases hr'; done)
 | convB z0 =>
  have hr' : rConvB z0 a h = .dfr d h' := hr
  unfold rConvB at hr'
  (repeat' split at hr') <;> first | (cases hr'; done) | (exact (ofO_dfr hr').elim) | (simp only [frc_eq] at hr'; cases hr'; done)
 | mkI z0 z1 =>
  have hr' : rMkI z0 z1 a h = .dfr d h' := hr
  unfold rMkI at hr'
  (repeat' split at hr') <;> first | (cases hr'; done) | (exact (ofO_dfr hr').elim) | (simp only [frc_eq] at hr'; cases hr'; done)
 | mkF z0 z1 z2 =>
  have hr' : rMkF z0 z1 z2 a h = .dfr d h' := hr
  unfold rMkF at hr'
  (repeat' split at hr') <;> first | (cases hr'; done) | (exact (ofO_dfr hr').elim) | (simp only [frc_eq] at hr'; cases hr'; done)
 | mkM  =>
  have hr' : rMkM  a h = .dfr d h' := hr
  unfold rMkM at hr'
  (repeat' split at hr') <;> first | (cases hr'; done) | (exact (ofO_dfr hr').elim) | (simp only [frc_eq] at hr'; cases hr'; done)
 | mkS z0 z1 z2 z3 z4 z5 =>
  have hr' : rMkS z0 z1 z2 z3 z4 z5 a h = .dfr d h' := hr
  unfold rMkS at hr'
  (repeat' split at hr') <;> first | (cases hr'; done) | (exact (ofO_dfr hr').elim) | (simp only [frc_eq] at hr'; cases hr'; done)
 | slStr z0 z1 z2 =>
  have hr' : rSlStr z0 z1 z2 a h = .dfr d h' := hr
  unfold rSlStr at hr'
  (repeat' split at hr') <;> first | (cases hr'; done) | (exact (ofO_dfr hr').elim) | (simp only [frc_eq] at hr'; cases hr'; done)
 | slSl z0 z1 z2 z3 =>
  have hr' : rSlSl z0 z1 z2 z3 a h = .dfr d h' := hr
  unfold rSlSl at hr'
  (repeat' split at hr') <;> first | (cases hr'; done) | (exact (ofO_dfr hr').elim) | (simp only [frc_eq] at hr'; cases hr'; done)
 | slArr z0 z1 z2 z3 z4 =>
  have hr' : rSlArr z0 z1 z2 z3 z4 a h = .dfr d h' := hr
  unfold rSlArr at hr'
  (repeat' split at hr') <;> first | (cases hr'; done) | (exact (ofO_dfr hr').elim) | (simp only [frc_eq] at hr'; cases hr'; done)
 | fa z0 z1 =>
  have hr' : rFa z0 z1 a h = .dfr d h' := hr
  unfold rFa at hr'
  (repeat' split at hr') <;> first | (cases hr'; done) | (exact (ofO_dfr hr').elim) | (simp only [frc_eq] at hr'; cases hr'; done)
 | fld z0 z1 z2 z3 =>
  have hr' : rFld z0 z1 z2 z3 a h = .dfr d h' := hr
  unfold rFld at hr'
  (repeat' split at hr') <;> first | (cases hr'; done) | (exact (ofO_dfr hr').elim) | (simp only [frc_eq] at hr'; cases hr'; done)
 | ia z0 z1 z2 =>
  have hr' : rIa z0 z1 z2 a h = .dfr d h' := hr
  unfold rIa at hr'
  (repeat' split at hr') <;> first | (cases hr'; done) | (exact (ofO_dfr hr').elim) | (simp only [frc_eq] at hr'; cases hr'; done)
 | iaArr z0 z1 z2 z3 =>
  have hr' : rIaArr z0 z1 z2 z3 a h = .dfr d h' := hr
  unfold rIaArr at hr'
  (repeat' split at hr') <;> first | (cases hr'; done) | (exact (ofO_dfr hr').elim) | (simp only [frc_eq] at hr'; cases hr'; done)
 | ixS z0 z1 =>
  have hr' : rIxS z0 z1 a h = .dfr d h' := hr
  unfold rIxS at hr'
  (repeat' split at hr') <;> first | (cases hr'; done) | (exact (ofO_dfr hr').elim) | (simp only [frc_eq] at hr'; cases hr'; done)
 | ixA z0 z1 z2 =>
  have hr' : rIxA z0 z1 z2 a h = .dfr d h' := hr
  unfold rIxA at hr'
  (repeat' split at hr') <;> first | (cases hr'; done) | (exact (ofO_dfr hr').elim) | (simp only [frc_eq] at hr'; cases hr'; done)
 | look z0 z1 z2 z3 z4 =>
  have hr' : rLook z0 z1 z2 z3 z4 a h = .dfr d h' := hr
  unfold rLook at hr'
  (repeat' split at hr') <;> first | (cases hr'; done) | (exact (ofO_dfr hr').elim) | (simp only [frc_eq] at hr'; cases hr'; done)
 | upd z0 z1 z2 z3 =>
  have hr' : rUpd z0 z1 z2 z3 a h = .dfr d h' := hr
  unfold rUpd at hr'
  (repeat' split at hr') <;> first | (cases hr'; done) | (exact (ofO_dfr hr').elim) | (simp only [frc_eq] at hr'; cases hr'; done)
 | ins z0 z1 z2 z3 =>
  have hr' : rUpd z0 z1 z2 z3 a h = .dfr d h' := hr
  unfold rUpd at hr'
  (repeat' split at hr') <;> first | (cases hr'; done) | (exact (ofO_dfr hr').elim) | (simp only [frc_eq] at hr'; cases hr'; done)
 | ext z0 z1 =>
  have hr' : rExt z0 z1 a h = .dfr d h' := hr
  unfold rExt at hr'
  (repeat' split at hr') <;> first | (cases hr'; done) | (exact (ofO_dfr hr').elim) | (simp only [frc_eq] at hr'; cases hr'; done)
 | ta z0 z1 z2 z3 =>
  have hr' : rTa z0 z1 z2 z3 a h = .dfr d h' := hr
  unfold rTa at hr'
  (repeat' split at hr') <;> first | (cases hr'; done) | (exact (ofO_dfr hr').elim) | (simp only [frc_eq] at hr'; cases hr'; done)
 | len z0 z1 =>
  have hr' : rLen z0 z1 a h = .dfr d h' := hr
  unfold rLen at hr'
  (repeat' split at hr') <;> first | (cases hr'; done) | (exact (ofO_dfr hr').elim) | (simp only [frc_eq] at hr'; cases hr'; done)
 | lenN z0 =>
  have hr' : rLenN z0 a h = .dfr d h' := hr
  unfold rLenN at hr'
  (repeat' split at hr') <;> first | (cases hr'; done) | (exact (ofO_dfr hr').elim) | (simp only [frc_eq] at hr'; cases hr'; done)
 | capS z0 =>
  have hr' : rCapS z0 a h = .dfr d h' := hr
  unfold rCapS at hr'
  (repeat' split at hr') <;> first | (cases hr'; done) | (exact (ofO_dfr hr').elim) | (simp only [frc_eq] at hr'; cases hr'; done)
 | app z0 z1 z2 z3 z4 =>
  have hr' : rApp z0 z1 z2 z3 z4 a h = .dfr d h' := hr
  unfold rApp at hr'
  (repeat' split at hr') <;> first | (cases hr'; done) | (exact (ofO_dfr hr').elim) | (simp only [frc_eq] at hr'; cases hr'; done)
 | appZ z0 z1 z2 z3 z4 z5 =>
  have hr' : rAppZ z0 z1 z2 z3 z4 z5 a h = .dfr d h' := hr
  unfold rAppZ at hr'
  (repeat' split at hr') <;> first | (cases hr'; done) | (exact (ofO_dfr hr').elim) | (simp only [frc_eq] at hr'; cases hr'; done)
 | max z0 z1 =>
  have hr' : rMax z0 z1 a h = .dfr d h' := hr
  unfold rMax at hr'
  (repeat' split at hr') <;> first | (cases hr'; done) | (exact (ofO_dfr hr').elim) | (simp only [frc_eq] at hr'; cases hr'; done)
 | min z0 z1 =>
  have hr' : rMin z0 z1 a h = .dfr d h' := hr
  unfold rMin at hr'
  (repeat' split at hr') <;> first | (cases hr'; done) | (exact (ofO_dfr hr').elim) | (simp only [frc_eq] at hr'; cases hr'; done)
 | rngS z0 =>
  have hr' : rRngS z0 a h = .dfr d h' := hr
  unfold rRngS at hr'
  (repeat' split at hr') <;> first | (cases hr'; done) | (exact (ofO_dfr hr').elim) | (simp only [frc_eq] at hr'; cases hr'; done)
 | nextS z0 =>
  have hr' : rNextS z0 a h = .dfr d h' := hr
  unfold rNextS at hr'
  (repeat' split at hr') <;> first | (cases hr'; done) | (exact (ofO_dfr hr').elim) | (simp only [frc_eq] at hr'; cases hr'; done)
 | pan z0 =>
  have hr' : rPan z0 a h = .dfr d h' := hr
  unfold rPan at hr'
  (repeat' split at hr') <;> first | (cases hr'; done) | (exact (ofO_dfr hr').elim) | (simp only [frc_eq] at hr'; cases hr'; done)
theorem oper_sound0 (hP : ProgOk P) (hR : RecOk P W0 r) (S : HSim P W0 E h w) (hA : ASim E n vm a x) (hF : RdOk E rd F) {o : Oper} {xop : XOp} {xd : XD} (hc : cOp P vm o.op = some xop) (hd : cDst n vm o.dst = some xd)
  {K : A → H → CR} {next : Act → World → Prop} {Q : Exit → Act → World → Prop} (hcr : orK rd xd a K (runOp0 xop r a h) ≠ .fail)
  (hnext : ∀ E' a' h' x' w', Trans E h E' h' → HSim P W0 E' h' w' → ASim E' n vm a' x' → K a' h' = orK rd xd a K (runOp0 xop r a h) → next x' w')
  (hpan : ∀ c h' E' ch w', orK rd xd a K (runOp0 xop r a h) = .pan c a h' → Trans E h E' h' → HSim P W0 E' h' w' → ASim E' n vm a x → ChOk E' c ch → Q (.panic ch) x w') :
  o.wpIn F 0 P x w next Q := by
 refine ⟨fun f _ => hF.fn f, ?_⟩
 have hdep : F.depth.isSome = true → 1 ≤ 0 := fun hh => by rw [hF.depth] at hh; cases hh
 have hend : ∀ (oo : OR), runOp0 xop r a h = oo → ∀ e w', EndOk P W0 E h oo e w' → (match e with
   | .returned v => next (x.put o.dst v) w'
   | .panicked chain => Q (.panic chain) x w'
   | .outgrown => LetsOut Q) := by
  intro oo hoo e w' he
  cases oo with
  | fail => exact he.elim
  | dfr d h' => exact he.elim
  | val v h' =>
   obtain ⟨E', u, rfl, ht, hs, hv⟩ := he
   exact hnext E' _ h' _ w' ht hs (put_sound (hA.up ht.up) hd hv) (by rw [hoo]; rfl)
  | pan c h' =>
   obtain ⟨E', ch, rfl, ht, hs, hv⟩ := he
   exact hpan c h' E' ch w' (by rw [hoo]; rfl) ht hs (hA.up ht.up) hv
 by_cases hcall : ∃ f args, xop = .call f args
 ·obtain ⟨f, args, rfl⟩ := hcall
  obtain ⟨c, ho, hcc⟩ := cOp_call_form hc
  obtain ⟨g, hg, hgx, hax⟩ := call_form hcc
  have hsem : o.semAt F.round x.eval = execOp x.eval o := Oper.semAt_eq _ _ _ (by rw [ho]; intro c hc'; cases hc')
  rw [hsem]
  have hrun : runOp0 (.call f args) r a h = rCall f args r a h := rfl
  have hcase : (∃ gg fs cs l, getX f a = some (.func (.func gg) fs cs) ∧ getXs a args = some l ∧ rCall f args r a h = r.call gg (fs ++ (l ++ cs)) h) ∨
    (∃ y l, getX f a = some (.yield y) ∧ getXs a args = some l ∧ rCall f args r a h = r.yield y l h) ∨ rCall f args r a h = .fail := by
   unfold rCall
   split
   ·rename_i gg fs cs l h1 h2; exact .inl ⟨gg, fs, cs, l, h1, h2, rfl⟩
   ·rename_i y l h1 h2; exact .inr (.inl ⟨y, l, h1, h2, rfl⟩)
   ·exact .inr (.inr rfl)
  have houts : Outs (rCall f args r a h) ∨ (∃ d h', rCall f args r a h = .dfr d h') ∨ rCall f args r a h = .fail := by
   cases rCall f args r a h with
   | fail => exact .inr (.inr rfl)
   | val v h' => exact .inl trivial
   | pan c h' => exact .inl trivial
   | dfr d h' => exact .inr (.inl ⟨d, h', rfl⟩)
  have hnf : rCall f args r a h ≠ .fail := fun hf => by
   rw [hrun, hf] at hcr; exact hcr rfl
  rcases hcase with ⟨gg, fs, cs, l, h1, h2, h3⟩ | ⟨y, l, h1, h2, h3⟩ | h3
  ·obtain ⟨lf, lc, hlf, hlc, heq⟩ := cv_func (opr_sound S hA hgx h1)
   have hargs := oprs_sound S hA hax h2
   have hall : cvL E (fs ++ (l ++ cs)) = some (lf ++ (c.args.toList.map x.eval ++ lc)) := cvL_append hlf (cvL_append hargs hlc)
   rcases houts with hout | ⟨d, h', hdf⟩ | hf
   ·rw [h3] at hout
    obtain ⟨hbody, hcalls⟩ := hR.call E h w gg _ _ S hall hout
    have hex : (execOp x.eval o).run P w = .ok (.enter gg (lf ++ (c.args.toList.map x.eval ++ lc)).toArray) w := by
     have harr : (lf.toArray ++ c.args.map x.eval) ++ lc.toArray = (lf ++ (c.args.toList.map x.eval ++ lc)).toArray := by apply Array.ext'; simp
     simp [execOp, ho, resolve, hg, heq, Deferred.ofValue, invoke, harr, callFunc_run hP hbody]
    rw [hex]
    simp only [Oper.uponIn]
    refine ⟨hdep, hF.calls (hcalls.mono fun e w' he => ?_)⟩
    have := hend _ (by rw [hrun, h3]) e w' he
    cases e <;> exact this
   ·exact absurd (h3 ▸ hdf) (hR.callD _ _ _ _ _)
   ·exact absurd hf hnf
  ·have hyv := opr_sound S hA hgx h1
   have hy' : ∃ e, E y = some e ∧ x.eval g = .func (.yield e.rb) #[] #[] := by
    simp only [cv] at hyv
    split at hyv
    ·rename_i e he; simp only [Option.some.injEq] at hyv; exact ⟨e, he, hyv.symm⟩
    ·cases hyv
   obtain ⟨e, he, heq⟩ := hy'
   have hargs := oprs_sound S hA hax h2
   rcases houts with hout | ⟨d, h', hdf⟩ | hf
   ·rw [h3] at hout
    obtain ⟨ff, tmps, asg, body, hyr, hround⟩ := hR.yield E h w y e l _ S he hargs hout
    have hex : (execOp x.eval o).run P w = .ok (.round e.rb ff tmps asg body) w := by
     have harr : (c.args.toList.map x.eval).toArray = c.args.map x.eval := by apply Array.ext'; simp
     rw [harr] at hyr
     simp [execOp, ho, resolve, hg, heq, Deferred.ofValue, invoke, hyr]
    rw [hex]
    simp only [Oper.uponIn]
    refine ⟨hdep, hF.rounds (hround.mono fun e w' he => ?_)⟩
    have := hend _ (by rw [hrun, h3]) e w' he
    cases e <;> exact this
   ·exact absurd (h3 ▸ hdf) (hR.yieldD _ _ _ _ _)
   ·exact absurd hf hnf
  ·exact absurd h3 hnf
 ·have hcall' : ∀ f args, xop ≠ .call f args := fun f args he => hcall ⟨f, args, he⟩
  by_cases hcallF : ∃ f args, xop = .callF f args
  ·obtain ⟨f, args, rfl⟩ := hcallF
   obtain ⟨c, ho, hcc⟩ := cOp_callF_form hc
   obtain ⟨hg, hax⟩ := callF_form hcc
   have hsem : o.semAt F.round x.eval = execOp x.eval o := Oper.semAt_eq _ _ _ (by rw [ho]; intro c hc'; cases hc')
   rw [hsem]
   have hrun : runOp0 (.callF f args) r a h = rCallF f args r a h := rfl
   have hcase : (∃ l, getXs a args = some l ∧ rCallF f args r a h = r.call f l h) ∨ rCallF f args r a h = .fail := by
    unfold rCallF
    split
    ·rename_i l h2; exact .inl ⟨l, h2, rfl⟩
    ·exact .inr rfl
   have hnf : rCallF f args r a h ≠ .fail := fun hf => by
    rw [hrun, hf] at hcr; exact hcr rfl
   rcases hcase with ⟨l, h2, h3⟩ | h3
   ·have hargs := oprs_sound S hA hax h2
    have hout : Outs (r.call f l h) := by
     rw [h3] at hnf
     cases hoo : r.call f l h with
     | fail => exact absurd hoo hnf
     | val v h' => trivial
     | pan c h' => trivial
     | dfr d h' => exact absurd hoo (hR.callD _ _ _ _ _)
    obtain ⟨hbody, hcalls⟩ := hR.call E h w f _ _ S hargs hout
    have hex : (execOp x.eval o).run P w = .ok (.enter f (c.args.toList.map x.eval).toArray) w := by
     have harr : (c.args.map x.eval) = (c.args.toList.map x.eval).toArray := by apply Array.ext'; simp
     simp [execOp, ho, resolve, hg, Act.eval, Deferred.ofValue, invoke]
     have := callFunc_run (w := w) hP hbody (c.args.map x.eval)
     rw [harr] at this
     rw [harr]
     exact this
    rw [hex]
    simp only [Oper.uponIn]
    refine ⟨hdep, hF.calls (hcalls.mono fun e w' he => ?_)⟩
    have := hend _ (by rw [hrun, h3]) e w' he
    cases e <;> exact this
   ·exact absurd h3 hnf
  ·have hcallF' : ∀ f args, xop ≠ .callF f args := fun f args he => hcallF ⟨f, args, he⟩
   cases hoo : runOp0 xop r a h with
   | fail => rw [hoo] at hcr; exact absurd rfl hcr
   | val v h' =>
    obtain ⟨⟨E', u, w', ht, hs, hv, hrun⟩, hnd⟩ := op_ok S hA hc hoo hcall' hcallF'
    rw [Oper.semAt_eq _ _ _ hnd]
    have key := hnext E' _ h' (x.put o.dst u) w' ht hs (put_sound (hA.up ht.up) hd hv) (by rw [hoo]; rfl)
    rcases hrun with hrun | ⟨rfl, hrun⟩
    ·rw [hrun]; exact key
    ·rw [hrun]; exact key
   | pan c h' =>
    obtain ⟨rfl, ⟨u, hrun, hch⟩, hnd⟩ := op_pan S hA hc hoo hcall' hcallF'
    rw [Oper.semAt_eq _ _ _ hnd, hrun]
    exact hpan c h' E _ w (by rw [hoo]; rfl) (.refl _ _) S hA hch
   | dfr d h' =>
    obtain ⟨f, args, g, fs, cs, l, rfl, rfl, h1, h2, rfl⟩ := runOp_dfr hoo hcall' hcallF'
    obtain ⟨c, gg, ho, hg, hgx, hax⟩ := cOp_dfr_form hc
    rw [hoo] at hcr
    cases rd with
    | some l => exact absurd rfl hcr
    | none =>
     cases xd with
     | v t => exact absurd rfl hcr
     | l t => exact absurd rfl hcr
     | no =>
      cases hF
      have hdst : o.dst = none := by
       unfold cDst at hd
       split at hd
       ·rename_i hdn; exact hdn
       ·(repeat' split at hd) <;> cases hd
      obtain ⟨lf, lc, hlf, hlc, heq⟩ := cv_func (opr_sound S hA hgx h1)
      have hargs := oprs_sound S hA hax h2
      have hex : (execOp x.eval o).run P w = .ok (.defer { target := .fn (.func g) lc.toArray, args := lf.toArray ++ c.args.map x.eval }) w := by
       simp [execOp, ho, resolve, hg, heq, Deferred.ofValue]
      show o.uponIn Fence.wide 0 P x next Q ((execOp x.eval o).run P w)
      rw [hex]
      simp only [Oper.uponIn, hdst, Act.put]
      refine hnext E ⟨a.vars, a.log, .call g (fs ++ (l ++ cs)) :: a.defers⟩ _ _ w (.refl _ _) S ⟨hA.size, hA.vars, hA.log, ?_, hA.defers⟩ (by rw [hoo]; rfl)
      refine ⟨lc.toArray, rfl, ?_⟩
      have hall := cvL_append hlf (cvL_append hargs hlc)
      rw [hall]
      simp
end
end Go.Ev
namespace Go.Ev
set_option linter.unusedSectionVars false
variable [Sig]
section
variable {a a' : A} {r : Rec} {h h' : H}
theorem getXs_congr : ∀ (l : List XO), (∀ x ∈ l, getX x a = getX x a') → getXs a l = getXs a' l
 | [], _ => rfl
 | x :: l, H => by simp only [getXs, H x (by simp), getXs_congr l (fun y hy => H y (by simp [hy]))]
theorem getParts_congr : ∀ (l : List (Nat × Nat × XO)), (∀ x ∈ partXs l, getX x a = getX x a') → getParts a l = getParts a' l
 | [], _ => rfl
 | (o, s, x) :: l, H => by simp only [getParts, H x (by simp [partXs]), getParts_congr l (fun y hy => H y (by simp [partXs, hy]))]
theorem getOpt_congr : ∀ (l : Option XO), (∀ x ∈ optXs l, getX x a = getX x a') → getOpt a l = getOpt a' l
 | none, _ => rfl
 | some x, H => by simp only [getOpt, H x (by simp [optXs])]
theorem runOp0_congr (xop : XOp) (H : ∀ x ∈ xreads xop, getX x a = getX x a') : runOp0 xop r a h = runOp0 xop r a' h := by
 cases xop with
 | mv x =>
  show rMv x a h = rMv x a' h
  simp only [rMv, H x (by simp [xreads])]
 | pick c x y =>
  show rPick c x y a h = rPick c x y a' h
  simp only [rPick, H c (by simp [xreads]), H x (by simp [xreads]), H y (by simp [xreads])]
 | new cs e =>
  show rNew cs e a h = rNew cs e a' h
  simp only [rNew]
 | box e x =>
  show rBox e x a h = rBox e x a' h
  simp only [rBox, H x (by simp [xreads])]
 | build z ps =>
  show rBuild z ps a h = rBuild z ps a' h
  simp only [rBuild, getParts_congr ps (fun z hz => H z (by simp [xreads, hz]))]
 | buildS e l z ps =>
  show rBuildS e l z ps a h = rBuildS e l z ps a' h
  simp only [rBuildS, getParts_congr ps (fun z hz => H z (by simp [xreads, hz]))]
 | ld g n x =>
  show rLd g n x a h = rLd g n x a' h
  simp only [rLd, H x (by simp [xreads])]
 | st n x y =>
  show rSt n x y a h = rSt n x y a' h
  simp only [rSt, H x (by simp [xreads]), H y (by simp [xreads])]
 | nilc x =>
  show rNilc x a h = rNilc x a' h
  simp only [rNilc, H x (by simp [xreads])]
 | bin op k l x y =>
  show rBin op k l x y a h = rBin op k l x y a' h
  simp only [rBin, H x (by simp [xreads]), H y (by simp [xreads])]
 | un op x =>
  show rUn op x a h = rUn op x a' h
  simp only [rUn, H x (by simp [xreads])]
 | conv k x =>
  show rConv k x a h = rConv k x a' h
  simp only [rConv, H x (by simp [xreads])]
 | convS x =>
  show rConvS x a h = rConvS x a' h
  simp only [rConvS, H x (by simp [xreads])]
 | convB x =>
  show rConvB x a h = rConvB x a' h
  simp only [rConvB, H x (by simp [xreads])]
 | mkI t x =>
  show rMkI t x a h = rMkI t x a' h
  simp only [rMkI, H x (by simp [xreads])]
 | mkF f fs cs =>
  show rMkF f fs cs a h = rMkF f fs cs a' h
  simp only [rMkF, getXs_congr fs (fun z hz => H z (by simp [xreads, hz])), getXs_congr cs (fun z hz => H z (by simp [xreads, hz]))]
 | mkM  =>
  show rMkM  a h = rMkM  a' h
  simp only [rMkM]
 | mkS e sz by_ z x y =>
  show rMkS e sz by_ z x y a h = rMkS e sz by_ z x y a' h
  simp only [rMkS, H x (by simp [xreads]), H y (by simp [xreads])]
 | slStr x lo hi =>
  show rSlStr x lo hi a h = rSlStr x lo hi a' h
  simp only [rSlStr, H x (by simp [xreads]), getOpt_congr lo (fun z hz => H z (by simp [xreads, hz])), getOpt_congr hi (fun z hz => H z (by simp [xreads, hz]))]
 | slSl sz x lo hi =>
  show rSlSl sz x lo hi a h = rSlSl sz x lo hi a' h
  simp only [rSlSl, H x (by simp [xreads]), getOpt_congr lo (fun z hz => H z (by simp [xreads, hz])), getOpt_congr hi (fun z hz => H z (by simp [xreads, hz]))]
 | slArr n sz x lo hi =>
  show rSlArr n sz x lo hi a h = rSlArr n sz x lo hi a' h
  simp only [rSlArr, H x (by simp [xreads]), getOpt_congr lo (fun z hz => H z (by simp [xreads, hz])), getOpt_congr hi (fun z hz => H z (by simp [xreads, hz]))]
 | fa o x =>
  show rFa o x a h = rFa o x a' h
  simp only [rFa, H x (by simp [xreads])]
 | fld g o n x =>
  show rFld g o n x a h = rFld g o n x a' h
  simp only [rFld, H x (by simp [xreads])]
 | ia sz x y =>
  show rIa sz x y a h = rIa sz x y a' h
  simp only [rIa, H x (by simp [xreads]), H y (by simp [xreads])]
 | iaArr len sz x y =>
  show rIaArr len sz x y a h = rIaArr len sz x y a' h
  simp only [rIaArr, H x (by simp [xreads]), H y (by simp [xreads])]
 | ixS x y =>
  show rIxS x y a h = rIxS x y a' h
  simp only [rIxS, H x (by simp [xreads]), H y (by simp [xreads])]
 | ixA len x y =>
  show rIxA len x y a h = rIxA len x y a' h
  simp only [rIxA, H x (by simp [xreads]), H y (by simp [xreads])]
 | look k z ok x y =>
  show rLook k z ok x y a h = rLook k z ok x y a' h
  simp only [rLook, H x (by simp [xreads]), H y (by simp [xreads])]
 | upd i m k v =>
  show rUpd i m k v a h = rUpd i m k v a' h
  simp only [rUpd, H m (by simp [xreads]), H k (by simp [xreads]), H v (by simp [xreads])]
 | ins i m k v =>
  show rUpd i m k v a h = rUpd i m k v a' h
  simp only [rUpd, H m (by simp [xreads]), H k (by simp [xreads]), H v (by simp [xreads])]
 | ext x i =>
  show rExt x i a h = rExt x i a' h
  simp only [rExt, H x (by simp [xreads])]
 | ta t z ok x =>
  show rTa t z ok x a h = rTa t z ok x a' h
  simp only [rTa, H x (by simp [xreads])]
 | pan x =>
  show rPan x a h = rPan x a' h
  simp only [rPan, H x (by simp [xreads])]
 | len k x =>
  show rLen k x a h = rLen k x a' h
  simp only [rLen, H x (by simp [xreads])]
 | lenN n =>
  show rLenN n a h = rLenN n a' h
  simp only [rLenN]
 | capS x =>
  show rCapS x a h = rCapS x a' h
  simp only [rCapS, H x (by simp [xreads])]
 | app e sz by_ x y =>
  show rApp e sz by_ x y a h = rApp e sz by_ x y a' h
  simp only [rApp, H x (by simp [xreads]), H y (by simp [xreads])]
 | appZ e sz by_ z x y =>
  show rAppZ e sz by_ z x y a h = rAppZ e sz by_ z x y a' h
  simp only [rAppZ, H x (by simp [xreads]), H y (by simp [xreads])]
 | max x y =>
  show rMax x y a h = rMax x y a' h
  simp only [rMax, H x (by simp [xreads]), H y (by simp [xreads])]
 | min x y =>
  show rMin x y a h = rMin x y a' h
  simp only [rMin, H x (by simp [xreads]), H y (by simp [xreads])]
 | rngS x =>
  show rRngS x a h = rRngS x a' h
  simp only [rRngS, H x (by simp [xreads])]
 | nextS x =>
  show rNextS x a h = rNextS x a' h
  simp only [rNextS, H x (by simp [xreads])]
 | call f args =>
  show rCall f args r a h = rCall f args r a' h
  simp only [rCall, H f (by simp [xreads]), getXs_congr args (fun z hz => H z (by simp [xreads, hz]))]
 | callF g args =>
  show rCallF g args r a h = rCallF g args r a' h
  simp only [rCallF, getXs_congr args (fun z hz => H z (by simp [xreads, hz]))]
 | dfr f args =>
  show rDfr f args a h = rDfr f args a' h
  simp only [rDfr, H f (by simp [xreads]), getXs_congr args (fun z hz => H z (by simp [xreads, hz]))]
 | bad  =>
  rfl
theorem wantedX_congr {g : Option (XO × Bool)} (H : ∀ x b, g = some (x, b) → getX x a = getX x a') : wantedX g a = wantedX g a' := by
 cases g with
 | none => rfl
 | some p => obtain ⟨x, b⟩ := p; simp only [wantedX, H x b rfl]
theorem ofO_val2 {o : Option AV} {v : AV} (hr : ofO o h = .val v h') : h' = h ∧ ∀ h2, ofO o h2 = .val v h2 := by
 unfold ofO at hr
 split at hr
 ·cases hr; exact ⟨rfl, fun _ => rfl⟩
 ·cases hr
def xalloc : XOp → Bool
 | .new .. | .box .. | .buildS .. | .mkM => true
 | _ => false
theorem plain_val0 (xop : XOp) (hq : xquiet xop = true) (hl : xlooks xop = false) (hal : xalloc xop = false) {v : AV} (hr : runOp0 xop r a h = .val v h') : h' = h ∧ ∀ h2, runOp0 xop r a h2 = .val v h2 := by
 cases xop with
 | mv z0 =>
  have hr' : rMv z0 a h = .val v h' := hr
  show h' = h ∧ ∀ h2, rMv z0 a h2 = .val v h2
  unfold rMv at hr' ⊢
  (repeat' split at hr') <;> (try simp only [frc_eq] at hr') <;> first | (cases hr'; done) | (cases hr'; exact ⟨rfl, fun _ => by simp_all [frc_eq]⟩) | (have hh := ofO_val2 hr'; refine ⟨hh.1, fun h2 => ?_⟩; have h3 := hh.2 h2; simp_all [frc_eq]; done) | exact ofO_val2 hr' | (exact ⟨hr'.2.symm, hr'.1⟩)
 | pick z0 z1 z2 =>
  have hr' : rPick z0 z1 z2 a h = .val v h' := hr
  show h' = h ∧ ∀ h2, rPick z0 z1 z2 a h2 = .val v h2
  unfold rPick at hr' ⊢
  (repeat' split at hr') <;> (try simp only [frc_eq] at hr') <;> first | (cases hr'; done) | (cases hr'; exact ⟨rfl, fun _ => by simp_all [frc_eq]⟩) | (have hh := ofO_val2 hr'; refine ⟨hh.1, fun h2 => ?_⟩; have h3 := hh.2 h2; simp_all [frc_eq]; done) | exact ofO_val2 hr' | (exact ⟨hr'.2.symm, hr'.1⟩)
 | new z0 z1 => first | (cases hq; done) | (cases hl; done) | (cases hal; done)
 | box z0 z1 => first | (cases hq; done) | (cases hl; done) | (cases hal; done)
 | build z0 z1 =>
  have hr' : rBuild z0 z1 a h = .val v h' := hr
  show h' = h ∧ ∀ h2, rBuild z0 z1 a h2 = .val v h2
  unfold rBuild at hr' ⊢
  (repeat' split at hr') <;> (try simp only [frc_eq] at hr') <;> first | (cases hr'; done) | (cases hr'; exact ⟨rfl, fun _ => by simp_all [frc_eq]⟩) | (have hh := ofO_val2 hr'; refine ⟨hh.1, fun h2 => ?_⟩; have h3 := hh.2 h2; simp_all [frc_eq]; done) | exact ofO_val2 hr' | (exact ⟨hr'.2.symm, hr'.1⟩)
 | buildS z0 z1 z2 z3 => first | (cases hq; done) | (cases hl; done) | (cases hal; done)
 | ld z0 z1 z2 => first | (cases hq; done) | (cases hl; done) | (cases hal; done)
 | st z0 z1 z2 => first | (cases hq; done) | (cases hl; done) | (cases hal; done)
 | nilc z0 =>
  have hr' : rNilc z0 a h = .val v h' := hr
  show h' = h ∧ ∀ h2, rNilc z0 a h2 = .val v h2
  unfold rNilc at hr' ⊢
  (repeat' split at hr') <;> (try simp only [frc_eq] at hr') <;> first | (cases hr'; done) | (cases hr'; exact ⟨rfl, fun _ => by simp_all [frc_eq]⟩) | (have hh := ofO_val2 hr'; refine ⟨hh.1, fun h2 => ?_⟩; have h3 := hh.2 h2; simp_all [frc_eq]; done) | exact ofO_val2 hr' | (exact ⟨hr'.2.symm, hr'.1⟩)
 | bin z0 z1 z2 z3 z4 =>
  have hr' : rBin z0 z1 z2 z3 z4 a h = .val v h' := hr
  show h' = h ∧ ∀ h2, rBin z0 z1 z2 z3 z4 a h2 = .val v h2
  unfold rBin at hr' ⊢
  (repeat' split at hr') <;> (try simp only [frc_eq] at hr') <;> first | (cases hr'; done) | (cases hr'; exact ⟨rfl, fun _ => by simp_all [frc_eq]⟩) | (have hh := ofO_val2 hr'; refine ⟨hh.1, fun h2 => ?_⟩; have h3 := hh.2 h2; simp_all [frc_eq]; done) | exact ofO_val2 hr' | (exact ⟨hr'.2.symm, hr'.1⟩)
 | un z0 z1 =>
  have hr' : rUn z0 z1 a h = .val v h' := hr
  show h' = h ∧ ∀ h2, rUn z0 z1 a h2 = .val v h2
  unfold rUn at hr' ⊢
  (repeat' split at hr') <;> (try simp only [frc_eq] at hr') <;> first | (cases hr'; done) | (cases hr'; exact ⟨rfl, fun _ => by simp_all [frc_eq]⟩) | (have hh := ofO_val2 hr'; refine ⟨hh.1, fun h2 => ?_⟩; have h3 := hh.2 h2; simp_all [frc_eq]; done) | exact ofO_val2 hr' | (exact ⟨hr'.2.symm, hr'.1⟩)
 | conv z0 z1 =>
  have hr' : rConv z0 z1 a h = .val v h' := hr
  show h' = h ∧ ∀ h2, rConv z0 z1 a h2 = .val v h2
  unfold rConv at hr' ⊢
  (repeat' split at hr') <;> (try simp only [frc_eq] at hr') <;> first | (cases hr'; done) | (cases hr'; exact ⟨rfl, fun _ => by simp_all [frc_eq]⟩) | (have hh := ofO_val2 hr'; refine ⟨hh.1, fun h2 => ?_⟩; have h3 := hh.2 h2; simp_all [frc_eq]; done) | exact ofO_val2 hr' | (exact ⟨hr'.2.symm, hr'.1⟩)
 | convS z0 =>
  have hr' : rConvS z0 a h = .val v h' := hr
  show h' = h ∧ ∀ h2, rConvS z0 a h2 = .val v h2
  unfold rConvS at hr' ⊢
  (repeat' split at hr') <;> (try simp only [frc_eq] at hr') <;> first | (cases hr'; done) | (cases hr'; exact ⟨rfl, fun _ => by simp_all [frc_eq]⟩) | (have hh := ofO_val2 hr'; refine ⟨hh.1, fun h2 => ?_⟩; have h3 := hh.2 h2; simp_all [frc_eq]; done) | exact ofO_val2 hr' | (exact ⟨hr'.2.symm, hr'.1⟩)
 | convB z0 => first | (cases hq; done) | (cases hl; done) | (cases hal; done)
 | mkI z0 z1 =>
  have hr' : rMkI z0 z1 a h = .val v h' := hr
  show h' = h ∧ ∀ h2, rMkI z0 z1 a h2 = .val v h2
  unfold rMkI at hr' ⊢
  (repeat' split at hr') <;> (try simp only [frc_eq] at hr') <;> first | (cases hr'; done) | (cases hr'; exact ⟨rfl, fun _ => by simp_all [frc_eq]⟩) | (have hh := ofO_val2 hr'; refine ⟨hh.1, fun h2 => ?_⟩; have h3 := hh.2 h2; simp_all [frc_eq]; done) | exact ofO_val2 hr' | (exact ⟨hr'.2.symm, hr'.1⟩)
 | mkF z0 z1 z2 =>
  have hr' : rMkF z0 z1 z2 a h = .val v h' := hr
  show h' = h ∧ ∀ h2, rMkF z0 z1 z2 a h2 = .val v h2
  unfold rMkF at hr' ⊢
  (repeat' split at hr') <;> (try simp only [frc_eq] at hr') <;> first | (cases hr'; done) | (cases hr'; exact ⟨rfl, fun _ => by simp_all [frc_eq]⟩) | (have hh := ofO_val2 hr'; refine ⟨hh.1, fun h2 => ?_⟩; have h3 := hh.2 h2; simp_all [frc_eq]; done) | exact ofO_val2 hr' | (exact ⟨hr'.2.symm, hr'.1⟩)
 | mkM  => first | (cases hq; done) | (cases hl; done) | (cases hal; done)
 | mkS z0 z1 z2 z3 z4 z5 => first | (cases hq; done) | (cases hl; done) | (cases hal; done)
 | slStr z0 z1 z2 =>
  have hr' : rSlStr z0 z1 z2 a h = .val v h' := hr
  show h' = h ∧ ∀ h2, rSlStr z0 z1 z2 a h2 = .val v h2
  unfold rSlStr at hr' ⊢
  (repeat' split at hr') <;> (try simp only [frc_eq] at hr') <;> first | (cases hr'; done) | (cases hr'; exact ⟨rfl, fun _ => by simp_all [frc_eq]⟩) | (have hh := ofO_val2 hr'; refine ⟨hh.1, fun h2 => ?_⟩; have h3 := hh.2 h2; simp_all [frc_eq]; done) | exact ofO_val2 hr' | (exact ⟨hr'.2.symm, hr'.1⟩)
 | slSl z0 z1 z2 z3 =>
  have hr' : rSlSl z0 z1 z2 z3 a h = .val v h' := hr
  show h' = h ∧ ∀ h2, rSlSl z0 z1 z2 z3 a h2 = .val v h2
  unfold rSlSl at hr' ⊢
  (repeat' split at hr') <;> (try simp only [frc_eq] at hr') <;> first | (cases hr'; done) | (cases hr'; exact ⟨rfl, fun _ => by simp_all [frc_eq]⟩) | (have hh := ofO_val2 hr'; refine ⟨hh.1, fun h2 => ?_⟩; have h3 := hh.2 h2; simp_all [frc_eq]; done) | exact ofO_val2 hr' | (exact ⟨hr'.2.symm, hr'.1⟩)
 | slArr z0 z1 z2 z3 z4 =>
  have hr' : rSlArr z0 z1 z2 z3 z4 a h = .val v h' := hr
  show h' = h ∧ ∀ h2, rSlArr z0 z1 z2 z3 z4 a h2 = .val v h2
  unfold rSlArr at hr' ⊢
  (repeat' split at hr') <;> (try simp only [frc_eq] at hr') <;> first | (cases hr'; done) | (cases hr'; exact ⟨rfl, fun _ => by simp_all [frc_eq]⟩) | (have hh := ofO_val2 hr'; refine ⟨hh.1, fun h2 => ?_⟩; have h3 := hh.2 h2; simp_all [frc_eq]; done) | exact ofO_val2 hr' | (exact ⟨hr'.2.symm, hr'.1⟩)
 | fa z0 z1 =>
  have hr' : rFa z0 z1 a h = .val v h' := hr
  show h' = h ∧ ∀ h2, rFa z0 z1 a h2 = .val v h2
  unfold rFa at hr' ⊢
  (repeat' split at hr') <;> (try simp only [frc_eq] at hr') <;> first | (cases hr'; done) | (cases hr'; exact ⟨rfl, fun _ => by simp_all [frc_eq]⟩) | (have hh := ofO_val2 hr'; refine ⟨hh.1, fun h2 => ?_⟩; have h3 := hh.2 h2; simp_all [frc_eq]; done) | exact ofO_val2 hr' | (exact ⟨hr'.2.symm, hr'.1⟩)
 | fld z0 z1 z2 z3 =>
  have hr' : rFld z0 z1 z2 z3 a h = .val v h' := hr
  show h' = h ∧ ∀ h2, rFld z0 z1 z2 z3 a h2 = .val v h2
  unfold rFld at hr' ⊢
  (repeat' split at hr') <;> (try simp only [frc_eq] at hr') <;> first | (cases hr'; done) | (cases hr'; exact ⟨rfl, fun _ => by simp_all [frc_eq]⟩) | (have hh := ofO_val2 hr'; refine ⟨hh.1, fun h2 => ?_⟩; have h3 := hh.2 h2; simp_all [frc_eq]; done) | exact ofO_val2 hr' | (exact ⟨hr'.2.symm, hr'.1⟩)
 | ia z0 z1 z2 =>
  have hr' : rIa z0 z1 z2 a h = .val v h' := hr
  show h' = h ∧ ∀ h2, rIa z0 z1 z2 a h2 = .val v h2
  unfold rIa at hr' ⊢
  (repeat' split at hr') <;> (try simp only [frc_eq] at hr') <;> first | (cases hr'; done) | (cases hr'; exact ⟨rfl, fun _ => by simp_all [frc_eq]⟩) | (have hh := ofO_val2 hr'; refine ⟨hh.1, fun h2 => ?_⟩; have h3 := hh.2 h2; simp_all [frc_eq]; done) | exact ofO_val2 hr' | (exact ⟨hr'.2.symm, hr'.1⟩)
 | iaArr z0 z1 z2 z3 =>
  have hr' : rIaArr z0 z1 z2 z3 a h = .val v h' := hr
  show h' = h ∧ ∀ h2, rIaArr z0 z1 z2 z3 a h2 = .val v h2
  unfold rIaArr at hr' ⊢
  (repeat' split at hr') <;> (try simp only [frc_eq] at hr') <;> first | (cases hr'; done) | (cases hr'; exact ⟨rfl, fun _ => by simp_all [frc_eq]⟩) | (have hh := ofO_val2 hr'; refine ⟨hh.1, fun h2 => ?_⟩; have h3 := hh.2 h2; simp_all [frc_eq]; done) | exact ofO_val2 hr' | (exact ⟨hr'.2.symm, hr'.1⟩)
 | ixS z0 z1 =>
  have hr' : rIxS z0 z1 a h = .val v h' := hr
  show h' = h ∧ ∀ h2, rIxS z0 z1 a h2 = .val v h2
  unfold rIxS at hr' ⊢
  (repeat' split at hr') <;> (try simp only [frc_eq] at hr') <;> first | (cases hr'; done) | (cases hr'; exact ⟨rfl, fun _ => by simp_all [frc_eq]⟩) | (have hh := ofO_val2 hr'; refine ⟨hh.1, fun h2 => ?_⟩; have h3 := hh.2 h2; simp_all [frc_eq]; done) | exact ofO_val2 hr' | (exact ⟨hr'.2.symm, hr'.1⟩)
 | ixA z0 z1 z2 =>
  have hr' : rIxA z0 z1 z2 a h = .val v h' := hr
  show h' = h ∧ ∀ h2, rIxA z0 z1 z2 a h2 = .val v h2
  unfold rIxA at hr' ⊢
  (repeat' split at hr') <;> (try simp only [frc_eq] at hr') <;> first | (cases hr'; done) | (cases hr'; exact ⟨rfl, fun _ => by simp_all [frc_eq]⟩) | (have hh := ofO_val2 hr'; refine ⟨hh.1, fun h2 => ?_⟩; have h3 := hh.2 h2; simp_all [frc_eq]; done) | exact ofO_val2 hr' | (exact ⟨hr'.2.symm, hr'.1⟩)
 | look z0 z1 z2 z3 z4 => first | (cases hq; done) | (cases hl; done) | (cases hal; done)
 | upd z0 z1 z2 z3 => first | (cases hq; done) | (cases hl; done) | (cases hal; done)
 | ins z0 z1 z2 z3 => first | (cases hq; done) | (cases hl; done) | (cases hal; done)
 | ext z0 z1 =>
  have hr' : rExt z0 z1 a h = .val v h' := hr
  show h' = h ∧ ∀ h2, rExt z0 z1 a h2 = .val v h2
  unfold rExt at hr' ⊢
  (repeat' split at hr') <;> (try simp only [frc_eq] at hr') <;> first | (cases hr'; done) | (cases hr'; exact ⟨rfl, fun _ => by simp_all [frc_eq]⟩) | (have hh := ofO_val2 hr'; refine ⟨hh.1, fun h2 => ?_⟩; have h3 := hh.2 h2; simp_all [frc_eq]; done) | exact ofO_val2 hr' | (exact ⟨hr'.2.symm, hr'.1⟩)
 | ta z0 z1 z2 z3 => first | (cases hq; done) | (cases hl; done) | (cases hal; done)
 | pan z0 => first | (cases hq; done) | (cases hl; done) | (cases hal; done)
 | len z0 z1 => first | (cases hq; done) | (cases hl; done) | (cases hal; done)
 | lenN z0 =>
  have hr' : rLenN z0 a h = .val v h' := hr
  show h' = h ∧ ∀ h2, rLenN z0 a h2 = .val v h2
  unfold rLenN at hr' ⊢
  (repeat' split at hr') <;> (try simp only [frc_eq] at hr') <;> first | (cases hr'; done) | (cases hr'; exact ⟨rfl, fun _ => by simp_all [frc_eq]⟩) | (have hh := ofO_val2 hr'; refine ⟨hh.1, fun h2 => ?_⟩; have h3 := hh.2 h2; simp_all [frc_eq]; done) | exact ofO_val2 hr' | (exact ⟨hr'.2.symm, hr'.1⟩)
 | capS z0 =>
  have hr' : rCapS z0 a h = .val v h' := hr
  show h' = h ∧ ∀ h2, rCapS z0 a h2 = .val v h2
  unfold rCapS at hr' ⊢
  (repeat' split at hr') <;> (try simp only [frc_eq] at hr') <;> first | (cases hr'; done) | (cases hr'; exact ⟨rfl, fun _ => by simp_all [frc_eq]⟩) | (have hh := ofO_val2 hr'; refine ⟨hh.1, fun h2 => ?_⟩; have h3 := hh.2 h2; simp_all [frc_eq]; done) | exact ofO_val2 hr' | (exact ⟨hr'.2.symm, hr'.1⟩)
 | app z0 z1 z2 z3 z4 => first | (cases hq; done) | (cases hl; done) | (cases hal; done)
 | appZ z0 z1 z2 z3 z4 z5 => first | (cases hq; done) | (cases hl; done) | (cases hal; done)
 | max z0 z1 =>
  have hr' : rMax z0 z1 a h = .val v h' := hr
  show h' = h ∧ ∀ h2, rMax z0 z1 a h2 = .val v h2
  unfold rMax at hr' ⊢
  (repeat' split at hr') <;> (try simp only [frc_eq] at hr') <;> first | (cases hr'; done) | (cases hr'; exact ⟨rfl, fun _ => by simp_all [frc_eq]⟩) | (have hh := ofO_val2 hr'; refine ⟨hh.1, fun h2 => ?_⟩; have h3 := hh.2 h2; simp_all [frc_eq]; done) | exact ofO_val2 hr' | (exact ⟨hr'.2.symm, hr'.1⟩)
 | min z0 z1 =>
  have hr' : rMin z0 z1 a h = .val v h' := hr
  show h' = h ∧ ∀ h2, rMin z0 z1 a h2 = .val v h2
  unfold rMin at hr' ⊢
  (repeat' split at hr') <;> (try simp only [frc_eq] at hr') <;> first | (cases hr'; done) | (cases hr'; exact ⟨rfl, fun _ => by simp_all [frc_eq]⟩) | (have hh := ofO_val2 hr'; refine ⟨hh.1, fun h2 => ?_⟩; have h3 := hh.2 h2; simp_all [frc_eq]; done) | exact ofO_val2 hr' | (exact ⟨hr'.2.symm, hr'.1⟩)
 | rngS z0 => first | (cases hq; done) | (cases hl; done) | (cases hal; done)
 | nextS z0 => first | (cases hq; done) | (cases hl; done) | (cases hal; done)
 | call z0 z1 => first | (cases hq; done) | (cases hl; done) | (cases hal; done)
 | callF z0 z1 => first | (cases hq; done) | (cases hl; done) | (cases hal; done)
 | dfr z0 z1 => first | (cases hq; done) | (cases hl; done) | (cases hal; done)
 | bad  => first | (cases hq; done) | (cases hl; done) | (cases hal; done)
theorem loadRaw_mono {h2 : H} (H : Sees h h2) {g : Bool} {n b off : Nat} {v : AV} (hr : loadRaw h g n b off = some v) : loadRaw h2 g n b off = some v := by
 unfold loadRaw at hr ⊢
 split at hr
 ·rename_i cs _ _ _ hg; rw [H.2 _ _ hg]; exact hr
 ·cases hr
theorem loadAt_mono {h2 : H} (H : Sees h h2) {g : Bool} {n b off : Nat} {v : AV} (hr : loadAt h g n b off = some v) : loadAt h2 g n b off = some v := by
 unfold loadAt at hr ⊢
 obtain ⟨v0, h0, -⟩ := resO_some hr
 rw [h0] at hr
 rw [loadRaw_mono H h0, H.1]
 exact hr
theorem ld_val {g : Bool} {n : Nat} {x : XO} {v : AV} (hr : runOp0 (.ld g n x) r a h = .val v h') : h' = h ∧ ∀ h2 : H, Sees h h2 → runOp0 (.ld g n x) r a h2 = .val v h2 := by
 have hr' : rLd g n x a h = .val v h' := hr
 show h' = h ∧ ∀ h2 : H, Sees h h2 → rLd g n x a h2 = .val v h2
 unfold rLd at hr' ⊢
 split at hr'
 ·rename_i b off hx
  try simp only [hx]
  unfold ofO at hr' ⊢
  split at hr'
  ·rename_i u hu
   cases hr'
   exact ⟨rfl, fun h2 H => by rw [loadAt_mono H hu]⟩
  ·cases hr'
 ·cases hr'
theorem convB_val {x : XO} {v : AV} (hr : runOp0 (.convB x) r a h = .val v h') : h' = h ∧ ∀ h2 : H, Sees h h2 → runOp0 (.convB x) r a h2 = .val v h2 := by
 have hr' : rConvB x a h = .val v h' := hr
 show h' = h ∧ ∀ h2 : H, Sees h h2 → rConvB x a h2 = .val v h2
 unfold rConvB at hr' ⊢
 split at hr'
 ·rename_i hx
  try simp only [hx]
  cases hr'
  exact ⟨rfl, fun _ _ => rfl⟩
 ·rename_i b off n cap ex hx
  try simp only [hx]
  split at hr'
  ·rename_i cs hl
   split at hr'
   ·rename_i c hc
    simp only [frc_eq] at hr'
    cases hr'
    exact ⟨rfl, fun h2 H => by rw [loadRaw_mono H hl]; simp only [hc, frc_eq]⟩
   ·cases hr'
  ·cases hr'
 ·cases hr'
theorem len_val {k : LK} {x : XO} {v : AV} (hr : runOp0 (.len k x) r a h = .val v h') : h' = h ∧ ∀ h2 : H, Sees h h2 → runOp0 (.len k x) r a h2 = .val v h2 := by
 have hr' : rLen k x a h = .val v h' := hr
 show h' = h ∧ ∀ h2 : H, Sees h h2 → rLen k x a h2 = .val v h2
 unfold rLen at hr' ⊢
 split at hr'
 ·rename_i u hx
  try simp only [hx]
  unfold ofO at hr' ⊢
  split at hr'
  ·rename_i y hu
   cases hr'
   refine ⟨rfl, fun h2 H => ?_⟩
   have : evLen k u h2 = some v := by
    unfold evLen at hu ⊢
    split at hu <;> try exact hu
    split at hu
    ·rename_i es _ hg; simp only [H.2 _ _ hg]; exact hu
    ·cases hu
   rw [this]
  ·cases hr'
 ·cases hr'
theorem look_val0' {k : KT} {z : AV} {ok : Bool} {x y : XO} {v : AV} (hr : runOp0 (.look k z ok x y) r a h = .val v h') : h' = h ∧ ∀ h2 : H, Sees h h2 → runOp0 (.look k z ok x y) r a h2 = .val v h2 := by
 have hr' : rLook k z ok x y a h = .val v h' := hr
 show h' = h ∧ ∀ h2 : H, Sees h h2 → rLook k z ok x y a h2 = .val v h2
 unfold rLook at hr' ⊢
 split at hr'
 ·rename_i m key hm hk
  try simp only [hm, hk]
  split at hr'
  ·rename_i es hp he
   have hes : ∀ h2 : H, Sees h h2 → mapEs k m h2 = some es := by
    intro h2 H
    unfold mapEs at he ⊢
    split at he
    ·exact he
    ·split at he
     ·rename_i es' _ hg; simp only [H.2 _ _ hg]; exact he
     ·rename_i es' hg; simp only [H.2 _ _ hg]; exact he
     ·cases he
    ·cases he
   split at hr'
   ·rename_i u hf
    cases hr'
    exact ⟨rfl, fun h2 H => by simp only [hp, hes h2 H, hf, H.1]⟩
   ·rename_i hf
    cases hr'
    exact ⟨rfl, fun h2 H => by simp only [hp, hes h2 H, hf, H.1]⟩
   ·cases hr'
  ·cases hr'
 ·cases hr'
theorem look_val0 (xop : XOp) (hl : xlooks xop = true) {v : AV} (hr : runOp0 xop r a h = .val v h') : h' = h ∧ ∀ h2 : H, Sees h h2 → runOp0 xop r a h2 = .val v h2 := by
 cases xop with
 | mv z0 => cases hl
 | pick z0 z1 z2 => cases hl
 | new z0 z1 => cases hl
 | box z0 z1 => cases hl
 | build z0 z1 => cases hl
 | buildS z0 z1 z2 z3 => cases hl
 | ld z0 z1 z2 => exact ld_val hr
 | st z0 z1 z2 => cases hl
 | nilc z0 => cases hl
 | bin z0 z1 z2 z3 z4 => cases hl
 | un z0 z1 => cases hl
 | conv z0 z1 => cases hl
 | convS z0 => cases hl
 | convB z0 => exact convB_val hr
 | mkI z0 z1 => cases hl
 | mkF z0 z1 z2 => cases hl
 | mkM  => cases hl
 | mkS z0 z1 z2 z3 z4 z5 => cases hl
 | slStr z0 z1 z2 => cases hl
 | slSl z0 z1 z2 z3 => cases hl
 | slArr z0 z1 z2 z3 z4 => cases hl
 | fa z0 z1 => cases hl
 | fld z0 z1 z2 z3 => cases hl
 | ia z0 z1 z2 => cases hl
 | iaArr z0 z1 z2 z3 => cases hl
 | ixS z0 z1 => cases hl
 | ixA z0 z1 z2 => cases hl
 | look z0 z1 z2 z3 z4 => exact look_val0' hr
 | upd z0 z1 z2 z3 => cases hl
 | ins z0 z1 z2 z3 => cases hl
 | ext z0 z1 => cases hl
 | ta z0 z1 z2 z3 => cases hl
 | pan z0 => cases hl
 | len z0 z1 => exact len_val hr
 | lenN z0 => cases hl
 | capS z0 => cases hl
 | app z0 z1 z2 z3 z4 => cases hl
 | appZ z0 z1 z2 z3 z4 z5 => cases hl
 | max z0 z1 => cases hl
 | min z0 z1 => cases hl
 | rngS z0 => cases hl
 | nextS z0 => cases hl
 | call z0 z1 => cases hl
 | callF z0 z1 => cases hl
 | dfr z0 z1 => cases hl
 | bad  => cases hl
theorem alloc_val0 (xop : XOp) (hal : xalloc xop = true) {v : AV} (hr : runOp0 xop r a h = .val v h') :
  ∃ (mk : Nat → AV) (blk : Blk), v = mk h.next ∧ h' = h.new blk ∧ blk.wr = true ∧ ∀ h2 : H, runOp0 xop r a h2 = .val (mk h2.next) (h2.new blk) := by
 cases xop with
 | mv z0 => cases hal
 | pick z0 z1 z2 => cases hal
 | new z0 z1 =>
  have hr' : rNew z0 z1 a h = .val v h' := hr
  show ∃ (mk : Nat → AV) (blk : Blk), v = mk h.next ∧ h' = h.new blk ∧ blk.wr = true ∧ ∀ h2 : H, rNew z0 z1 a h2 = .val (mk h2.next) (h2.new blk)
  unfold rNew at hr' ⊢
  refine ⟨fun b => .ptr b 0, ?_⟩
  (repeat' split at hr') <;> first | (cases hr'; done) | (cases hr'; exact ⟨_, rfl, rfl, rfl, fun h2 => by simp_all⟩)
 | box z0 z1 =>
  have hr' : rBox z0 z1 a h = .val v h' := hr
  show ∃ (mk : Nat → AV) (blk : Blk), v = mk h.next ∧ h' = h.new blk ∧ blk.wr = true ∧ ∀ h2 : H, rBox z0 z1 a h2 = .val (mk h2.next) (h2.new blk)
  unfold rBox at hr' ⊢
  refine ⟨fun b => .ptr b 0, ?_⟩
  (repeat' split at hr') <;> first | (cases hr'; done) | (cases hr'; exact ⟨_, rfl, rfl, rfl, fun h2 => by simp_all⟩)
 | build z0 z1 => cases hal
 | buildS z0 z1 z2 z3 =>
  have hr' : rBuildS z0 z1 z2 z3 a h = .val v h' := hr
  show ∃ (mk : Nat → AV) (blk : Blk), v = mk h.next ∧ h' = h.new blk ∧ blk.wr = true ∧ ∀ h2 : H, rBuildS z0 z1 z2 z3 a h2 = .val (mk h2.next) (h2.new blk)
  unfold rBuildS at hr' ⊢
  refine ⟨fun b => .slice b 0 z1 z1 true, ?_⟩
  (repeat' split at hr') <;> first | (cases hr'; done) | (cases hr'; exact ⟨_, rfl, rfl, rfl, fun h2 => by simp_all⟩)
 | ld z0 z1 z2 => cases hal
 | st z0 z1 z2 => cases hal
 | nilc z0 => cases hal
 | bin z0 z1 z2 z3 z4 => cases hal
 | un z0 z1 => cases hal
 | conv z0 z1 => cases hal
 | convS z0 => cases hal
 | convB z0 => cases hal
 | mkI z0 z1 => cases hal
 | mkF z0 z1 z2 => cases hal
 | mkM  =>
  have hr' : rMkM  a h = .val v h' := hr
  show ∃ (mk : Nat → AV) (blk : Blk), v = mk h.next ∧ h' = h.new blk ∧ blk.wr = true ∧ ∀ h2 : H, rMkM  a h2 = .val (mk h2.next) (h2.new blk)
  unfold rMkM at hr' ⊢
  refine ⟨fun b => .map b, ?_⟩
  (repeat' split at hr') <;> first | (cases hr'; done) | (cases hr'; exact ⟨_, rfl, rfl, rfl, fun h2 => by simp_all⟩)
 | mkS z0 z1 z2 z3 z4 z5 => cases hal
 | slStr z0 z1 z2 => cases hal
 | slSl z0 z1 z2 z3 => cases hal
 | slArr z0 z1 z2 z3 z4 => cases hal
 | fa z0 z1 => cases hal
 | fld z0 z1 z2 z3 => cases hal
 | ia z0 z1 z2 => cases hal
 | iaArr z0 z1 z2 z3 => cases hal
 | ixS z0 z1 => cases hal
 | ixA z0 z1 z2 => cases hal
 | look z0 z1 z2 z3 z4 => cases hal
 | upd z0 z1 z2 z3 => cases hal
 | ins z0 z1 z2 z3 => cases hal
 | ext z0 z1 => cases hal
 | ta z0 z1 z2 z3 => cases hal
 | pan z0 => cases hal
 | len z0 z1 => cases hal
 | lenN z0 => cases hal
 | capS z0 => cases hal
 | app z0 z1 z2 z3 z4 => cases hal
 | appZ z0 z1 z2 z3 z4 z5 => cases hal
 | max z0 z1 => cases hal
 | min z0 z1 => cases hal
 | rngS z0 => cases hal
 | nextS z0 => cases hal
 | call z0 z1 => cases hal
 | callF z0 z1 => cases hal
 | dfr z0 z1 => cases hal
 | bad  => cases hal
end
end Go.Ev
namespace Go.Ev
set_option linter.unusedSectionVars false
variable [Sig]
omit [Sig] in
theorem ieq_sound {a b : Int} (h : ieq a b = true) : a = b := by
 cases a <;> cases b <;> simp only [ieq] at h <;> first | (cases h; done) | (rw [Nat.eq_of_beq_eq_true h])
def plV (tx : Tx) (kap : Nat → Nat) (p : Nat × Nat) : Int := (tx.place kap p.1 : Int) + p.2 - 32768
omit [Sig] in
theorem lenN_eq {α : Type} : ∀ (l : List α), lenN l = l.length
 | [] => rfl
 | x :: l => by simp only [lenN, lenN_eq l, List.length_cons]
omit [Sig] in
theorem nthN_eq {α : Type} : ∀ (l : List α) (n : Nat), nthN l n = l[n]?
 | [], n => by simp [nthN]
 | x :: l, 0 => rfl
 | x :: l, n + 1 => by simp only [nthN]; rw [nthN_eq l n]; simp
omit [Sig] in
theorem alt_len {tx : Tx} {kap : Nat → Nat} {j k : Nat} {a : Nat × Nat} (h : altP tx j k = some a) (hk : kap j = k) : tx.alt kap j = bytesOf a.1 a.2 := by
 unfold altP at h
 unfold Tx.alt
 split at h
 ·rename_i l hl
  rw [nthN_eq] at hl h
  rw [hl]
  cases l with
  | nil => simp at h
  | cons x l => rw [hk]; simp only [h]
 ·cases h
theorem normP_val {tx : Tx} {as : List (Nat × Nat)} (hA : AsmOk as) : ∀ (f : Nat) (p : Nat × Nat), plV tx Sig.kap (normP tx as f p) = plV tx Sig.kap p
 | 0, p => rfl
 | f + 1, (j, r) => by
  simp only [normP]
  split
  ·rename_i k hk
   split
   ·rename_i a ha
    split
    ·rename_i hc
     simp only [Bool.and_eq_true] at hc
     rw [normP_val hA f]
     have hkap : Sig.kap j = k := hA _ (lookA_mem hk)
     have h1 : tx.alt Sig.kap j = bytesOf a.1 a.2 := alt_len ha hkap
     have h2 := Nat.le_of_ble_eq_true hc.2.1
     simp only [Nat.add_eq] at h2
     simp only [plV, Nat.succ_eq_add_one, Nat.add_eq, Nat.sub_eq, Tx.place, h1, bytesOf_length]
     omega
    ·rfl
   ·rfl
  ·rfl
omit [Sig] in
theorem plChk_some {ok : Bool} {tx : Tx} {m : Nat} {s : Int} {i r : Nat} {p : Nat × Nat} (h : plChk ok tx m s i r = some p) : p = (i, r) ∧ s = .negSucc m ∧ i ≤ tx.its.length := by
 unfold plChk at h
 split at h
 ·rename_i hc
  simp only [Bool.and_eq_true] at hc
  exact ⟨(Option.some.inj h).symm, ieq_sound hc.2.1, by rw [← lenN_eq]; exact Nat.le_of_ble_eq_true hc.2.2⟩
 ·cases h
theorem symR_lt (m : Nat) : symR m < 65536 := Nat.mod_lt _ (by decide)
theorem plNat_val {B K : Nat} (hB : B ≤ K) (hK : K = 32768) {tx : Tx} {a : Nat} {p : Nat × Nat} (h : plNat B K tx a = some p) : (a : Int) = plV tx Sig.kap p ∧ p.1 = 0 := by
 unfold plNat at h
 split at h
 ·rename_i hc
  simp only [Bool.and_eq_true] at hc
  have h2 : tx.head.1 ≤ B := Nat.le_of_ble_eq_true hc.2
  have e : Nat.sub (Nat.add a K) tx.head.1 = a + K - tx.head.1 := rfl
  have h3 : a < B := Nat.le_of_ble_eq_true hc.1
  rw [e] at h
  cases h
  refine ⟨?_, rfl⟩
  simp only [plV, Tx.place]
  omega
 ·cases h
theorem plAt_val {tx : Tx} (ht : TxOk tx) (hon : tx.on = true) {ok : Bool} {m i r : Nat} (hr : r < 65536) {p : Nat × Nat} (h : plChk ok tx m (symC 6 i 0 r) i r = some p) : dec (.negSucc m) = plV tx Sig.kap p ∧ p.1 ≤ tx.its.length := by
 obtain ⟨rfl, h1, h2⟩ := plChk_some h
 refine ⟨?_, h2⟩
 have h4 := (ht hon).2.1 _ _ h2 hr
 rw [h1] at h4
 exact h4
theorem plOf_val {tx : Tx} (ht : TxOk tx) (hon : tx.on = true) {z : Int} {p : Nat × Nat} (h : plOf tx z = some p) : dec z = plV tx Sig.kap p ∧ p.1 ≤ tx.its.length := by
 cases z with
 | ofNat a =>
  obtain ⟨h1, h2⟩ := plNat_val (B := 1000) (by decide) rfl h
  exact ⟨(dec_of rfl).trans h1, by rw [h2]; exact Nat.zero_le _⟩
 | negSucc m => exact plAt_val ht hon (symR_lt m) h
theorem plInt_val {tx : Tx} (ht : TxOk tx) (hon : tx.on = true) {p : Nat × Nat} {z : Int} (h : plInt tx p = some z) : dec z = plV tx Sig.kap p := by
 obtain ⟨j, r⟩ := p
 replace h : plIntM 65536 32768 tx (j, r) = some z := h
 generalize hT : (65536 : Nat) = T at h
 generalize hK : (32768 : Nat) = K at h
 unfold plIntM at h
 simp only at h
 split at h
 ·rename_i hc
  simp only [Bool.and_eq_true] at hc
  have h1 : r < T := Nat.le_of_ble_eq_true hc.1
  have h2 : j ≤ tx.its.length := by rw [← lenN_eq]; exact Nat.le_of_ble_eq_true hc.2
  split at h
  ·rename_i hz
   have hj : j = 0 := Nat.eq_of_beq_eq_true hz
   subst hj
   split at h
   ·rename_i hb
    have hb : K ≤ tx.head.1 + r := Nat.le_of_ble_eq_true hb
    cases h
    rw [dec_of rfl]
    have e : Nat.sub (Nat.add tx.head.1 r) K = tx.head.1 + r - K := rfl
    simp only [plV, Tx.place, e, Int.ofNat_eq_natCast]
    omega
   ·cases h
  ·cases h
   exact (ht hon).2.1 _ _ h2 (by omega)
 ·cases h
theorem plcI_cv {tx : Tx} (ht : TxOk tx) (hon : tx.on = true) {as : List (Nat × Nat)} (hA : AsmOk as) (E : Env) (k : IntKind) (z : Int) : cv E (plcI tx as k z) = cv E (.int k z) := by
 unfold plcI
 split
 ·rename_i p hp
  split
  ·rename_i y hy
   simp only [cv]
   rw [plInt_val ht hon hy, normP_val hA, (plOf_val ht hon hp).1]
  ·rfl
 ·rfl
omit [Sig] in
theorem plcI_one (tx : Tx) (as : List (Nat × Nat)) (k : IntKind) (z : Int) : (plcI tx as k z).one = true := by
 unfold plcI
 split
 ·split <;> rfl
 ·rfl
omit [Sig] in
theorem plcV_one {tx : Tx} {as : List (Nat × Nat)} : ∀ {v : AV}, v.one = true → (plcV tx as v).one = true
 | .int k z, _ => plcI_one tx as k z
 | .agg _, h => by cases h
 | .tuple _, h => by cases h
 | .iface _ _, _ => rfl
 | .bool _, h | .str _ _, h | .ptr _ _, h | .nilptr, h | .slice _ _ _ _ _, h | .nilslice, h | .map _, h | .nilmap, h | .func _ _ _, h | .yield _, h | .nilfunc, h | .niliface, h | .sel _ _, h | .pre _, h | .suf _ _, h | .rng _ _ _, h => h
mutual
theorem plcV_cv {tx : Tx} (ht : TxOk tx) (hon : tx.on = true) {as : List (Nat × Nat)} (hA : AsmOk as) {E : Env} : ∀ {v : AV} {u : Value}, cv E v = some u → cv E (plcV tx as v) = some u
 | .int k z, u, h => by rw [plcV, plcI_cv ht hon hA]; exact h
 | .agg cs, u, h => by
  simp only [plcV, cv] at h ⊢
  split at h
  ·rename_i l hl; rw [plcC_cv ht hon hA hl]; exact h
  ·cases h
 | .tuple cs, u, h => by
  simp only [plcV, cv] at h ⊢
  split at h
  ·rename_i l hl; rw [plcL_cv ht hon hA hl]; exact h
  ·cases h
 | .iface t v, u, h => by
  simp only [plcV, cv] at h ⊢
  split at h
  ·rename_i l hl; rw [plcV_cv ht hon hA hl]; exact h
  ·cases h
 | .bool _, _, h | .str _ _, _, h | .ptr _ _, _, h | .nilptr, _, h | .slice _ _ _ _ _, _, h | .nilslice, _, h | .map _, _, h | .nilmap, _, h | .func _ _ _, _, h | .yield _, _, h | .nilfunc, _, h | .niliface, _, h | .sel _ _, _, h | .pre _, _, h | .suf _ _, _, h | .rng _ _ _, _, h => h
theorem plcL_cv {tx : Tx} (ht : TxOk tx) (hon : tx.on = true) {as : List (Nat × Nat)} (hA : AsmOk as) {E : Env} : ∀ {vs : List AV} {l : List Value}, cvL E vs = some l → cvL E (plcL tx as vs) = some l
 | [], l, h => by simpa only [plcL] using h
 | x :: xs, l, h => by
  simp only [plcL, cvL] at h ⊢
  split at h
  ·rename_i u m hu hm; rw [plcV_cv ht hon hA hu, plcL_cv ht hon hA hm]; exact h
  ·cases h
theorem plcC_cv {tx : Tx} (ht : TxOk tx) (hon : tx.on = true) {as : List (Nat × Nat)} (hA : AsmOk as) {E : Env} : ∀ {vs : List AV} {l : List Value}, cvC E vs = some l → cvC E (plcL tx as vs) = some l
 | [], l, h => by simpa only [plcL] using h
 | x :: xs, l, h => by
  simp only [plcL, cvC] at h ⊢
  split at h
  ·rename_i u m ho hu hm; rw [plcV_one ho, plcV_cv ht hon hA hu, plcC_cv ht hon hA hm]; exact h
  ·cases h
end
end Go.Ev
namespace Go.Ev
set_option linter.unusedSectionVars false
variable [Sig]
omit [Sig] in
theorem catS_eq (x y : Nat × Nat) : bytesOf (catS x y).1 (catS x y).2 = bytesOf x.1 x.2 ++ bytesOf y.1 y.2 := (bytesOf_append x.1 y.1 x.2 y.2).symm
omit [Sig] in
theorem dropS_eq (n : Nat) (x : Nat × Nat) : bytesOf (dropS n x).1 (dropS n x).2 = (bytesOf x.1 x.2).drop n := (bytesOf_drop n x.1 x.2).symm
theorem knownJ_ok {tx : Tx} {as : List (Nat × Nat)} (hA : AsmOk as) : ∀ (f j : Nat) (w : Nat × Nat) (e : Bool), j ≤ tx.its.length → knownJ tx as f j = (w, e) →
  ∃ rest, tx.fromB Sig.kap j (tx.its.length - j) = bytesOf w.1 w.2 ++ rest ∧ (e = true → rest = [])
 | 0, j, w, e, hj, h => by
  simp only [knownJ, Prod.mk.injEq] at h
  obtain ⟨rfl, rfl⟩ := h
  exact ⟨_, rfl, fun he => by cases he⟩
 | f + 1, j, w, e, hj, h => by
  simp only [knownJ] at h
  split at h
  ·rename_i hb
   have h1 : tx.its.length ≤ j := by rw [← lenN_eq]; exact Nat.le_of_ble_eq_true hb
   cases h
   have h2 : tx.its.length - j = 0 := by omega
   rw [h2]
   exact ⟨[], by simp [Tx.fromB], fun _ => rfl⟩
  ·rename_i hb
   have h1 : j < tx.its.length := by
    rcases Nat.lt_or_ge j tx.its.length with hlt | hge
    ·exact hlt
    ·rw [← lenN_eq] at hge
     rw [Nat.ble_eq_true_of_le hge] at hb; cases hb
   have none_case : w = (0, 0) → e = false → ∃ rest, tx.fromB Sig.kap j (tx.its.length - j) = bytesOf w.1 w.2 ++ rest ∧ (e = true → rest = []) := by
    rintro rfl rfl
    exact ⟨_, rfl, fun he => by cases he⟩
   split at h
   ·rename_i k hk
    split at h
    ·rename_i a ha
     cases hr : knownJ tx as f (Nat.succ j) with
     | mk w' e' =>
      rw [hr] at h
      cases h
      obtain ⟨rest, h3, h4⟩ := knownJ_ok hA f (Nat.succ j) w' e' h1 hr
      have hkap : Sig.kap j = k := hA _ (lookA_mem hk)
      have h5 : tx.its.length - j = (tx.its.length - Nat.succ j) + 1 := by omega
      refine ⟨rest, ?_, h4⟩
      rw [h5, Tx.fromB, alt_len ha hkap, h3, catS_eq, catS_eq]
      simp
    ·cases h; exact none_case rfl rfl
   ·cases h; exact none_case rfl rfl
theorem fromB_length {tx : Tx} : ∀ (j : Nat), j ≤ tx.its.length → (tx.fromB Sig.kap 0 tx.its.length).length + tx.head.1 = tx.place Sig.kap j + (tx.fromB Sig.kap j (tx.its.length - j)).length
 | 0, _ => by simp only [Tx.place, Nat.sub_zero]; omega
 | j + 1, hj => by
  have ih := fromB_length (tx := tx) j (by omega)
  have h5 : tx.its.length - j = (tx.its.length - (j + 1)) + 1 := by omega
  rw [h5, Tx.fromB] at ih
  simp only [Tx.place, List.length_append, bytesOf_length] at ih ⊢
  omega
theorem drop_place {tx : Tx} : ∀ (j : Nat), j ≤ tx.its.length → (bytesOf tx.head.1 tx.head.2 ++ tx.fromB Sig.kap 0 tx.its.length).drop (tx.place Sig.kap j) = tx.fromB Sig.kap j (tx.its.length - j)
 | 0, _ => by
  simp only [Tx.place, Nat.sub_zero]
  rw [List.drop_append_of_le_length (by rw [bytesOf_length]; exact Nat.le_refl _), List.drop_of_length_le (by rw [bytesOf_length]; exact Nat.le_refl _)]
  rfl
 | j + 1, hj => by
  have ih := drop_place (tx := tx) j (by omega)
  have h5 : tx.its.length - j = (tx.its.length - (j + 1)) + 1 := by omega
  rw [h5, Tx.fromB] at ih
  simp only [Tx.place]
  rw [← List.drop_drop, ih, ← List.append_assoc, List.drop_append_of_le_length (by simp [bytesOf_length]), List.drop_of_length_le (by simp [bytesOf_length])]
  rfl
theorem windowM_ok {M : Nat} (hM : M = 32768) {tx : Tx} {as : List (Nat × Nat)} (hA : AsmOk as) {j r : Nat} (hj : j ≤ tx.its.length) {w : Nat × Nat} {e : Bool} (h : windowM M tx as (j, r) = some (w, e)) :
  0 ≤ plV tx Sig.kap (j, r) ∧ plV tx Sig.kap (j, r) ≤ ((bytesOf tx.head.1 tx.head.2 ++ tx.fromB Sig.kap 0 tx.its.length).length : Int) ∧ ∃ rest, (bytesOf tx.head.1 tx.head.2 ++ tx.fromB Sig.kap 0 tx.its.length).drop (plV tx Sig.kap (j, r)).toNat = bytesOf w.1 w.2 ++ rest ∧ (e = true → rest = []) := by
 simp only [windowM] at h
 split at h
 ·rename_i hb
  have hr : M ≤ r := Nat.le_of_ble_eq_true hb
  cases hk : knownJ tx as (Nat.succ (lenN tx.its)) j with
  | mk w' e' =>
   rw [hk] at h
   simp only at h
   split at h
   ·rename_i hc
    cases h
    have hc : r - M ≤ w'.1 := Nat.le_of_ble_eq_true hc
    obtain ⟨rest, h1, h2⟩ := knownJ_ok hA _ j w' _ hj hk
    have hv : plV tx Sig.kap (j, r) = ((tx.place Sig.kap j + (r - M) : Nat) : Int) := by unfold plV; simp only; omega
    have hL := fromB_length (tx := tx) j hj
    have hK : w'.1 ≤ (tx.fromB Sig.kap j (tx.its.length - j)).length := by rw [h1, List.length_append, bytesOf_length]; omega
    refine ⟨by rw [hv]; omega, by rw [hv, List.length_append, bytesOf_length]; omega, rest, ?_, h2⟩
    rw [hv, Int.toNat_natCast, ← List.drop_drop, drop_place j hj, h1, dropS_eq, List.drop_append_of_le_length (by rw [bytesOf_length]; exact hc)]
    rfl
   ·cases h
 ·rename_i hb
  have hr : r < M := by
   rcases Nat.lt_or_ge r M with hlt | hge
   ·exact hlt
   ·rw [Nat.ble_eq_true_of_le hge] at hb; cases hb
  split at h
  ·split at h
   ·rename_i hc
    have hc : M - r ≤ tx.head.1 := Nat.le_of_ble_eq_true hc
    cases hk : knownJ tx as (Nat.succ (lenN tx.its)) 0 with
    | mk w' e' =>
     rw [hk] at h
     cases h
     obtain ⟨rest, h1, h2⟩ := knownJ_ok hA _ 0 w' _ (Nat.zero_le _) hk
     rw [Nat.sub_zero] at h1
     have hv : plV tx Sig.kap (0, r) = ((tx.head.1 - (M - r) : Nat) : Int) := by unfold plV; simp only [Tx.place]; omega
     refine ⟨by rw [hv]; omega, by rw [hv, List.length_append, bytesOf_length]; omega, rest, ?_, h2⟩
     rw [hv, Int.toNat_natCast, h1, catS_eq, dropS_eq, List.drop_append_of_le_length (by rw [bytesOf_length]; omega), List.append_assoc]
     rfl
   ·cases h
  ·rename_i j'
   split at h
   ·rename_i hc
    have hc : M - r ≤ tx.sep.1 := Nat.le_of_ble_eq_true hc
    cases hk : knownJ tx as (Nat.succ (lenN tx.its)) (j' + 1) with
    | mk w' e' =>
     rw [hk] at h
     cases h
     obtain ⟨rest, h1, h2⟩ := knownJ_ok hA _ (j' + 1) w' _ hj hk
     have h5 : tx.its.length - j' = (tx.its.length - (j' + 1)) + 1 := by omega
     have ih := drop_place (tx := tx) j' (by omega)
     rw [h5, Tx.fromB] at ih
     have hv : plV tx Sig.kap (j' + 1, r) = ((tx.place Sig.kap j' + ((tx.alt Sig.kap j').length + (tx.sep.1 - (M - r))) : Nat) : Int) := by unfold plV; simp only [Tx.place]; omega
     have hL := fromB_length (tx := tx) (j' + 1) hj
     simp only [Tx.place] at hL
     refine ⟨by rw [hv]; omega, by rw [hv, List.length_append, bytesOf_length]; omega, rest, ?_, h2⟩
     rw [hv, Int.toNat_natCast, ← List.drop_drop, ih, ← List.drop_drop, List.drop_append_of_le_length (Nat.le_refl _), List.drop_of_length_le (Nat.le_refl _), List.nil_append,
      List.drop_append_of_le_length (by rw [bytesOf_length]; omega), h1, catS_eq, dropS_eq, List.append_assoc]
     rfl
   ·cases h
theorem window_ok {tx : Tx} {as : List (Nat × Nat)} (hA : AsmOk as) {j r : Nat} (hj : j ≤ tx.its.length) {w : Nat × Nat} {e : Bool} (h : window tx as (j, r) = some (w, e)) :
  0 ≤ plV tx Sig.kap (j, r) ∧ plV tx Sig.kap (j, r) ≤ ((bytesOf tx.head.1 tx.head.2 ++ tx.fromB Sig.kap 0 tx.its.length).length : Int) ∧ ∃ rest, (bytesOf tx.head.1 tx.head.2 ++ tx.fromB Sig.kap 0 tx.its.length).drop (plV tx Sig.kap (j, r)).toNat = bytesOf w.1 w.2 ++ rest ∧ (e = true → rest = []) :=
 windowM_ok rfl hA hj h
theorem txt_size {tx : Tx} (ht : TxOk tx) (hon : tx.on = true) {j : Nat} (hj : j ≤ tx.its.length) : Sig.txt.size = tx.place Sig.kap j + (tx.fromB Sig.kap j (tx.its.length - j)).length := by
 have h1 := congrArg List.length (ht hon).1
 rw [List.length_append, bytesOf_length] at h1
 have h2 : Sig.txt.data.toList.length = Sig.txt.size := Array.length_toList
 have h3 := fromB_length (tx := tx) j hj
 omega
theorem end_val {tx : Tx} (ht : TxOk tx) (hon : tx.on = true) (hs : tx.tail.1 < 32768) : dec (endI tx) = (Sig.txt.size : Int) := by
 have h1 := txt_size ht hon (Nat.le_refl tx.its.length)
 rw [Nat.sub_self] at h1
 simp only [Tx.fromB, bytesOf_length] at h1
 unfold endI
 rw [lenN_eq]
 simp only [Nat.add_eq]
 rw [(ht hon).2.1 _ _ (Nat.le_refl _) (show 32768 + tx.tail.1 < 65536 by omega), h1]
 (try simp only [Nat.add_eq])
 omega
omit [Sig] in
theorem minK_le {l : List (Nat × Nat)} {k : Nat} : ∀ {ks : List Nat}, k ∈ ks → minK l ks ≤ (match nthN l k with | some a => a.1 | none => (match l with | [] => k | _ => 0))
 | [], h => by cases h
 | j :: ks, h => by
  simp only [minK]
  rcases List.mem_cons.1 h with rfl | h
  ·exact Nat.min_le_left _ _
  ·exact Nat.le_trans (Nat.min_le_right _ _) (minK_le h)
theorem mlJ_le {tx : Tx} (ht : TxOk tx) (hon : tx.on = true) {as : List (Nat × Nat)} (hA : AsmOk as) (j : Nat) : mlJ tx as j ≤ (tx.alt Sig.kap j).length := by
 unfold mlJ
 split
 ·rename_i k hk
  have hkap : Sig.kap j = k := hA _ (lookA_mem hk)
  split
  ·rename_i a ha
   rw [alt_len ha hkap, bytesOf_length]
   exact Nat.le_refl _
  ·exact Nat.zero_le _
 ·split
  ·rename_i ks l hks hl
   rw [nthN_eq] at hks hl
   have hk := (ht hon).2.2.1 j ks hks
   have h1 := minK_le (l := l) hk
   refine Nat.le_trans h1 ?_
   rw [nthN_eq]
   unfold Tx.alt
   rw [hl]
   cases l with
   | nil =>
    rw [bytesOf_length]
    exact Nat.le_add_left _ _
   | cons x l =>
    dsimp only
    cases hx : (x :: l)[Sig.kap j]? with
    | none => exact Nat.zero_le _
    | some a => simp only [bytesOf_length]; exact Nat.le_refl _
  ·exact Nat.zero_le _
theorem minJ_le {tx : Tx} (ht : TxOk tx) (hon : tx.on = true) {as : List (Nat × Nat)} (hA : AsmOk as) : ∀ (f j : Nat), j ≤ tx.its.length → minJ tx as f j ≤ (tx.fromB Sig.kap j (tx.its.length - j)).length
 | 0, _, _ => Nat.zero_le _
 | f + 1, j, hj => by
  simp only [minJ]
  split
  ·rename_i hb
   have h1 : tx.its.length ≤ j := by rw [← lenN_eq]; exact Nat.le_of_ble_eq_true hb
   have h2 : tx.its.length - j = 0 := by omega
   rw [h2]
   simp only [Tx.fromB, bytesOf_length]
   exact Nat.le_refl _
  ·rename_i hb
   have h1 : j < tx.its.length := by
    rcases Nat.lt_or_ge j tx.its.length with hlt | hge
    ·exact hlt
    ·rw [← lenN_eq] at hge
     rw [Nat.ble_eq_true_of_le hge] at hb; cases hb
   have h5 : tx.its.length - j = (tx.its.length - (j + 1)) + 1 := by omega
   rw [h5, Tx.fromB]
   have ih := minJ_le ht hon hA f (j + 1) h1
   have hm := mlJ_le ht hon hA j
   simp only [List.length_append, bytesOf_length]
   simp only [Nat.add_eq, Nat.succ_eq_add_one]
   omega
theorem place_mono {tx : Tx} : ∀ {j k : Nat}, j < k → tx.place Sig.kap j + ((tx.alt Sig.kap j).length + tx.sep.1) ≤ tx.place Sig.kap k
 | j, 0, h => absurd h (Nat.not_lt_zero _)
 | j, k + 1, h => by
  rcases Nat.lt_or_ge j k with h1 | h1
  ·have := place_mono (tx := tx) h1
   simp only [Tx.place]; omega
  ·have : j = k := by omega
   subst this
   simp only [Tx.place]; omega
theorem pltB_ok {tx : Tx} (ht : TxOk tx) (hon : tx.on = true) {as : List (Nat × Nat)} (hA : AsmOk as) {p q : Nat × Nat} (h : pltB tx as p q = true) : plV tx Sig.kap p < plV tx Sig.kap q := by
 obtain ⟨j, r⟩ := p
 obtain ⟨k, s⟩ := q
 simp only [pltB] at h
 unfold plV
 simp only
 split at h
 ·rename_i he
  have he := Nat.eq_of_beq_eq_true he
  subst he
  have h1 : r < s := Nat.le_of_ble_eq_true h
  omega
 ·simp only [Bool.and_eq_true] at h
  have h1 : j < k := Nat.le_of_ble_eq_true h.1
  have h2 := Nat.le_of_ble_eq_true h.2
  simp only [Nat.add_eq, Nat.succ_eq_add_one] at h2
  have h3 := place_mono (tx := tx) h1
  have h4 := mlJ_le ht hon hA j
  omega
def Rel (c : Nat) (a b : Int) : Prop := (c = 0 ∧ a < b) ∨ (c = 1 ∧ a = b) ∨ (c = 2 ∧ b < a)
theorem cmpP_ok {tx : Tx} (ht : TxOk tx) (hon : tx.on = true) {as : List (Nat × Nat)} (hA : AsmOk as) {p q : Nat × Nat} {c : Nat} (h : cmpP tx as p q = some c) : Rel c (plV tx Sig.kap p) (plV tx Sig.kap q) := by
 unfold cmpP at h
 rw [← normP_val hA 64 p, ← normP_val hA 64 q]
 generalize normP tx as 64 p = p' at h ⊢
 generalize normP tx as 64 q = q' at h ⊢
 simp only at h
 split at h
 ·rename_i h1; cases h; exact .inl ⟨rfl, pltB_ok ht hon hA h1⟩
 ·split at h
  ·rename_i h1; cases h; exact .inr (.inr ⟨rfl, pltB_ok ht hon hA h1⟩)
  ·split at h
   ·rename_i h1
    cases h
    simp only [Bool.and_eq_true] at h1
    have e1 := Nat.eq_of_beq_eq_true h1.1
    have e2 := Nat.eq_of_beq_eq_true h1.2
    have : p' = q' := by
     obtain ⟨a, b⟩ := p'; obtain ⟨c, d⟩ := q'
     simp only at e1 e2
     rw [e1, e2]
    rw [this]
    exact .inr (.inl ⟨rfl, rfl⟩)
   ·cases h
theorem distP_ok {tx : Tx} {as : List (Nat × Nat)} (hA : AsmOk as) {p q : Nat × Nat} {d : Nat} (h : distP tx as p q = some d) : plV tx Sig.kap q - plV tx Sig.kap p = (d : Int) := by
 unfold distP at h
 rw [← normP_val hA 64 p, ← normP_val hA 64 q]
 generalize normP tx as 64 p = p' at h ⊢
 generalize normP tx as 64 q = q' at h ⊢
 obtain ⟨j, r⟩ := p'
 obtain ⟨k, s⟩ := q'
 simp only at h
 unfold plV
 simp only
 split at h
 ·rename_i he
  have he := Nat.eq_of_beq_eq_true he
  subst he
  split at h
  ·rename_i h1
   have h1 : r ≤ s := Nat.le_of_ble_eq_true h1
   cases h
   simp only [Nat.sub_eq]
   omega
  ·cases h
 ·split at h
  ·rename_i i he hi
   have he := Nat.eq_of_beq_eq_true he
   subst he
   have hkap : Sig.kap j = i := hA _ (lookA_mem hi)
   split at h
   ·rename_i a ha
    split at h
    ·rename_i h1
     have h1 := Nat.le_of_ble_eq_true h1
     simp only [Nat.add_eq] at h1
     cases h
     simp only [Tx.place, alt_len ha hkap, bytesOf_length, Nat.add_eq, Nat.sub_eq]
     omega
    ·cases h
   ·cases h
  ·cases h
def Lx (tx : Tx) : List UInt8 := bytesOf tx.head.1 tx.head.2 ++ tx.fromB Sig.kap 0 tx.its.length
theorem normP_fst {tx : Tx} {as : List (Nat × Nat)} : ∀ (f : Nat) (p : Nat × Nat), p.1 ≤ tx.its.length → (normP tx as f p).1 ≤ tx.its.length
 | 0, p, h => h
 | f + 1, (j, r), h => by
  simp only [normP]
  split
  ·split
   ·split
    ·rename_i hc
     simp only [Bool.and_eq_true] at hc
     refine normP_fst f _ ?_
     show j + 1 ≤ tx.its.length
     rw [← lenN_eq]
     exact Nat.le_of_ble_eq_true hc.2.2
    ·exact h
   ·exact h
  ·exact h
theorem win_ok {tx : Tx} (ht : TxOk tx) (hon : tx.on = true) {as : List (Nat × Nat)} (hA : AsmOk as) {p : Nat × Nat} (hp : p.1 ≤ tx.its.length) {w : Nat × Nat} {e : Bool} (h : window tx as p = some (w, e)) :
  ∃ n : Nat, plV tx Sig.kap p = (n : Int) ∧ n ≤ Sig.txt.size ∧ ∃ rest, Sig.txt.data.toList.drop n = bytesOf w.1 w.2 ++ rest ∧ (e = true → rest = []) := by
 obtain ⟨j, r⟩ := p
 obtain ⟨h1, h2, rest, h3, h4⟩ := window_ok (j := j) (r := r) hA hp h
 rw [← (ht hon).1] at h2 h3
 have h5 : Sig.txt.data.toList.length = Sig.txt.size := Array.length_toList
 rw [h5] at h2
 exact ⟨(plV tx Sig.kap (j, r)).toNat, by omega, by omega, rest, h3, h4⟩
theorem restRel_ok {tx : Tx} (ht : TxOk tx) (hon : tx.on = true) {as : List (Nat × Nat)} (hA : AsmOk as) {p : Nat × Nat} (hp : p.1 ≤ tx.its.length) {n c : Nat} (h : restRel tx as p n = some c) : Rel c ((Sig.txt.size : Int) - plV tx Sig.kap p) n := by
 unfold restRel at h
 split at h
 ·rename_i w hw
  obtain ⟨m, h1, h2, rest, h3, h4⟩ := win_ok ht hon hA hp hw
  have hr := h4 rfl
  subst hr
  have h5 := congrArg List.length h3
  simp only [List.length_drop, List.append_nil, bytesOf_length] at h5
  have h6 : Sig.txt.data.toList.length = Sig.txt.size := Array.length_toList
  rw [h1]
  split at h
  ·rename_i hb
   cases h
   have hb : w.1 < n := Nat.le_of_ble_eq_true hb
   exact .inl ⟨rfl, by omega⟩
  ·rename_i hb
   have hb : ¬ w.1 < n := fun hh => by rw [show Nat.blt w.1 n = true from Nat.ble_eq_true_of_le hh] at hb; cases hb
   split at h
   ·rename_i he
    cases h
    have he := Nat.eq_of_beq_eq_true he
    exact .inr (.inl ⟨rfl, by omega⟩)
   ·rename_i he
    cases h
    have he : ¬ w.1 = n := fun hh => by rw [hh, Nat.beq_refl] at he; cases he
    exact .inr (.inr ⟨rfl, by omega⟩)
 ·split at h
  ·rename_i hb
   cases h
   have hb : n < minRest tx as p := Nat.le_of_ble_eq_true hb
   obtain ⟨j, r⟩ := p
   have h1 := minJ_le ht hon hA (Nat.succ (lenN tx.its)) j hp
   have h2 := txt_size ht hon (j := j) hp
   refine .inr (.inr ⟨rfl, ?_⟩)
   simp only [minRest, Nat.add_eq, Nat.sub_eq] at hb
   unfold plV
   simp only
   omega
  ·cases h
theorem streq_bytes (l c m d : Nat) : streq l c m d = true ↔ bytesOf l c = bytesOf m d := by rw [streq_iff, strB_inj]
theorem sufEq_ok {tx : Tx} (ht : TxOk tx) (hon : tx.on = true) {as : List (Nat × Nat)} (hA : AsmOk as) {p : Nat × Nat} (hp : p.1 ≤ tx.its.length) {l c : Nat} {b : Bool} (h : sufEq tx as p l c = some b) {n : Nat} (hn : plV tx Sig.kap p = (n : Int)) :
  b = true ↔ Sig.txt.data.toList.drop n = bytesOf l c := by
 unfold sufEq at h
 split at h
 ·rename_i w hw
  cases h
  obtain ⟨m, h1, h2, rest, h3, h4⟩ := win_ok ht hon hA hp hw
  have hr := h4 rfl
  subst hr
  have : m = n := by omega
  subst this
  rw [h3, List.append_nil, streq_bytes]
 ·split at h
  ·rename_i hb
   cases h
   have hb : l < minRest tx as p := Nat.le_of_ble_eq_true hb
   obtain ⟨j, r⟩ := p
   have h1 := minJ_le ht hon hA (Nat.succ (lenN tx.its)) j hp
   have h2 := txt_size ht hon (j := j) hp
   simp only [minRest, Nat.add_eq, Nat.sub_eq] at hb
   refine ⟨fun hh => (by cases hh), fun hh => ?_⟩
   have h5 := congrArg List.length hh
   have h6 : Sig.txt.data.toList.length = Sig.txt.size := Array.length_toList
   simp only [List.length_drop, bytesOf_length] at h5
   unfold plV at hn
   simp only at hn
   omega
  ·cases h
section
variable {P : Program} {W0 : Wb} {E : Env} {h : H} {w : World} {n vm : Nat} {a : A} {x : Act}
omit [Sig] in
theorem ba_ext {s t : ByteArray} (h : s.data.toList = t.data.toList) : s = t := ByteArray.ext (Array.ext' h)
omit [Sig] in
theorem ext_list (s : ByteArray) (p q : Nat) : (s.extract p q).data.toList = (s.data.toList.drop p).take (q - p) := by
 rw [ByteArray.data_extract]
 simp [Array.toList_extract, List.extract_eq_take_drop]
omit [Sig] in
theorem ba_size (s : ByteArray) : s.data.toList.length = s.size := Array.length_toList
omit [Sig] in
theorem ext_all (s : ByteArray) : s.extract 0 s.size = s := ba_ext (by rw [ext_list, List.drop_zero, Nat.sub_zero, ← ba_size, List.take_length])
omit [Sig] in
theorem ext_size {s : ByteArray} {p q : Nat} (h1 : p ≤ q) (h2 : q ≤ s.size) : (s.extract p q).size = q - p := by
 rw [← ba_size, ext_list, List.length_take, List.length_drop, ba_size]; omega
omit [Sig] in
theorem ext_ext {s : ByteArray} {m o n : Nat} (h2 : m + n ≤ s.size) : (s.extract m s.size).extract o n = s.extract (m + o) (m + n) := by
 refine ba_ext ?_
 rw [ext_list, ext_list, ext_list]
 have e : (s.data.toList.drop m).take (s.size - m) = s.data.toList.drop m := List.take_of_length_le (by rw [List.length_drop, ba_size]; exact Nat.le_refl _)
 rw [e, List.drop_drop]
 congr 1
 omega
theorem strB_known {m o k : Nat} {w : Nat × Nat} {rest : List UInt8} (hd : Sig.txt.data.toList.drop m = bytesOf w.1 w.2 ++ rest) (h1 : o ≤ k) (h2 : k ≤ w.1) :
  strB (k - o) (w.2 / 256 ^ o % 256 ^ (k - o)) = Sig.txt.extract (m + o) (m + k) := by
 refine ba_ext ?_
 rw [strB_toList, bytesOf_mod, ext_list, ← List.drop_drop, hd, List.drop_append_of_le_length (by rw [bytesOf_length]; omega), bytesOf_drop, List.take_append_of_le_length (by rw [bytesOf_length]; omega), bytesOf_take _ _ _ (by omega)]
 congr 1
 omega
theorem get_known {m k : Nat} {w : Nat × Nat} {rest : List UInt8} (hd : Sig.txt.data.toList.drop m = bytesOf w.1 w.2 ++ rest) (h1 : k < w.1) : Sig.txt.data.toList[m + k]? = some (UInt8.ofNat (w.2 / 256 ^ k % 256)) := by
 rw [← List.getElem?_drop, hd, List.getElem?_append_left (by rw [bytesOf_length]; exact h1), bytesOf_get _ _ _ h1]
theorem isEnd_val {tx : Tx} (ht : TxOk tx) (hon : tx.on = true) {z : Int} (h : isEnd tx z = true) : z = endI tx ∧ dec z = (Sig.txt.size : Int) := by
 unfold isEnd at h
 rw [Bool.and_eq_true] at h
 have h1 : tx.tail.1 < 32768 := Nat.le_of_ble_eq_true h.1
 have h2 := ieq_sound h.2
 exact ⟨h2, by rw [h2]; exact end_val ht hon h1⟩
theorem pre_val {tx : Tx} (ht : TxOk tx) (hon : tx.on = true) {z : Int} (h : isEnd tx z = true) {u : Value} (hu : cv E (.pre z) = some u) : u = .string Sig.txt := by
 obtain ⟨-, h1⟩ := isEnd_val ht hon h
 simp only [cv, h1] at hu
 rw [if_pos ⟨by omega, by omega⟩] at hu
 cases hu
 rw [Int.toNat_natCast, ext_all]
theorem suf_val {tx : Tx} (ht : TxOk tx) (hon : tx.on = true) {q z : Int} (h : isEnd tx z = true) {p : Nat × Nat} (hp : plOf tx q = some p) {u : Value} (hu : cv E (.suf q z) = some u) :
  ∃ m : Nat, plV tx Sig.kap p = (m : Int) ∧ m ≤ Sig.txt.size ∧ u = .string (Sig.txt.extract m Sig.txt.size) := by
 obtain ⟨-, h1⟩ := isEnd_val ht hon h
 have h2 := (plOf_val ht hon hp).1
 simp only [cv, h1] at hu
 split at hu
 ·rename_i hc
  cases hu
  refine ⟨(dec q).toNat, by rw [← h2]; omega, by omega, ?_⟩
  rw [Int.toNat_natCast]
 ·cases hu
theorem suf_mk {tx : Tx} (ht : TxOk tx) (hon : tx.on = true) {as : List (Nat × Nat)} (hA : AsmOk as) {p : Nat × Nat} (hp : p.1 ≤ tx.its.length) {v : AV} (h : sufAt tx as p = some v) (hsz : tx.tail.1 < 32768) :
  ∃ m : Nat, plV tx Sig.kap p = (m : Int) ∧ m ≤ Sig.txt.size ∧ cv E v = some (.string (Sig.txt.extract m Sig.txt.size)) := by
 unfold sufAt at h
 rw [← normP_val hA 64 p]
 have hp' := normP_fst (as := as) 64 p hp
 generalize normP tx as 64 p = p' at h hp' ⊢
 simp only at h
 split at h
 ·rename_i we q hw hq
  obtain ⟨w', e'⟩ := we
  cases h
  obtain ⟨m, h1, h2, -⟩ := win_ok ht hon hA hp' hw
  refine ⟨m, h1, h2, ?_⟩
  have h3 := plInt_val ht hon hq
  simp only [cv, h3, h1, end_val ht hon hsz]
  rw [if_pos ⟨by omega, by omega, by omega⟩]
  simp only [Int.toNat_natCast]
 ·cases h
theorem str_mk {tx : Tx} (ht : TxOk tx) (hon : tx.on = true) {as : List (Nat × Nat)} (hA : AsmOk as) {p : Nat × Nat} (hp : p.1 ≤ tx.its.length) {o k : Nat} {v : AV} (h : strAt tx as p o k = some v) :
  ∃ m : Nat, plV tx Sig.kap p = (m : Int) ∧ o ≤ k ∧ m + k ≤ Sig.txt.size ∧ cv E v = some (.string (Sig.txt.extract (m + o) (m + k))) := by
 unfold strAt at h
 have hp' := normP_fst (as := as) 64 p hp
 rw [← normP_val hA 64 p]
 generalize normP tx as 64 p = p' at h hp' ⊢
 split at h
 ·rename_i w' e' hw
  split at h
  ·rename_i hc
   simp only [Bool.and_eq_true] at hc
   have h1 : o ≤ k := Nat.le_of_ble_eq_true hc.1
   have h2 : k ≤ w'.1 := Nat.le_of_ble_eq_true hc.2
   cases h
   obtain ⟨m, h3, h4, rest, h5, -⟩ := win_ok ht hon hA hp' hw
   have h6 := congrArg List.length h5
   rw [List.length_drop, ba_size, List.length_append, bytesOf_length] at h6
   refine ⟨m, h3, h1, by omega, ?_⟩
   simp only [cv]
   exact congrArg (fun s => some (Value.string s)) (strB_known h5 h1 h2)
  ·cases h
 ·cases h
theorem byte_mk {tx : Tx} (ht : TxOk tx) (hon : tx.on = true) {as : List (Nat × Nat)} (hA : AsmOk as) {p : Nat × Nat} (hp : p.1 ≤ tx.its.length) {k : Nat} {v : AV} (h : byteAt tx as p k = some v) :
  ∃ (m : Nat) (c : Nat), plV tx Sig.kap p = (m : Int) ∧ c < 256 ∧ Sig.txt.data.toList[m + k]? = some (UInt8.ofNat c) ∧ v = .int .u8 (Int.ofNat c) := by
 unfold byteAt at h
 have hp' := normP_fst (as := as) 64 p hp
 rw [← normP_val hA 64 p]
 generalize normP tx as 64 p = p' at h hp' ⊢
 split at h
 ·rename_i w' e' hw
  split at h
  ·rename_i hc
   have h1 : k < w'.1 := Nat.le_of_ble_eq_true hc
   obtain ⟨rfl, -⟩ := mkNat_some h
   obtain ⟨m, h3, h4, rest, h5, -⟩ := win_ok ht hon hA hp' hw
   exact ⟨m, w'.2 / 256 ^ k % 256, h3, Nat.mod_lt _ (by decide), get_known h5 h1, rfl⟩
  ·cases h
 ·cases h
theorem plSym_val {tx : Tx} (ht : TxOk tx) (hon : tx.on = true) {z : Int} {p : Nat × Nat} (h : plSym tx z = some p) : dec z = plV tx Sig.kap p ∧ p.1 ≤ tx.its.length := by
 cases z with
 | ofNat _ => cases h
 | negSucc _ => exact plOf_val ht hon h
theorem lnAt_val {tx : Tx} (ht : TxOk tx) (hon : tx.on = true) {ok : Bool} {m i r : Nat} (hr : r < 65536) {p : Nat × Nat} (h : plChk ok tx m (symC 8 i 0 r) i r = some p) : dec (.negSucc m) = (Sig.txt.size : Int) - plV tx Sig.kap p ∧ p.1 ≤ tx.its.length := by
 obtain ⟨rfl, h1, h2⟩ := plChk_some h
 refine ⟨?_, h2⟩
 have h4 := (ht hon).2.2.2.2.1 _ _ h2 hr
 rw [h1] at h4
 exact h4
theorem lnOf_val {tx : Tx} (ht : TxOk tx) (hon : tx.on = true) {z : Int} {p : Nat × Nat} (h : lnOf tx z = some p) : dec z = (Sig.txt.size : Int) - plV tx Sig.kap p ∧ p.1 ≤ tx.its.length := by
 cases z with
 | ofNat _ => cases h
 | negSucc m => exact lnAt_val ht hon (symR_lt m) h
theorem plV_bound {tx : Tx} (ht : TxOk tx) (hon : tx.on = true) {p : Nat × Nat} (hp : p.1 ≤ tx.its.length) (hr : p.2 < 65536) : -32768 ≤ plV tx Sig.kap p ∧ plV tx Sig.kap p < 600000 := by
 obtain ⟨j, r⟩ := p
 have h1 := txt_size ht hon (j := j) hp
 have h2 := (ht hon).2.2.2.1
 have hr : r < 65536 := hr
 unfold plV
 simp only
 omega
theorem relO_ok {op : BinOp} {t : TypeId} {c : Nat} {A B : Int} (hc : Rel c A B) {v : AV} (hv : opRel op c = some v) : ∃ u, cv E v = some u ∧ (binOp op t (.int .i64 A) (.int .i64 B)).run P w = .ok u w := by
 have hAB : (c = 0 ∧ A < B) ∨ (c = 1 ∧ A = B) ∨ (c = 2 ∧ B < A) := hc
 have key : ∃ b, v = .bool b ∧ (binOp op t (.int .i64 A) (.int .i64 B)).run P w = .ok (.bool b) w := by
  cases op <;> simp only [opRel] at hv <;> try (cases hv; done)
  all_goals
   cases hv
   refine ⟨_, rfl, ?_⟩
   rcases hAB with ⟨rfl, h1⟩ | ⟨rfl, h1⟩ | ⟨rfl, h1⟩
  all_goals (simp only [binOp, Op.intCmp, if_false, ne_eq, not_true_eq_false, Sem.run_pure]; refine congrArg (fun z => Result.ok (Value.bool z) w) ?_)
  all_goals first
   | (refine (decide_eq_true ?_).trans rfl; omega)
   | (refine (decide_eq_false ?_).trans rfl; omega)
   | (subst h1; simp)
   | (have h2 : A ≠ B := by omega
      first | (simp [h2]; done) | (rw [bne_iff_ne.2 h2]; rfl))
 obtain ⟨b, rfl, hr⟩ := key
 exact ⟨_, by simp only [cv], hr⟩
end
end Go.Ev
namespace Go.Ev
set_option linter.unusedSectionVars false
variable [Sig]
section
variable {P : Program} {W0 : Wb} {E : Env} {h : H} {w : World} {n vm : Nat} {a : A} {x : Act}
omit [Sig] in
theorem wrap_small {z : Int} (h1 : -4611686018427387904 ≤ z) (h2 : z < 4611686018427387904) : IntKind.i64.wrap z = z := by
 have e : IntKind.i64.bits = 64 := rfl
 have s : IntKind.i64.signed = true := rfl
 have p1 : (2 : Int) ^ 64 = 18446744073709551616 := rfl
 have p2 : (2 : Int) ^ (64 - 1) = 9223372036854775808 := rfl
 simp only [IntKind.wrap, e, s, Bool.true_and, decide_eq_true_eq, p1, p2]
 split <;> omega
theorem add_run (t : TypeId) {A B C : Int} (hC : A + B = C) (h1 : -4611686018427387904 ≤ C) (h2 : C < 4611686018427387904) : (binOp .add t (.int .i64 A) (.int .i64 B)).run P w = .ok (.int .i64 C) w := by
 simp only [binOp, Op.intArith, ne_eq, not_true_eq_false, if_false, Sem.run_pure, hC, wrap_small h1 h2]
theorem sub_run (t : TypeId) {A B C : Int} (hC : A - B = C) (h1 : -4611686018427387904 ≤ C) (h2 : C < 4611686018427387904) : (binOp .sub t (.int .i64 A) (.int .i64 B)).run P w = .ok (.int .i64 C) w := by
 simp only [binOp, Op.intArith, ne_eq, not_true_eq_false, if_false, Sem.run_pure, hC, wrap_small h1 h2]
omit [Sig] in
theorem plIntM_bd {T M : Nat} {tx : Tx} {p : Nat × Nat} {z : Int} (h : plIntM T M tx p = some z) : p.1 ≤ tx.its.length ∧ p.2 < T := by
 obtain ⟨j, r⟩ := p
 unfold plIntM at h
 simp only at h
 split at h
 ·rename_i hc
  simp only [Bool.and_eq_true] at hc
  exact ⟨by rw [← lenN_eq]; exact Nat.le_of_ble_eq_true hc.2, Nat.le_of_ble_eq_true hc.1⟩
 ·cases h
theorem oPl_ok {tx : Tx} (ht : TxOk tx) (hon : tx.on = true) {p : Nat × Nat} {v : AV} (h : oPl tx (some p) = some v) : ∃ z, v = .int .i64 z ∧ dec z = plV tx Sig.kap p ∧ -32768 ≤ dec z ∧ dec z < 1100000 := by
 unfold oPl at h
 simp only at h
 split at h
 ·rename_i z hz
  cases h
  have h1 := plInt_val ht hon hz
  obtain ⟨h2, h3⟩ := plIntM_bd hz
  obtain ⟨h4, h5⟩ := plV_bound ht hon h2 h3
  exact ⟨z, rfl, h1, by omega, by omega⟩
 ·cases h
theorem plSym_lt {tx : Tx} {z : Int} {p : Nat × Nat} (h : plSym tx z = some p) : p.2 < 65536 := by
 cases z with
 | ofNat _ => cases h
 | negSucc m =>
  obtain ⟨rfl, -, -⟩ := plChk_some h
  exact symR_lt m
theorem plRel_ok {tx : Tx} (ht : TxOk tx) (hon : tx.on = true) {as : List (Nat × Nat)} (hA : AsmOk as) {a b : Int} {c : Nat} (h : plRel tx as a b = some c) : Rel c (dec a) (dec b) := by
 unfold plRel at h
 split at h
 ·rename_i p q hp hq
  rw [(plSym_val ht hon hp).1, (plSym_val ht hon hq).1]
  exact cmpP_ok ht hon hA h
 ·rename_i p hp hq
  have hpv := plSym_val ht hon hp
  split at h
  ·rename_i n
   rw [hpv.1]
   split at h
   ·rename_i hb
    have hb := Nat.le_of_ble_eq_true hb
    cases h
    have := plV_bound ht hon hpv.2 (plSym_lt hp)
    have e : dec (Int.ofNat n) = (n : Int) := dec_of rfl
    rw [e]
    exact .inl ⟨rfl, by omega⟩
   ·split at h
    ·rename_i q hq'
     rw [(plOf_val ht hon hq').1]
     exact cmpP_ok ht hon hA h
    ·cases h
  ·cases h
 ·rename_i q hp hq
  have hpv := plSym_val ht hon hq
  split at h
  ·rename_i n
   rw [hpv.1]
   split at h
   ·rename_i hb
    have hb := Nat.le_of_ble_eq_true hb
    cases h
    have := plV_bound ht hon hpv.2 (plSym_lt hq)
    have e : dec (Int.ofNat n) = (n : Int) := dec_of rfl
    rw [e]
    exact .inr (.inr ⟨rfl, by omega⟩)
   ·split at h
    ·rename_i p hp'
     rw [(plOf_val ht hon hp').1]
     exact cmpP_ok ht hon hA h
    ·cases h
  ·cases h
 ·cases h
theorem Rel.flip {c : Nat} {A B : Int} (h : Rel c A B) : Rel (Nat.sub 2 c) B A := by
 rcases h with ⟨rfl, h⟩ | ⟨rfl, h⟩ | ⟨rfl, h⟩
 ·exact .inr (.inr ⟨rfl, h⟩)
 ·exact .inr (.inl ⟨rfl, h.symm⟩)
 ·exact .inl ⟨rfl, h⟩
theorem plAdd_ok {tx : Tx} (ht : TxOk tx) (hon : tx.on = true) {a b : Int} {v : AV} (h : plAdd tx a b = some v) : ∃ z, v = .int .i64 z ∧ dec z = dec a + dec b ∧ -32768 ≤ dec z ∧ dec z < 1100000 := by
 unfold plAdd at h
 split at h
 ·rename_i j r n hp
  obtain ⟨z, rfl, h1, h2, h3⟩ := oPl_ok ht hon h
  refine ⟨z, rfl, ?_, h2, h3⟩
  have e : dec (Int.ofNat n) = (n : Int) := dec_of rfl
  rw [h1, (plSym_val ht hon hp).1, e]
  simp only [plV, Nat.add_eq]
  omega
 ·cases h
theorem plSubN_ok {tx : Tx} (ht : TxOk tx) (hon : tx.on = true) {a : Int} {p q : Nat × Nat} {n : Nat} (hp : plSym tx a = some p) (hq : q.1 = p.1) (hq2 : q.2 + n = p.2) {v : AV} (h : oPl tx (some q) = some v) :
  ∃ z, v = .int .i64 z ∧ dec z = dec a - (n : Int) ∧ IntKind.i64.wrap (dec z) = dec z := by
 obtain ⟨z, rfl, h1, h2, h3⟩ := oPl_ok ht hon h
 refine ⟨z, rfl, ?_, wrap_small (by omega) (by omega)⟩
 rw [h1, (plSym_val ht hon hp).1]
 unfold plV
 rw [hq]
 omega
theorem plSub_ok {tx : Tx} (ht : TxOk tx) (hon : tx.on = true) {as : List (Nat × Nat)} (hA : AsmOk as) {a b : Int} {v : AV} (h : plSub tx as a b = some v) : ∃ z, v = .int .i64 z ∧ dec z = dec a - dec b ∧ IntKind.i64.wrap (dec z) = dec z := by
 have dn : ∀ n : Nat, dec (Int.ofNat n) = (n : Int) := fun n => dec_of rfl
 unfold plSub at h
 split at h
 ·split at h
  ·rename_i hp _ hb
   have hb := Nat.le_of_ble_eq_true hb
   rw [dn]
   refine plSubN_ok ht hon hp ?_ ?_ h
   ·rfl
   ·exact Nat.sub_add_cancel hb
  ·cases h
 ·rename_i hp
  split at h
  ·rename_i q hq
   split at h
   ·rename_i d hd
    have h3 := distP_ok hA hd
    obtain ⟨rfl, hlt⟩ := mkNat_some h
    refine ⟨_, rfl, ?_, ?_⟩
    ·rw [dn, (plSym_val ht hon hp).1, (plSym_val ht hon hq).1]; exact h3.symm
    ·rw [dn]; exact wrap_nat .i64 d hlt
   ·cases h
  ·cases h
 ·cases h
theorem txInt_ok {tx : Tx} (ht : TxOk tx) (hon : tx.on = true) {as : List (Nat × Nat)} (hA : AsmOk as) {op : BinOp} {t : TypeId} {a b : Int} {v : AV} (h : txInt op tx as a b = some v) :
  ∃ u, cv E v = some u ∧ (binOp op t (.int .i64 (dec a)) (.int .i64 (dec b))).run P w = .ok u w := by
 have cvi : ∀ z : Int, cv E (.int .i64 z) = some (.int .i64 (dec z)) := fun z => by simp only [cv]
 have rel : ∀ {o : Option Nat} {v : AV}, relO op o = some v → (∀ c, o = some c → Rel c (dec a) (dec b)) → ∃ u, cv E v = some u ∧ (binOp op t (.int .i64 (dec a)) (.int .i64 (dec b))).run P w = .ok u w := by
  intro o v hv hc
  unfold relO at hv
  split at hv
  ·exact relO_ok (hc _ rfl) hv
  ·cases hv
 have dn : ∀ n : Nat, dec (Int.ofNat n) = (n : Int) := fun n => dec_of rfl
 have sub_of : ∀ {d : Nat} {v : AV}, mkNat .i64 d = some v → dec a - dec b = (d : Int) → ∃ u, cv E v = some u ∧ (binOp .sub t (.int .i64 (dec a)) (.int .i64 (dec b))).run P w = .ok u w := by
  intro d v hd he
  obtain ⟨rfl, hlt⟩ := mkNat_some hd
  refine ⟨_, cvi _, ?_⟩
  have h5 : IntKind.i64.wrap (Int.ofNat d) = Int.ofNat d := wrap_nat _ _ hlt
  simp only [binOp, Op.intArith, ne_eq, not_true_eq_false, if_false, Sem.run_pure, he, dn]
  exact congrArg (fun z => Result.ok (Value.int .i64 z) w) h5
 unfold txInt at h
 split at h
 ·rename_i p q hp hq
  have h1 := (lnOf_val ht hon hp).1
  have h2 := (lnOf_val ht hon hq).1
  split at h
  ·split at h
   ·rename_i d hd
    have h3 := distP_ok hA hd
    exact sub_of h (by omega)
   ·cases h
  ·refine rel h fun c hc => ?_
   have h3 := cmpP_ok ht hon hA hc
   rw [h1, h2]
   rcases h3 with ⟨rfl, h⟩ | ⟨rfl, h⟩ | ⟨rfl, h⟩
   ·exact .inl ⟨rfl, by omega⟩
   ·exact .inr (.inl ⟨rfl, by omega⟩)
   ·exact .inr (.inr ⟨rfl, by omega⟩)
 ·rename_i p hp hq
  split at h
  ·refine rel h fun c hc => ?_
   rw [(lnOf_val ht hon hp).1, dn]
   exact restRel_ok ht hon hA (lnOf_val ht hon hp).2 hc
  ·cases h
 ·rename_i q hp hq
  split at h
  ·split at h
   ·rename_i c hc
    refine relO_ok ?_ h
    rw [(lnOf_val ht hon hq).1, dn]
    exact (restRel_ok ht hon hA (lnOf_val ht hon hq).2 hc).flip
   ·cases h
  ·cases h
 ·split at h
  ·unfold orO at h
   split at h
   ·rename_i v' hv'
    cases h
    obtain ⟨z, rfl, h1, h2, h3⟩ := plAdd_ok ht hon hv'
    exact ⟨_, cvi z, add_run t h1.symm (by omega) (by omega)⟩
   ·obtain ⟨z, rfl, h1, h2, h3⟩ := plAdd_ok ht hon h
    exact ⟨_, cvi z, add_run t (by omega) (by omega) (by omega)⟩
  ·obtain ⟨z, rfl, h1, h2⟩ := plSub_ok ht hon hA h
   refine ⟨_, cvi z, ?_⟩
   simp only [binOp, Op.intArith, ne_eq, not_true_eq_false, if_false, Sem.run_pure, ← h1, h2]
  ·exact rel h fun c hc => plRel_ok ht hon hA hc
theorem txBin_ok {tx : Tx} (ht : TxOk tx) (hon : tx.on = true) {as : List (Nat × Nat)} (hA : AsmOk as) {op : BinOp} {t : TypeId} {p q : Operand} {u y v : AV} {U Y : Value} (hu : cv E u = some U) (hy : cv E y = some Y) (h : txBin op u y tx as = some v) :
  ∃ r, cv E v = some r ∧ (do eqGuard op t p q U Y; binOp op t U Y : Sem Value).run P w = .ok r w := by
 have cvb : ∀ (b : Bool), cv E (.bool b) = some (.bool b) := fun b => by simp only [cv]
 unfold txBin at h
 split at h
 ·rename_i a b
  cases cv_sym hu
  cases cv_sym hy
  have hg : (eqGuard op t p q (.int .i64 (dec a)) (.int .i64 (dec b))).run P w = .ok () w := by cases op <;> rfl
  obtain ⟨r, hr, hrun⟩ := txInt_ok (P := P) (E := E) (w := w) (t := t) ht hon hA h
  exact ⟨r, hr, by simp only [Sem.run_bind, hg, Result.andThen_ok, hrun]⟩
 ·rename_i q' z l c
  cases cv_str hy
  split at h
  ·rename_i pl hz hpl
   obtain ⟨m, h1, h2, rfl⟩ := suf_val ht hon hz hpl hu
   split at h
   ·rename_i b hb
    cases h
    have h3 := sufEq_ok ht hon hA (normP_fst 64 _ (plOf_val ht hon hpl).2) hb (n := m) (by rw [normP_val hA]; exact h1)
    have h4 : (Sig.txt.extract m Sig.txt.size).toList = Sig.txt.data.toList.drop m := by
     rw [ByteArray.toList_eq]
     show (Sig.txt.extract m Sig.txt.size).data.toList = _
     rw [ext_list]
     exact List.take_of_length_le (by rw [List.length_drop, ba_size]; exact Nat.le_refl _)
    refine ⟨_, cvb b, ?_⟩
    have hg : (eqGuard .eql t p q (.string (Sig.txt.extract m Sig.txt.size)) (.string (strB l c))).run P w = .ok () w := rfl
    have h5 : ((Sig.txt.extract m Sig.txt.size).toList == (strB l c).toList) = b := by
     rw [h4, strB_list, Bool.eq_iff_iff, beq_iff_eq]
     exact h3.symm
    simp only [Sem.run_bind, hg, Result.andThen_ok]
    rw [binOp_string_eql, h5]; rfl
   ·cases h
  ·rename_i pl hz hpl
   obtain ⟨m, h1, h2, rfl⟩ := suf_val ht hon hz hpl hu
   split at h
   ·rename_i b hb
    cases h
    have h3 := sufEq_ok ht hon hA (normP_fst 64 _ (plOf_val ht hon hpl).2) hb (n := m) (by rw [normP_val hA]; exact h1)
    have h4 : (Sig.txt.extract m Sig.txt.size).toList = Sig.txt.data.toList.drop m := by
     rw [ByteArray.toList_eq]
     show (Sig.txt.extract m Sig.txt.size).data.toList = _
     rw [ext_list]
     exact List.take_of_length_le (by rw [List.length_drop, ba_size]; exact Nat.le_refl _)
    refine ⟨_, cvb (!b), ?_⟩
    have hg : (eqGuard .neq t p q (.string (Sig.txt.extract m Sig.txt.size)) (.string (strB l c))).run P w = .ok () w := rfl
    have h5 : ((Sig.txt.extract m Sig.txt.size).toList == (strB l c).toList) = b := by
     rw [h4, strB_list, Bool.eq_iff_iff, beq_iff_eq]
     exact h3.symm
    simp only [Sem.run_bind, hg, Result.andThen_ok]
    rw [binOp_string_neq, h5]; rfl
   ·cases h
  ·cases h
 ·rename_i b9 lo hi c
  simp only [cv] at hu
  split at hu
  ·rename_i e he
   split at hu
   ·rename_i hlh
    cases hu
    have hd : dec (.ofNat c) = (c : Int) := dec_of rfl
    cases cv_sym hy
    obtain ⟨N, hN, hN1, hN2⟩ : ∃ N, N = rngV lo e.rb e.ro ∧ (lo ≠ 0 → (lo : Int) ≤ N) ∧ N ≤ (hi : Int) := by
     refine ⟨_, rfl, ?_, ?_⟩
     ·intro hz
      unfold rngV
      rw [if_neg (fun hh => hz hh.1)]
      omega
     ·unfold rngV
      split <;> omega
    rw [← hN]
    have hg : (eqGuard op t p q (.int .i64 N) (.int .i64 (dec (.ofNat c)))).run P w = .ok () w := by cases op <;> rfl
    have hrel : ∃ k, opRel op k = some v ∧ Rel k N (dec (.ofNat c)) := by
     rw [hd]
     split at h
     ·rename_i hlt
      have : c < lo := Nat.lt_of_succ_le (Nat.le_of_ble_eq_true hlt)
      exact ⟨2, h, .inr (.inr ⟨rfl, by omega⟩)⟩
     ·split at h
      ·rename_i hlt
       have : hi < c := Nat.lt_of_succ_le (Nat.le_of_ble_eq_true hlt)
       exact ⟨0, h, .inl ⟨rfl, by omega⟩⟩
      ·cases h
    obtain ⟨k, hk, hr⟩ := hrel
    obtain ⟨r, hr, hrun⟩ := relO_ok (P := P) (E := E) (w := w) (t := t) hr hk
    exact ⟨r, hr, by simp only [Sem.run_bind, hg, Result.andThen_ok, hrun]⟩
   ·cases hu
  ·cases hu
 ·cases h
theorem txLen_ok {tx : Tx} (ht : TxOk tx) (hon : tx.on = true) {t ty : TypeId} (hu : P.underlying t = some .string) {u v : AV} {U : Value} (hU : cv E u = some U) (h : txLen u tx = some v) :
  ∃ r, cv E v = some r ∧ (Builtin.len_ #[t] ty #[U]).run P w = .ok r w := by
 have cvi : ∀ z : Int, cv E (.int .i64 z) = some (.int .i64 (dec z)) := fun z => by simp only [cv]
 unfold txLen at h
 split at h
 ·split at h
  ·rename_i hz
   cases h
   obtain rfl := pre_val ht hon hz hU
   refine ⟨_, cvi _, ?_⟩
   rw [(isEnd_val ht hon hz).2]
   simp [Builtin.len_, run_underlying hu, goInt]
  ·cases h
 ·split at h
  ·rename_i j r hz hp
   split at h
   ·rename_i hr
    have hr : r < 65536 := Nat.le_of_ble_eq_true hr
    cases h
    obtain ⟨m, h1, h2, rfl⟩ := suf_val ht hon hz hp hU
    refine ⟨_, cvi _, ?_⟩
    have h3 := (ht hon).2.2.2.2.1 j r (plOf_val ht hon hp).2 hr
    have h4 : dec (symC 8 j 0 r) = ((Sig.txt.size - m : Nat) : Int) := by
     rw [h3]
     unfold plV at h1
     simp only at h1
     omega
    rw [h4]
    simp [Builtin.len_, run_underlying hu, goInt, ext_size h2 (Nat.le_refl _)]
   ·cases h
  ·cases h
 ·cases h
theorem txMax_ok {tx : Tx} (ht : TxOk tx) (hon : tx.on = true) {as : List (Nat × Nat)} (hA : AsmOk as) {ts : Array TypeId} {t : TypeId} {u y v : AV} {U Y : Value} (hu : cv E u = some U) (hy : cv E y = some Y) (h : txMax 2 u y tx as = some v) :
  ∃ r, cv E v = some r ∧ (Builtin.max_ ts t #[U, Y]).run P w = .ok r w := by
 unfold txMax at h
 split at h
 ·rename_i a b
  cases cv_sym hu
  cases cv_sym hy
  split at h
  ·rename_i c hc
   have hr := plRel_ok ht hon hA hc
   cases h
   rcases hr with ⟨rfl, h1⟩ | ⟨rfl, h1⟩ | ⟨rfl, h1⟩
   ·exact ⟨_, hy, by simp [Builtin.max_, Builtin.max2, show dec b > dec a by omega]⟩
   ·exact ⟨_, hy, by simp [Builtin.max_, Builtin.max2, h1]⟩
   ·exact ⟨_, hu, by simp [Builtin.max_, Builtin.max2, show ¬ dec b > dec a by omega]⟩
  ·cases h
 ·cases h
theorem txMin_ok {tx : Tx} (ht : TxOk tx) (hon : tx.on = true) {as : List (Nat × Nat)} (hA : AsmOk as) {ts : Array TypeId} {t : TypeId} {u y v : AV} {U Y : Value} (hu : cv E u = some U) (hy : cv E y = some Y) (h : txMax 0 u y tx as = some v) :
  ∃ r, cv E v = some r ∧ (Builtin.min_ ts t #[U, Y]).run P w = .ok r w := by
 unfold txMax at h
 split at h
 ·rename_i a b
  cases cv_sym hu
  cases cv_sym hy
  split at h
  ·rename_i c hc
   have hr := plRel_ok ht hon hA hc
   cases h
   rcases hr with ⟨rfl, h1⟩ | ⟨rfl, h1⟩ | ⟨rfl, h1⟩
   ·exact ⟨_, hu, by simp [Builtin.min_, Builtin.min2, show ¬ dec b < dec a by omega]⟩
   ·exact ⟨_, hy, by simp [Builtin.min_, Builtin.min2, h1]⟩
   ·exact ⟨_, hy, by simp [Builtin.min_, Builtin.min2, show dec b < dec a by omega]⟩
  ·cases h
 ·cases h
theorem txIx_ok {tx : Tx} (ht : TxOk tx) (hon : tx.on = true) {as : List (Nat × Nat)} (hA : AsmOk as) {t : TypeId} (htt : P.underlying t = some .string) {u y v : AV} {U Y : Value} (hu : cv E u = some U) (hy : cv E y = some Y) (h : txIx u y tx as = some v) :
  ∃ r, cv E v = some r ∧ (Instr.index t U Y).run P w = .ok r w := by
 have get : ∀ {s : ByteArray} {i c : Nat} (k : IntKind), c < 256 → s.data.toList[i]? = some (UInt8.ofNat c) → ∃ r, cv E (.int .u8 (Int.ofNat c)) = some r ∧ (Instr.index t (.string s) (.int k (i : Int))).run P w = .ok r w := by
  intro s i c k hc hs
  have h1 : s[i]? = some (UInt8.ofNat c) := by
   have hlt : i < s.size := by
    have := (List.getElem?_eq_some_iff.1 hs).1
    rwa [ba_size] at this
   rw [getElem?_pos s i hlt]
   have h2 := (List.getElem?_eq_some_iff.1 hs).2
   exact congrArg some h2
  refine ⟨.int .u8 (Int.ofNat c), cv_mk rfl, ?_⟩
  have h3 : (UInt8.ofNat c).toNat = c := by simp; omega
  simp [Instr.index, asIntOf, run_underlying htt, h1, h3]
 unfold txIx at h
 split at h
 ·rename_i z q
  cases cv_sym hy
  split at h
  ·rename_i p hz hp
   obtain rfl := pre_val ht hon hz hu
   obtain ⟨m, c, h1, h2, h3, rfl⟩ := byte_mk ht hon hA (plOf_val ht hon hp).2 h
   rw [(plOf_val ht hon hp).1, h1]
   exact get .i64 h2 h3
  ·cases h
 ·rename_i q z i
  cases cv_sym hy
  rw [show dec (Int.ofNat i) = (i : Int) from dec_of rfl]
  split at h
  ·rename_i p hz hp
   obtain ⟨m0, h0, h0', rfl⟩ := suf_val ht hon hz hp hu
   obtain ⟨m, c, h1, h2, h3, rfl⟩ := byte_mk ht hon hA (plOf_val ht hon hp).2 h
   have : m = m0 := by omega
   subst this
   refine get .i64 h2 ?_
   rw [ext_list, List.take_of_length_le (by rw [List.length_drop, ba_size]; exact Nat.le_refl _), List.getElem?_drop]
   exact h3
  ·cases h
 ·cases h
omit [Sig] in
theorem slStr_run {t : TypeId} (htt : P.underlying t = some .string) (s : ByteArray) (lo hi : Option Value) (L H : Nat) (hlo : (lo = none ∧ L = 0) ∨ ∃ k, lo = some (.int k (L : Int))) (hhi : (hi = none ∧ H = s.size) ∨ ∃ k, hi = some (.int k (H : Int))) (h1 : L ≤ H) (h2 : H ≤ s.size) :
  (Instr.sliceAt t (.string s) lo hi none).run P w = .ok (.string (s.extract L H)) w := by
 have h1' : (L : Int) ≤ H := by omega
 have h2' : (H : Int) ≤ s.size := by omega
 rcases hlo with ⟨rfl, rfl⟩ | ⟨k, rfl⟩ <;> rcases hhi with ⟨rfl, rfl⟩ | ⟨k', rfl⟩ <;>
  simp [Instr.sliceAt, Instr.slice, run_underlying htt, Instr.sliceBounds, Instr.sliceBound, asIntOf, h1, h2]
theorem txSl_ok {tx : Tx} (ht : TxOk tx) (hon : tx.on = true) {as : List (Nat × Nat)} (hA : AsmOk as) {t : TypeId} (htt : P.underlying t = some .string) {u v : AV} {lo hi : Option AV} {U : Value} {lo' hi' : Option Value} (hu : cv E u = some U) (hlo : OptCv E lo lo') (hhi : OptCv E hi hi') (h : txSl u lo hi tx as = some v) :
  ∃ r, cv E v = some r ∧ (Instr.sliceAt t U lo' hi' none).run P w = .ok r w := by
 have tl : ∀ {z : Int}, isEnd tx z = true → tx.tail.1 < 32768 := by
  intro z hz
  unfold isEnd at hz
  rw [Bool.and_eq_true] at hz
  exact Nat.le_of_ble_eq_true hz.1
 have dn : ∀ n : Nat, dec (Int.ofNat n) = (n : Int) := fun n => dec_of rfl
 have oI : ∀ {q : Int} {o : Option Value}, OptCv E (some (.int .i64 q)) o → o = some (.int .i64 (dec q)) := by
  intro q o ho
  cases o with
  | none => exact ho.elim
  | some x => exact congrArg some (cv_sym ho)
 have oN : ∀ {o : Option Value}, OptCv E none o → o = none := by
  intro o ho
  cases o with
  | none => rfl
  | some x => exact ho.elim
 unfold txSl at h
 split at h
 ·split at h
  ·rename_i q hz
   cases oI hlo
   cases oN hhi
   obtain rfl := pre_val ht hon hz hu
   split at h
   ·rename_i p hp
    obtain ⟨m, h1, h2, h3⟩ := suf_mk (E := E) ht hon hA (plOf_val ht hon hp).2 h (tl hz)
    refine ⟨_, h3, slStr_run htt _ _ _ m _ (.inr ⟨.i64, ?_⟩) (.inl ⟨rfl, rfl⟩) h2 (Nat.le_refl _)⟩
    rw [(plOf_val ht hon hp).1, h1]
   ·cases h
  ·rename_i q q' hz
   cases oI hlo
   cases oI hhi
   obtain rfl := pre_val ht hon hz hu
   split at h
   ·rename_i p p' hp hp'
    split at h
    ·rename_i d hd
     obtain ⟨m, h1, h2, h3, h4⟩ := str_mk (E := E) ht hon hA (plOf_val ht hon hp).2 h
     have h5 := distP_ok hA hd
     refine ⟨_, h4, slStr_run htt _ _ _ (m + 0) (m + d) (.inr ⟨.i64, ?_⟩) (.inr ⟨.i64, ?_⟩) (by omega) h3⟩
     ·rw [(plOf_val ht hon hp).1, h1]; rfl
     ·rw [(plOf_val ht hon hp').1]
      have : plV tx Sig.kap p' = ((m + d : Nat) : Int) := by omega
      rw [this]
    ·cases h
   ·cases h
  ·cases h
 ·split at h
  ·rename_i j r o hz hp
   cases oI hlo
   cases oN hhi
   obtain ⟨m, h1, h2, rfl⟩ := suf_val ht hon hz hp hu
   obtain ⟨m', h3, h4, h5⟩ := suf_mk (E := E) ht hon hA (p := (j, Nat.add r o)) (plOf_val ht hon hp).2 h (tl hz)
   have h6 : m' = m + o := by
    unfold plV at h1 h3
    simp only [Nat.add_eq] at h1 h3
    omega
   subst h6
   refine ⟨_, h5, ?_⟩
   rw [dn]
   have h7 := slStr_run (P := P) (w := w) htt (Sig.txt.extract m Sig.txt.size) (some (.int .i64 (o : Int))) none o (Sig.txt.size - m) (.inr ⟨.i64, rfl⟩) (.inl ⟨rfl, by rw [ext_size h2 (Nat.le_refl _)]⟩) (by omega) (by rw [ext_size h2 (Nat.le_refl _)]; exact Nat.le_refl _)
   rw [h7, ext_ext (by omega)]
   congr 3
   omega
  ·rename_i p n hz hp
   cases oN hlo
   cases oI hhi
   obtain ⟨m, h1, h2, rfl⟩ := suf_val ht hon hz hp hu
   obtain ⟨m', h3, h4, h5, h6⟩ := str_mk (E := E) ht hon hA (plOf_val ht hon hp).2 h
   have : m' = m := by omega
   subst this
   refine ⟨_, h6, ?_⟩
   rw [dn]
   have h7 := slStr_run (P := P) (w := w) htt (Sig.txt.extract m' Sig.txt.size) none (some (.int .i64 (n : Int))) 0 n (.inl ⟨rfl, rfl⟩) (.inr ⟨.i64, rfl⟩) (Nat.zero_le _) (by rw [ext_size h2 (Nat.le_refl _)]; omega)
   rw [h7, ext_ext (by omega)]
  ·rename_i p o n hz hp
   cases oI hlo
   cases oI hhi
   obtain ⟨m, h1, h2, rfl⟩ := suf_val ht hon hz hp hu
   obtain ⟨m', h3, h4, h5, h6⟩ := str_mk (E := E) ht hon hA (plOf_val ht hon hp).2 h
   have : m' = m := by omega
   subst this
   refine ⟨_, h6, ?_⟩
   rw [dn, dn]
   have h7 := slStr_run (P := P) (w := w) htt (Sig.txt.extract m' Sig.txt.size) (some (.int .i64 (o : Int))) (some (.int .i64 (n : Int))) o n (.inr ⟨.i64, rfl⟩) (.inr ⟨.i64, rfl⟩) h4 (by rw [ext_size h2 (Nat.le_refl _)]; omega)
   rw [h7, ext_ext (by omega)]
  ·cases h
 ·cases h
theorem Quiet.trans {s : Sem Next} {v : AV} (S : HSim P W0 E h w) (q : Quiet P E w s v) : OpOk P W0 E h w s v h := Quiet.ok S ⟨rfl, q⟩
theorem textO_ok (S : HSim P W0 E h w) (hA : ASim E n vm a x) {o : Oper} {xop : XOp} (hc : cOp P vm o.op = some xop) (hon : h.tx.on = true) {v : AV} (hr : textO xop a h.tx h.asm = some v) :
  OpOk P W0 E h w (execOp x.eval o) v h ∧ ∀ c, o.op ≠ .defer c := by
 have ht := S.ho.2
 have hAs := S.ho.1
 cases ho : o.op <;> simp only [cOp, ho] at hc <;> try (cases hc; done)
 case binOp op t p q z =>
  refine ⟨?_, fun c hh => by cases hh⟩
  split at hc
  ·rename_i xa xb ha hb
   cases hc
   simp only [textO] at hr
   split at hr
   ·rename_i u y hu hy
    simp only [execOp, ho]
    exact Quiet.trans S (.of (txBin_ok ht hon hAs (opr_sound S hA ha hu) (opr_sound S hA hb hy) hr))
   ·cases hr
  ·cases hc
 case index t p i =>
  refine ⟨?_, fun c hh => by cases hh⟩
  split at hc
  ·rename_i xa xb hu ha hb
   cases hc
   simp only [textO] at hr
   split at hr
   ·rename_i u y hu' hy
    simp only [execOp, ho]
    exact Quiet.trans S (.of (txIx_ok ht hon hAs hu (opr_sound S hA ha hu') (opr_sound S hA hb hy) hr))
   ·cases hr
  ·split at hc
   ·cases hc; simp only [textO] at hr; cases hr
   ·cases hc
  ·cases hc
 case slice t p lo hi mx =>
  refine ⟨?_, fun c hh => by cases hh⟩
  cases mx with
  | some y => cases hc
  | none =>
   simp only at hc
   split at hc
   ·rename_i xa l m hu ha hl hm
    cases hc
    simp only [textO] at hr
    split at hr
    ·rename_i u l' m' hu' hl' hm'
     simp only [execOp, ho]
     exact Quiet.trans S (.of (txSl_ok ht hon hAs hu (opr_sound S hA ha hu') (getOpt_sound S hA hl hl') (getOpt_sound S hA hm hm') hr))
    ·cases hr
   all_goals (repeat' (first | (cases hc; done) | split at hc))
   all_goals (cases hc; simp only [textO] at hr; cases hr)
 case call c =>
  refine ⟨?_, fun c hh => by cases hh⟩
  unfold cCall at hc
  split at hc
  ·split at hc
   ·cases hc; simp only [textO] at hr; cases hr
   ·cases hc
  ·split at hc
   ·cases hc; simp only [textO] at hr; cases hr
   ·cases hc
  ·cases hc
  ·rename_i hb
   split at hc
   ·rename_i p t hp htt
    have e1 := map_eval1 (x := x) c p hp
    have e2 := arr1 _ _ htt
    have he : execOp x.eval o = (do pure (.value (← Builtin.len_ #[t] o.type #[x.eval p]))) := by
     simp [execOp, ho, resolve, hb, invoke, builtin, e1, e2]
    rw [he]
    split at hc
    ·rename_i hu ha
     cases hc
     simp only [textO] at hr
     split at hr
     ·rename_i u hu'
      exact Quiet.trans S (.of (txLen_ok ht hon hu (opr_sound S hA ha hu') hr))
     ·cases hr
    all_goals first
     | (cases hc; simp only [textO] at hr; cases hr; done)
     | (cases hc; done)
   ·cases hc
  ·rename_i hb
   (repeat' split at hc) <;> first | (cases hc; simp only [textO] at hr; cases hr; done) | (cases hc; done)
  ·rename_i hb
   (repeat' split at hc) <;> first | (cases hc; simp only [textO] at hr; cases hr; done) | (cases hc; done)
  ·rename_i hb
   split at hc
   ·rename_i p q hp
    have e1 := map_eval2 (x := x) c p q hp
    split at hc
    ·rename_i xa xb ha hb'
     cases hc
     have he' : execOp x.eval o = (do pure (.value (← Builtin.max_ c.argTypes o.type #[x.eval p, x.eval q]))) := by
      simp [execOp, ho, resolve, hb, invoke, builtin, e1]
     rw [he']
     simp only [textO] at hr
     split at hr
     ·rename_i u y hu hy
      exact Quiet.trans S (.of (txMax_ok ht hon hAs (opr_sound S hA ha hu) (opr_sound S hA hb' hy) hr))
     ·cases hr
    ·cases hc
   ·cases hc
  ·rename_i hb
   split at hc
   ·rename_i p q hp
    have e1 := map_eval2 (x := x) c p q hp
    split at hc
    ·rename_i xa xb ha hb'
     cases hc
     have he' : execOp x.eval o = (do pure (.value (← Builtin.min_ c.argTypes o.type #[x.eval p, x.eval q]))) := by
      simp [execOp, ho, resolve, hb, invoke, builtin, e1]
     rw [he']
     simp only [textO] at hr
     split at hr
     ·rename_i u y hu hy
      exact Quiet.trans S (.of (txMin_ok ht hon hAs (opr_sound S hA ha hu) (opr_sound S hA hb' hy) hr))
     ·cases hr
    ·cases hc
   ·cases hc
  ·cases hc
 case makeMap t r' => cases r' <;> first | (cases hc; simp only [textO] at hr; cases hr; done) | (cases hc; done)
 case next p isS => cases isS <;> simp only at hc <;> (repeat' split at hc) <;> first | (cases hc; simp only [textO] at hr; cases hr; done) | (cases hc; done)
 all_goals ((repeat' split at hc) <;> first | (cases hc; simp only [textO] at hr; cases hr; done) | (cases hc; done))
end
end Go.Ev
