/- One operation: all kinds. -/
import Derived.Test.YtbflihggpacblaaGreatDoorEvOpN
import Derived.CallsIn
set_option linter.unusedVariables false
set_option linter.unusedSimpArgs false
namespace Go.Ev
set_option linter.unusedSectionVars false
variable [Sig]

section
variable {P : Program} {W0 : World} {E : Env} {h : H} {w : World} {n vm : Nat} {a : A} {x : Act}

theorem map_eval2 (c : Call) (p q : Operand) (hl : c.args.toList = [p, q]) : c.args.map x.eval = #[x.eval p, x.eval q] := by
  apply Array.ext'
  simp [hl]
theorem map_eval1 (c : Call) (p : Operand) (hl : c.args.toList = [p]) : c.args.map x.eval = #[x.eval p] := by
  apply Array.ext'
  simp [hl]
theorem arr1 {α : Type} (c : Array α) (p : α) (hl : c.toList = [p]) : c = #[p] := by apply Array.ext'; simp [hl]
theorem arr2 {α : Type} (c : Array α) (p q : α) (hl : c.toList = [p, q]) : c = #[p, q] := by apply Array.ext'; simp [hl]

/-- the built-in functions that the evaluator knows -/
theorem builtin_ok (S : HSim P W0 E h w) (hA : ASim E n vm a x) {o : Oper} {c : Call} {xop : XOp} (ho : o.op = .call c) (hc : cCall P vm c = some xop) {r : Rec} {v : AV} {h' : H} (hr : runOp xop r a h = .val v h')
    (hcall : ∀ f args, xop ≠ .call f args) (hcallF : ∀ f args, xop ≠ .callF f args) : OpOk P W0 E h w (execOp x.eval o) v h' := by
  unfold cCall at hc
  split at hc
  · split at hc
    · cases hc; exact absurd rfl (hcallF _ _)
    · cases hc
  · split at hc
    · cases hc; exact absurd rfl (hcall _ _)
    · cases hc
  · cases hc
  · rename_i hb
    split at hc
    · rename_i p t hp ht
      have e1 := map_eval1 (x := x) c p hp
      have e2 := arr1 _ _ ht
      have he : execOp x.eval o = (do pure (.value (← Builtin.len_ #[t] o.type #[x.eval p]))) := by
        simp [execOp, ho, resolve, hb, invoke, builtin, e1, e2]
      rw [he]
      split at hc
      · rename_i hu ha; cases hc; exact (len_sound S hA hu (.inl ⟨rfl, rfl⟩) ha hr).elim fun h1 h2 => Quiet.ok S ⟨h1, h2⟩
      · rename_i hu ha; cases hc; exact Quiet.ok S (len_sound S hA hu (.inr (.inl ⟨rfl, _, rfl⟩)) ha hr)
      · rename_i hu ha; cases hc; exact Quiet.ok S (len_sound S hA hu (.inr (.inr ⟨rfl, _, _, rfl⟩)) ha hr)
      · rename_i hu ha; cases hc; exact Quiet.ok S (lenN_sound (a := a) hu hr)
      · cases hc
    · cases hc
  · rename_i hb
    split at hc
    · rename_i p t hp ht
      have e1 := map_eval1 (x := x) c p hp
      have e2 := arr1 _ _ ht
      have he : execOp x.eval o = (do pure (.value (← Builtin.cap_ #[t] o.type #[x.eval p]))) := by
        simp [execOp, ho, resolve, hb, invoke, builtin, e1, e2]
      rw [he]
      split at hc
      · rename_i hu ha; cases hc; exact Quiet.ok S (cap_sound S hA hu ha hr)
      · cases hc
    · cases hc
  · rename_i hb
    split at hc
    · rename_i p q t u hp ht
      have e1 := map_eval2 (x := x) c p q hp
      have e2 := arr2 _ _ _ ht
      split at hc
      · rename_i xa xb e ha hb' he hu
        split at hc
        · rename_i sz by_ z hs hby hz
          cases hc
          have he' : execOp x.eval o = (do pure (.value (← Builtin.append_ #[t, u] o.type #[x.eval p, x.eval q]))) := by
            simp [execOp, ho, resolve, hb, invoke, builtin, e1, e2]
          rw [he']
          exact app_sound S hA he hu hs hby hz ha hb' hr
        · cases hc
      · rename_i xa xb e ha hb' he hu
        split at hc
        · rename_i hui
          split at hc
          · rename_i sz by_ z hs hby hz
            cases hc
            have he' : execOp x.eval o = (do pure (.value (← Builtin.append_ #[t, u] o.type #[x.eval p, x.eval q]))) := by
              simp [execOp, ho, resolve, hb, invoke, builtin, e1, e2]
            rw [he']
            exact appZ_sound S hA he hui hs hby hz ha hb' hr
          · cases hc
        · cases hc
      · cases hc
    · cases hc
  · rename_i hb
    split at hc
    · rename_i p q hp
      have e1 := map_eval2 (x := x) c p q hp
      split at hc
      · rename_i xa xb ha hb'
        cases hc
        have he' : execOp x.eval o = (do pure (.value (← Builtin.max_ c.argTypes o.type #[x.eval p, x.eval q]))) := by
          simp [execOp, ho, resolve, hb, invoke, builtin, e1]
        rw [he']
        exact Quiet.ok S (max_sound S hA ha hb' hr)
      · cases hc
    · cases hc
  · rename_i hb
    split at hc
    · rename_i p q hp
      have e1 := map_eval2 (x := x) c p q hp
      split at hc
      · rename_i xa xb ha hb'
        cases hc
        have he' : execOp x.eval o = (do pure (.value (← Builtin.min_ c.argTypes o.type #[x.eval p, x.eval q]))) := by
          simp [execOp, ho, resolve, hb, invoke, builtin, e1]
        rw [he']
        exact Quiet.ok S (min_sound S hA ha hb' hr)
      · cases hc
    · cases hc
  · cases hc

theorem op_ok (S : HSim P W0 E h w) (hA : ASim E n vm a x) {o : Oper} {xop : XOp} (hc : cOp P vm o.op = some xop) {r : Rec} {v : AV} {h' : H} (hr : runOp xop r a h = .val v h')
    (hcall : ∀ f args, xop ≠ .call f args) (hcallF : ∀ f args, xop ≠ .callF f args) : OpOk P W0 E h w (execOp x.eval o) v h' ∧ ∀ c, o.op ≠ .defer c := by
  have hnd : ∀ c, o.op ≠ .defer c := by
    intro c ho
    simp only [cOp, ho] at hc
    split at hc
    · split at hc
      · rename_i f _ _ g l _ _
        cases hc
        have hr' : rDfr g l a h = .val v h' := hr
        unfold rDfr at hr'
        split at hr' <;> cases hr'
      · cases hc
    · cases hc
  refine ⟨?_, hnd⟩
  cases ho : o.op <;> simp only [cOp, ho] at hc <;> try (cases hc; done)
  case move p =>
    split at hc
    · rename_i xa ha; cases hc; simp only [execOp, ho]; exact Quiet.ok S (mv_sound S hA ha hr)
    · cases hc
  case assign p =>
    split at hc
    · rename_i xa ha; cases hc; simp only [execOp, ho]; exact Quiet.ok S (mv_sound S hA ha hr)
    · cases hc
  case pick c p q =>
    split at hc
    · rename_i xc xa xb hc' ha hb; cases hc; simp only [execOp, ho]; exact Quiet.ok S (pick_sound S hA hc' ha hb hr)
    · cases hc
  case alloc t =>
    split at hc
    · rename_i z hz; cases hc; simp only [execOp, ho]; exact new_sound (a := a) S hz hr
    · cases hc
  case box t p =>
    split at hc
    · rename_i xa ha; cases hc; simp only [execOp, ho]; exact box_sound S hA ha hr
    · cases hc
  case build t ps =>
    split at hc
    · rename_i z fs hz hu
      split at hc
      · rename_i pl hpl
        split at hc
        · rename_i l hl; cases hc; simp only [execOp, ho]; exact Quiet.ok S (build_sound S hA hz (.inl ⟨fs, pl, hu, hpl, rfl⟩) hl hr)
        · cases hc
      · cases hc
    · rename_i z m e hz hu
      split at hc
      · rename_i sz hs
        split at hc
        · rename_i l hl; cases hc; simp only [execOp, ho]; exact Quiet.ok S (build_sound S hA hz (.inr ⟨m, e, sz, hu, hs, rfl⟩) hl hr)
        · cases hc
      · cases hc
    · cases hc
  case buildSlice t len ps =>
    split at hc
    · rename_i e he
      split at hc
      · rename_i sz z hs hz
        split at hc
        · rename_i l hlt hl; cases hc; simp only [execOp, ho]; exact buildS_sound S hA he hs hz hlt hl hr
        · cases hc
      · cases hc
    · cases hc
  case load t p =>
    split at hc
    · rename_i xa g m ha hg hs; cases hc; simp only [execOp, ho]; exact Quiet.ok S (ld_sound S hA ha hg hs hr)
    · cases hc
  case store t p q =>
    split at hc
    · rename_i xa xb m ha hb hs; cases hc; simp only [execOp, ho]; exact st_sound S hA hs ha hb hr
    · cases hc
  case nilCheck p =>
    split at hc
    · rename_i xa ha; cases hc; exact Quiet.ok S (nilc_sound S hA ho ha hr)
    · cases hc
  case binOp op t p q z =>
    split at hc
    · rename_i xa xb ha hb; cases hc; simp only [execOp, ho]; exact Quiet.ok S (bin_sound S hA ha hb hr)
    · cases hc
  case unOp op t p =>
    split at hc
    · rename_i xa ha; cases hc; simp only [execOp, ho]; exact Quiet.ok S (un_sound S hA ha hr)
    · cases hc
  case convert s d p =>
    split at hc
    · rename_i ds k xa hs hd ha; cases hc; simp only [execOp, ho]; exact Quiet.ok S (conv_sound S hA hs hd ha hr)
    · rename_i e xa hs hd ha
      split at hc
      · rename_i he; cases hc; simp only [execOp, ho]; exact Quiet.ok S (convB_sound S hA hs he hd ha hr)
      · cases hc
    · rename_i ds xa hs hd ha; cases hc; simp only [execOp, ho]; exact Quiet.ok S (convS_sound S hA ‹_› ‹_› ‹_› hr)
    · cases hc
  case makeInterface t p =>
    split at hc
    · cases hc
    · rename_i d xa hn hu ha; cases hc; simp only [execOp, ho]; exact Quiet.ok S (mkI_sound S hA hu (fun ms hd => hn ms hd) ha hr)
    · cases hc
  case makeFunc fn fs cs =>
    split at hc
    · rename_i f l m hl hm; cases hc; simp only [execOp, ho]; exact Quiet.ok S (mkF_sound S hA hl hm hr)
    · cases hc
  case makeMap t r' =>
    cases r' with
    | none => simp only [Option.some.injEq] at hc; subst hc; simp only [execOp, ho]; exact mkM_sound (a := a) S hr
    | some y => cases hc
  case makeSlice t l c =>
    split at hc
    · rename_i e xa xb he ha hb
      split at hc
      · rename_i sz by_ z hs hby hz; cases hc; simp only [execOp, ho]; exact mkS_sound S hA he hs hby hz ha hb hr
      · cases hc
    · cases hc
  case slice t p lo hi mx =>
    cases mx with
    | some y => cases hc
    | none =>
      simp only at hc
      split at hc
      · rename_i xa l m hu ha hl hm; cases hc; simp only [execOp, ho]; exact Quiet.ok S (slStr_sound S hA hu ha hl hm hr)
      · rename_i e xa l m hu ha hl hm
        split at hc
        · rename_i sz hs; cases hc; simp only [execOp, ho]; exact Quiet.ok S (slSl_sound S hA hu hs ha hl hm hr)
        · cases hc
      · rename_i len e xa l m hu ha hl hm
        split at hc
        · rename_i sz hs; cases hc; simp only [execOp, ho]; exact Quiet.ok S (slArr_sound S hA hu hs ha hl hm hr)
        · cases hc
      · cases hc
  case fieldAddr s p f =>
    split at hc
    · rename_i xa o' ft ha hf
      split at hc
      · rename_i m hs; cases hc; simp only [execOp, ho]; exact Quiet.ok S (fa_sound S hA hf hs ha hr)
      · cases hc
    · cases hc
  case field s p f =>
    split at hc
    · rename_i xa o' ft ha hf
      split at hc
      · rename_i g m hg hs; cases hc; simp only [execOp, ho]; exact Quiet.ok S (fld_sound S hA hf hg hs ha hr)
      · cases hc
    · cases hc
  case indexAddr t p i =>
    split at hc
    · rename_i e xa xb hu ha hb
      split at hc
      · rename_i sz hs; cases hc; simp only [execOp, ho]; exact Quiet.ok S (ia_sound S hA hu hs ha hb hr)
      · cases hc
    · rename_i len e xa xb hu ha hb
      split at hc
      · rename_i sz hs; cases hc; simp only [execOp, ho]; exact Quiet.ok S (iaArr_sound S hA hu hs ha hb hr)
      · cases hc
    · cases hc
  case index t p i =>
    split at hc
    · rename_i xa xb hu ha hb; cases hc; simp only [execOp, ho]; exact Quiet.ok S (ixS_sound S hA hu ha hb hr)
    · rename_i len e xa xb hu ha hb
      split at hc
      · rename_i hg hs; cases hc; simp only [execOp, ho]; exact Quiet.ok S (ixA_sound S hA hu hg hs ha hb hr)
      · cases hc
    · cases hc
  case lookup t p i ok =>
    split at hc
    · rename_i kt et xa xb hu ha hb
      split at hc
      · rename_i k z hk hz; cases hc; simp only [execOp, ho]; exact Quiet.ok S (look_sound S hA hu hk hz ha hb hr)
      · cases hc
    · cases hc
  case mapUpdate t m k v =>
    split at hc
    · rename_i kt et xa xb xc hu ha hb hc'
      split at hc
      · rename_i i hk; cases hc; simp only [execOp, ho]; exact upd_sound S hA hu hk ha hb hc' hr
      · cases hc
    · cases hc
  case insert t m k v =>
    split at hc
    · rename_i kt et xa xb xc hu ha hb hc'
      split at hc
      · rename_i i hk; cases hc; simp only [execOp, ho]; exact upd_sound S hA hu hk ha hb hc' hr
      · cases hc
    · cases hc
  case extract p i =>
    split at hc
    · rename_i xa ha; cases hc; simp only [execOp, ho]; exact Quiet.ok S (ext_sound S hA ha hr)
    · cases hc
  case range t p =>
    split at hc
    · rename_i xa hu ha; cases hc; simp only [execOp, ho]; exact rngS_sound S hA hu ha hr
    · cases hc
  case next p isS =>
    cases isS with
    | false => cases hc
    | true =>
      simp only at hc
      split at hc
      · rename_i xa ha; cases hc; simp only [execOp, ho]; exact nextS_sound S hA ha hr
      · cases hc
  case typeAssert p xt t ok =>
    split at hc
    · cases hc
    · rename_i d xa z hn hu ha hz; cases hc; simp only [execOp, ho]; exact Quiet.ok S (ta_sound S hA hu (fun ms hd => hn ms hd) hz ha hr)
    · cases hc
  case panic p =>
    split at hc
    · rename_i xa ha
      cases hc
      have hr' : rPan xa a h = .val v h' := hr
      unfold rPan at hr'
      split at hr' <;> cases hr'
    · cases hc
  case call c => exact builtin_ok S hA ho hc hr hcall hcallF
  case defer c => exact absurd ho (hnd c)

/-! panics -/
def ChOk (E : Env) : List PE → List PanicEntry → Prop
  | [], [] => True
  | p :: ps, q :: qs => cv E p.v = some q.v ∧ p.recovered = q.recovered ∧ q.goexit = false ∧ ChOk E ps qs
  | _, _ => False
theorem ChOk.up {E E' : Env} (hE : ∀ b e, E b = some e → E' b = some e) : ∀ {ps : List PE} {qs : List PanicEntry}, ChOk E ps qs → ChOk E' ps qs
  | [], [], _ => trivial
  | p :: ps, q :: qs, ⟨h1, h2, h3, h4⟩ => ⟨cv_up hE _ _ h1, h2, h3, h4.up hE⟩
  | [], _ :: _, hh => hh.elim
  | _ :: _, [], hh => hh.elim

theorem ofO_pan {o : Option AV} {c : List PE} {h' : H} (hr : ofO o h = .pan c h') : False := by
  unfold ofO at hr
  split at hr <;> cases hr
theorem runOp_pan {xop : XOp} {r : Rec} {c : List PE} {h' : H} (hr : runOp xop r a h = .pan c h') : (∃ y, xop = .pan y) ∨ (∃ f args, xop = .call f args) ∨ ∃ f args, xop = .callF f args := by
  cases xop with
  | pan y => exact .inl ⟨y, rfl⟩
  | call f args => exact .inr (.inl ⟨f, args, rfl⟩)
  | callF f args => exact .inr (.inr ⟨f, args, rfl⟩)
  | bad => cases hr
  | mv z0 =>
    have hr' : rMv z0 a h = .pan c h' := hr
    unfold rMv at hr'
    (repeat' split at hr') <;> first | (cases hr'; done) | (exact (ofO_pan hr').elim) | (simp only [frc_eq] at hr'; cases hr'; done)
  | pick z0 z1 z2 =>
    have hr' : rPick z0 z1 z2 a h = .pan c h' := hr
    unfold rPick at hr'
    (repeat' split at hr') <;> first | (cases hr'; done) | (exact (ofO_pan hr').elim) | (simp only [frc_eq] at hr'; cases hr'; done)
  | new z0 z1 =>
    have hr' : rNew z0 z1 a h = .pan c h' := hr
    unfold rNew at hr'
    (repeat' split at hr') <;> first | (cases hr'; done) | (exact (ofO_pan hr').elim) | (simp only [frc_eq] at hr'; cases hr'; done)
  | box z0 z1 =>
    have hr' : rBox z0 z1 a h = .pan c h' := hr
    unfold rBox at hr'
    (repeat' split at hr') <;> first | (cases hr'; done) | (exact (ofO_pan hr').elim) | (simp only [frc_eq] at hr'; cases hr'; done)
  | build z0 z1 =>
    have hr' : rBuild z0 z1 a h = .pan c h' := hr
    unfold rBuild at hr'
    (repeat' split at hr') <;> first | (cases hr'; done) | (exact (ofO_pan hr').elim) | (simp only [frc_eq] at hr'; cases hr'; done)
  | buildS z0 z1 z2 z3 =>
    have hr' : rBuildS z0 z1 z2 z3 a h = .pan c h' := hr
    unfold rBuildS at hr'
    (repeat' split at hr') <;> first | (cases hr'; done) | (exact (ofO_pan hr').elim) | (simp only [frc_eq] at hr'; cases hr'; done)
  | ld z0 z1 z2 =>
    have hr' : rLd z0 z1 z2 a h = .pan c h' := hr
    unfold rLd at hr'
    (repeat' split at hr') <;> first | (cases hr'; done) | (exact (ofO_pan hr').elim) | (simp only [frc_eq] at hr'; cases hr'; done)
  | st z0 z1 z2 =>
    have hr' : rSt z0 z1 z2 a h = .pan c h' := hr
    unfold rSt at hr'
    (repeat' split at hr') <;> first | (cases hr'; done) | (exact (ofO_pan hr').elim) | (simp only [frc_eq] at hr'; cases hr'; done)
  | nilc z0 =>
    have hr' : rNilc z0 a h = .pan c h' := hr
    unfold rNilc at hr'
    (repeat' split at hr') <;> first | (cases hr'; done) | (exact (ofO_pan hr').elim) | (simp only [frc_eq] at hr'; cases hr'; done)
  | bin z0 z1 z2 z3 z4 =>
    have hr' : rBin z0 z1 z2 z3 z4 a h = .pan c h' := hr
    unfold rBin at hr'
    (repeat' split at hr') <;> first | (cases hr'; done) | (exact (ofO_pan hr').elim) | (simp only [frc_eq] at hr'; cases hr'; done)
  | un z0 z1 =>
    have hr' : rUn z0 z1 a h = .pan c h' := hr
    unfold rUn at hr'
    (repeat' split at hr') <;> first | (cases hr'; done) | (exact (ofO_pan hr').elim) | (simp only [frc_eq] at hr'; cases hr'; done)
  | conv z0 z1 =>
    have hr' : rConv z0 z1 a h = .pan c h' := hr
    unfold rConv at hr'
    (repeat' split at hr') <;> first | (cases hr'; done) | (exact (ofO_pan hr').elim) | (simp only [frc_eq] at hr'; cases hr'; done)
  | convS z0 =>
    have hr' : rConvS z0 a h = .pan c h' := hr
    unfold rConvS at hr'
    (repeat' split at hr') <;> first | (cases hr'; done) | (exact (ofO_pan hr').elim) | (simp only [frc_eq] at hr'; cases hr'; done)
  | convB z0 =>
    have hr' : rConvB z0 a h = .pan c h' := hr
    unfold rConvB at hr'
    (repeat' split at hr') <;> first | (cases hr'; done) | (exact (ofO_pan hr').elim) | (simp only [frc_eq] at hr'; cases hr'; done)
  | mkI z0 z1 =>
    have hr' : rMkI z0 z1 a h = .pan c h' := hr
    unfold rMkI at hr'
    (repeat' split at hr') <;> first | (cases hr'; done) | (exact (ofO_pan hr').elim) | (simp only [frc_eq] at hr'; cases hr'; done)
  | mkF z0 z1 z2 =>
    have hr' : rMkF z0 z1 z2 a h = .pan c h' := hr
    unfold rMkF at hr'
    (repeat' split at hr') <;> first | (cases hr'; done) | (exact (ofO_pan hr').elim) | (simp only [frc_eq] at hr'; cases hr'; done)
  | mkM  =>
    have hr' : rMkM  a h = .pan c h' := hr
    unfold rMkM at hr'
    (repeat' split at hr') <;> first | (cases hr'; done) | (exact (ofO_pan hr').elim) | (simp only [frc_eq] at hr'; cases hr'; done)
  | mkS z0 z1 z2 z3 z4 z5 =>
    have hr' : rMkS z0 z1 z2 z3 z4 z5 a h = .pan c h' := hr
    unfold rMkS at hr'
    (repeat' split at hr') <;> first | (cases hr'; done) | (exact (ofO_pan hr').elim) | (simp only [frc_eq] at hr'; cases hr'; done)
  | slStr z0 z1 z2 =>
    have hr' : rSlStr z0 z1 z2 a h = .pan c h' := hr
    unfold rSlStr at hr'
    (repeat' split at hr') <;> first | (cases hr'; done) | (exact (ofO_pan hr').elim) | (simp only [frc_eq] at hr'; cases hr'; done)
  | slSl z0 z1 z2 z3 =>
    have hr' : rSlSl z0 z1 z2 z3 a h = .pan c h' := hr
    unfold rSlSl at hr'
    (repeat' split at hr') <;> first | (cases hr'; done) | (exact (ofO_pan hr').elim) | (simp only [frc_eq] at hr'; cases hr'; done)
  | slArr z0 z1 z2 z3 z4 =>
    have hr' : rSlArr z0 z1 z2 z3 z4 a h = .pan c h' := hr
    unfold rSlArr at hr'
    (repeat' split at hr') <;> first | (cases hr'; done) | (exact (ofO_pan hr').elim) | (simp only [frc_eq] at hr'; cases hr'; done)
  | fa z0 z1 =>
    have hr' : rFa z0 z1 a h = .pan c h' := hr
    unfold rFa at hr'
    (repeat' split at hr') <;> first | (cases hr'; done) | (exact (ofO_pan hr').elim) | (simp only [frc_eq] at hr'; cases hr'; done)
  | fld z0 z1 z2 z3 =>
    have hr' : rFld z0 z1 z2 z3 a h = .pan c h' := hr
    unfold rFld at hr'
    (repeat' split at hr') <;> first | (cases hr'; done) | (exact (ofO_pan hr').elim) | (simp only [frc_eq] at hr'; cases hr'; done)
  | ia z0 z1 z2 =>
    have hr' : rIa z0 z1 z2 a h = .pan c h' := hr
    unfold rIa at hr'
    (repeat' split at hr') <;> first | (cases hr'; done) | (exact (ofO_pan hr').elim) | (simp only [frc_eq] at hr'; cases hr'; done)
  | iaArr z0 z1 z2 z3 =>
    have hr' : rIaArr z0 z1 z2 z3 a h = .pan c h' := hr
    unfold rIaArr at hr'
    (repeat' split at hr') <;> first | (cases hr'; done) | (exact (ofO_pan hr').elim) | (simp only [frc_eq] at hr'; cases hr'; done)
  | ixS z0 z1 =>
    have hr' : rIxS z0 z1 a h = .pan c h' := hr
    unfold rIxS at hr'
    (repeat' split at hr') <;> first | (cases hr'; done) | (exact (ofO_pan hr').elim) | (simp only [frc_eq] at hr'; cases hr'; done)
  | ixA z0 z1 z2 =>
    have hr' : rIxA z0 z1 z2 a h = .pan c h' := hr
    unfold rIxA at hr'
    (repeat' split at hr') <;> first | (cases hr'; done) | (exact (ofO_pan hr').elim) | (simp only [frc_eq] at hr'; cases hr'; done)
  | look z0 z1 z2 z3 z4 =>
    have hr' : rLook z0 z1 z2 z3 z4 a h = .pan c h' := hr
    unfold rLook at hr'
    (repeat' split at hr') <;> first | (cases hr'; done) | (exact (ofO_pan hr').elim) | (simp only [frc_eq] at hr'; cases hr'; done)
  | upd z0 z1 z2 z3 =>
    have hr' : rUpd z0 z1 z2 z3 a h = .pan c h' := hr
    unfold rUpd at hr'
    (repeat' split at hr') <;> first | (cases hr'; done) | (exact (ofO_pan hr').elim) | (simp only [frc_eq] at hr'; cases hr'; done)
  | ins z0 z1 z2 z3 =>
    have hr' : rUpd z0 z1 z2 z3 a h = .pan c h' := hr
    unfold rUpd at hr'
    (repeat' split at hr') <;> first | (cases hr'; done) | (exact (ofO_pan hr').elim) | (simp only [frc_eq] at hr'; cases hr'; done)
  | ext z0 z1 =>
    have hr' : rExt z0 z1 a h = .pan c h' := hr
    unfold rExt at hr'
    (repeat' split at hr') <;> first | (cases hr'; done) | (exact (ofO_pan hr').elim) | (simp only [frc_eq] at hr'; cases hr'; done)
  | ta z0 z1 z2 z3 =>
    have hr' : rTa z0 z1 z2 z3 a h = .pan c h' := hr
    unfold rTa at hr'
    (repeat' split at hr') <;> first | (cases hr'; done) | (exact (ofO_pan hr').elim) | (simp only [frc_eq] at hr'; cases hr'; done)
  | len z0 z1 =>
    have hr' : rLen z0 z1 a h = .pan c h' := hr
    unfold rLen at hr'
    (repeat' split at hr') <;> first | (cases hr'; done) | (exact (ofO_pan hr').elim) | (simp only [frc_eq] at hr'; cases hr'; done)
  | lenN z0 =>
    have hr' : rLenN z0 a h = .pan c h' := hr
    unfold rLenN at hr'
    (repeat' split at hr') <;> first | (cases hr'; done) | (exact (ofO_pan hr').elim) | (simp only [frc_eq] at hr'; cases hr'; done)
  | capS z0 =>
    have hr' : rCapS z0 a h = .pan c h' := hr
    unfold rCapS at hr'
    (repeat' split at hr') <;> first | (cases hr'; done) | (exact (ofO_pan hr').elim) | (simp only [frc_eq] at hr'; cases hr'; done)
  | app z0 z1 z2 z3 z4 =>
    have hr' : rApp z0 z1 z2 z3 z4 a h = .pan c h' := hr
    unfold rApp at hr'
    (repeat' split at hr') <;> first | (cases hr'; done) | (exact (ofO_pan hr').elim) | (simp only [frc_eq] at hr'; cases hr'; done)
  | appZ z0 z1 z2 z3 z4 z5 =>
    have hr' : rAppZ z0 z1 z2 z3 z4 z5 a h = .pan c h' := hr
    unfold rAppZ at hr'
    (repeat' split at hr') <;> first | (cases hr'; done) | (exact (ofO_pan hr').elim) | (simp only [frc_eq] at hr'; cases hr'; done)
  | max z0 z1 =>
    have hr' : rMax z0 z1 a h = .pan c h' := hr
    unfold rMax at hr'
    (repeat' split at hr') <;> first | (cases hr'; done) | (exact (ofO_pan hr').elim) | (simp only [frc_eq] at hr'; cases hr'; done)
  | min z0 z1 =>
    have hr' : rMin z0 z1 a h = .pan c h' := hr
    unfold rMin at hr'
    (repeat' split at hr') <;> first | (cases hr'; done) | (exact (ofO_pan hr').elim) | (simp only [frc_eq] at hr'; cases hr'; done)
  | rngS z0 =>
    have hr' : rRngS z0 a h = .pan c h' := hr
    unfold rRngS at hr'
    (repeat' split at hr') <;> first | (cases hr'; done) | (exact (ofO_pan hr').elim) | (simp only [frc_eq] at hr'; cases hr'; done)
  | nextS z0 =>
    have hr' : rNextS z0 a h = .pan c h' := hr
    unfold rNextS at hr'
    (repeat' split at hr') <;> first | (cases hr'; done) | (exact (ofO_pan hr').elim) | (simp only [frc_eq] at hr'; cases hr'; done)
  | dfr z0 z1 =>
    have hr' : rDfr z0 z1 a h = .pan c h' := hr
    unfold rDfr at hr'
    (repeat' split at hr') <;> first | (cases hr'; done) | (exact (ofO_pan hr').elim) | (simp only [frc_eq] at hr'; cases hr'; done)

/-- an operation that panics by itself -/
theorem op_pan (S : HSim P W0 E h w) (hA : ASim E n vm a x) {o : Oper} {xop : XOp} (hc : cOp P vm o.op = some xop) {r : Rec} {c : List PE} {h' : H} (hr : runOp xop r a h = .pan c h')
    (hcall : ∀ f args, xop ≠ .call f args) (hcallF : ∀ f args, xop ≠ .callF f args) :
    h' = h ∧ (∃ u, (execOp x.eval o).run P w = .halt (.panic u) w ∧ ChOk E c [{ v := u, recovered := false }]) ∧ ∀ c, o.op ≠ .defer c := by
  obtain ⟨y, rfl⟩ : ∃ y, xop = .pan y := by
    rcases runOp_pan hr with h1 | ⟨f, args, h1⟩ | ⟨f, args, h1⟩
    · exact h1
    · exact absurd h1 (hcall f args)
    · exact absurd h1 (hcallF f args)
  have hr' : rPan y a h = .pan c h' := hr
  unfold rPan at hr'
  split at hr'
  · rename_i t v hg
    cases hr'
    have hop : ∃ p, o.op = .panic p ∧ cO vm p = some y := by
      cases ho : o.op <;> simp only [cOp, ho] at hc <;> try (cases hc; done)
      case panic p =>
        split at hc
        · rename_i xa ha; cases hc; exact ⟨p, rfl, ha⟩
        · cases hc
      case call cc =>
        unfold cCall at hc
        (repeat' split at hc) <;> cases hc
      case slice t p lo hi mx => cases mx <;> simp only at hc <;> (repeat' split at hc) <;> cases hc
      case makeMap t r' => cases r' <;> cases hc
      case next p isS => cases isS <;> simp only at hc <;> (repeat' split at hc) <;> cases hc
      all_goals ((repeat' split at hc) <;> cases hc)
    obtain ⟨p, ho, hp⟩ := hop
    have hcv := opr_sound S hA hp hg
    obtain ⟨u, hu, heq⟩ := cv_iface hcv
    refine ⟨rfl, ⟨x.eval p, ?_, hcv, rfl, rfl, trivial⟩, by rw [ho]; intro c hc'; cases hc'⟩
    simp [execOp, ho, heq, Instr.panic, goPanic]
  · cases hr'

end
end Go.Ev
