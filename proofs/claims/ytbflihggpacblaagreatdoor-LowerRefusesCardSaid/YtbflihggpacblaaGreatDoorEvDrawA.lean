/- Drawn regions: an operation looks only at its operands; what quiet operations do to the memory. (Printed by mkdraw1.py.) -/
import Derived.Test.YtbflihggpacblaaGreatDoorEvStep
set_option linter.unusedVariables false
set_option linter.unusedSimpArgs false
namespace Go.Ev
set_option linter.unusedSectionVars false
variable [Sig]

section
variable {a a' : A} {r : Rec} {h h' : H}

theorem getXs_congr : ∀ (l : List XO), (∀ x ∈ l, getX x a = getX x a') → getXs a l = getXs a' l
  | [], _ => rfl
  | x :: l, H => by simp only [getXs, H x (by simp), getXs_congr l (fun y hy => H y (by simp [hy]))]
theorem getParts_congr : ∀ (l : List (Nat × Nat × XO)), (∀ x ∈ partXs l, getX x a = getX x a') → getParts a l = getParts a' l
  | [], _ => rfl
  | (o, s, x) :: l, H => by simp only [getParts, H x (by simp [partXs]), getParts_congr l (fun y hy => H y (by simp [partXs, hy]))]
theorem getOpt_congr : ∀ (l : Option XO), (∀ x ∈ optXs l, getX x a = getX x a') → getOpt a l = getOpt a' l
  | none, _ => rfl
  | some x, H => by simp only [getOpt, H x (by simp [optXs])]

theorem runOp_congr (xop : XOp) (H : ∀ x ∈ xreads xop, getX x a = getX x a') : runOp xop r a h = runOp xop r a' h := by
  cases xop with
  | mv x =>
    show rMv x a h = rMv x a' h
    simp only [rMv, H x (by simp [xreads])]
  | pick c x y =>
    show rPick c x y a h = rPick c x y a' h
    simp only [rPick, H c (by simp [xreads]), H x (by simp [xreads]), H y (by simp [xreads])]
  | new cs e =>
    show rNew cs e a h = rNew cs e a' h
    simp only [rNew]
  | box e x =>
    show rBox e x a h = rBox e x a' h
    simp only [rBox, H x (by simp [xreads])]
  | build z ps =>
    show rBuild z ps a h = rBuild z ps a' h
    simp only [rBuild, getParts_congr ps (fun z hz => H z (by simp [xreads, hz]))]
  | buildS e l z ps =>
    show rBuildS e l z ps a h = rBuildS e l z ps a' h
    simp only [rBuildS, getParts_congr ps (fun z hz => H z (by simp [xreads, hz]))]
  | ld g n x =>
    show rLd g n x a h = rLd g n x a' h
    simp only [rLd, H x (by simp [xreads])]
  | st n x y =>
    show rSt n x y a h = rSt n x y a' h
    simp only [rSt, H x (by simp [xreads]), H y (by simp [xreads])]
  | nilc x =>
    show rNilc x a h = rNilc x a' h
    simp only [rNilc, H x (by simp [xreads])]
  | bin op k l x y =>
    show rBin op k l x y a h = rBin op k l x y a' h
    simp only [rBin, H x (by simp [xreads]), H y (by simp [xreads])]
  | un op x =>
    show rUn op x a h = rUn op x a' h
    simp only [rUn, H x (by simp [xreads])]
  | conv k x =>
    show rConv k x a h = rConv k x a' h
    simp only [rConv, H x (by simp [xreads])]
  | convS x =>
    show rConvS x a h = rConvS x a' h
    simp only [rConvS, H x (by simp [xreads])]
  | convB x =>
    show rConvB x a h = rConvB x a' h
    simp only [rConvB, H x (by simp [xreads])]
  | mkI t x =>
    show rMkI t x a h = rMkI t x a' h
    simp only [rMkI, H x (by simp [xreads])]
  | mkF f fs cs =>
    show rMkF f fs cs a h = rMkF f fs cs a' h
    simp only [rMkF, getXs_congr fs (fun z hz => H z (by simp [xreads, hz])), getXs_congr cs (fun z hz => H z (by simp [xreads, hz]))]
  | mkM  =>
    show rMkM  a h = rMkM  a' h
    simp only [rMkM]
  | mkS e sz by_ z x y =>
    show rMkS e sz by_ z x y a h = rMkS e sz by_ z x y a' h
    simp only [rMkS, H x (by simp [xreads]), H y (by simp [xreads])]
  | slStr x lo hi =>
    show rSlStr x lo hi a h = rSlStr x lo hi a' h
    simp only [rSlStr, H x (by simp [xreads]), getOpt_congr lo (fun z hz => H z (by simp [xreads, hz])), getOpt_congr hi (fun z hz => H z (by simp [xreads, hz]))]
  | slSl sz x lo hi =>
    show rSlSl sz x lo hi a h = rSlSl sz x lo hi a' h
    simp only [rSlSl, H x (by simp [xreads]), getOpt_congr lo (fun z hz => H z (by simp [xreads, hz])), getOpt_congr hi (fun z hz => H z (by simp [xreads, hz]))]
  | slArr n sz x lo hi =>
    show rSlArr n sz x lo hi a h = rSlArr n sz x lo hi a' h
    simp only [rSlArr, H x (by simp [xreads]), getOpt_congr lo (fun z hz => H z (by simp [xreads, hz])), getOpt_congr hi (fun z hz => H z (by simp [xreads, hz]))]
  | fa o x =>
    show rFa o x a h = rFa o x a' h
    simp only [rFa, H x (by simp [xreads])]
  | fld g o n x =>
    show rFld g o n x a h = rFld g o n x a' h
    simp only [rFld, H x (by simp [xreads])]
  | ia sz x y =>
    show rIa sz x y a h = rIa sz x y a' h
    simp only [rIa, H x (by simp [xreads]), H y (by simp [xreads])]
  | iaArr len sz x y =>
    show rIaArr len sz x y a h = rIaArr len sz x y a' h
    simp only [rIaArr, H x (by simp [xreads]), H y (by simp [xreads])]
  | ixS x y =>
    show rIxS x y a h = rIxS x y a' h
    simp only [rIxS, H x (by simp [xreads]), H y (by simp [xreads])]
  | ixA len x y =>
    show rIxA len x y a h = rIxA len x y a' h
    simp only [rIxA, H x (by simp [xreads]), H y (by simp [xreads])]
  | look k z ok x y =>
    show rLook k z ok x y a h = rLook k z ok x y a' h
    simp only [rLook, H x (by simp [xreads]), H y (by simp [xreads])]
  | upd i m k v =>
    show rUpd i m k v a h = rUpd i m k v a' h
    simp only [rUpd, H m (by simp [xreads]), H k (by simp [xreads]), H v (by simp [xreads])]
  | ins i m k v =>
    show rUpd i m k v a h = rUpd i m k v a' h
    simp only [rUpd, H m (by simp [xreads]), H k (by simp [xreads]), H v (by simp [xreads])]
  | ext x i =>
    show rExt x i a h = rExt x i a' h
    simp only [rExt, H x (by simp [xreads])]
  | ta t z ok x =>
    show rTa t z ok x a h = rTa t z ok x a' h
    simp only [rTa, H x (by simp [xreads])]
  | pan x =>
    show rPan x a h = rPan x a' h
    simp only [rPan, H x (by simp [xreads])]
  | len k x =>
    show rLen k x a h = rLen k x a' h
    simp only [rLen, H x (by simp [xreads])]
  | lenN n =>
    show rLenN n a h = rLenN n a' h
    simp only [rLenN]
  | capS x =>
    show rCapS x a h = rCapS x a' h
    simp only [rCapS, H x (by simp [xreads])]
  | app e sz by_ x y =>
    show rApp e sz by_ x y a h = rApp e sz by_ x y a' h
    simp only [rApp, H x (by simp [xreads]), H y (by simp [xreads])]
  | appZ e sz by_ z x y =>
    show rAppZ e sz by_ z x y a h = rAppZ e sz by_ z x y a' h
    simp only [rAppZ, H x (by simp [xreads]), H y (by simp [xreads])]
  | max x y =>
    show rMax x y a h = rMax x y a' h
    simp only [rMax, H x (by simp [xreads]), H y (by simp [xreads])]
  | min x y =>
    show rMin x y a h = rMin x y a' h
    simp only [rMin, H x (by simp [xreads]), H y (by simp [xreads])]
  | rngS x =>
    show rRngS x a h = rRngS x a' h
    simp only [rRngS, H x (by simp [xreads])]
  | nextS x =>
    show rNextS x a h = rNextS x a' h
    simp only [rNextS, H x (by simp [xreads])]
  | call f args =>
    show rCall f args r a h = rCall f args r a' h
    simp only [rCall, H f (by simp [xreads]), getXs_congr args (fun z hz => H z (by simp [xreads, hz]))]
  | callF g args =>
    show rCallF g args r a h = rCallF g args r a' h
    simp only [rCallF, getXs_congr args (fun z hz => H z (by simp [xreads, hz]))]
  | dfr f args =>
    show rDfr f args a h = rDfr f args a' h
    simp only [rDfr, H f (by simp [xreads]), getXs_congr args (fun z hz => H z (by simp [xreads, hz]))]
  | bad  =>
    rfl

theorem wantedX_congr {g : Option (XO × Bool)} (H : ∀ x b, g = some (x, b) → getX x a = getX x a') : wantedX g a = wantedX g a' := by
  cases g with
  | none => rfl
  | some p => obtain ⟨x, b⟩ := p; simp only [wantedX, H x b rfl]

theorem ofO_val2 {o : Option AV} {v : AV} (hr : ofO o h = .val v h') : h' = h ∧ ∀ h2, ofO o h2 = .val v h2 := by
  unfold ofO at hr
  split at hr
  · cases hr; exact ⟨rfl, fun _ => rfl⟩
  · cases hr

def xalloc : XOp → Bool
  | .new .. | .box .. | .buildS .. | .mkM => true
  | _ => false

/-- what neither looks at memory nor makes it -/
theorem plain_val (xop : XOp) (hq : xquiet xop = true) (hl : xlooks xop = false) (hal : xalloc xop = false) {v : AV} (hr : runOp xop r a h = .val v h') : h' = h ∧ ∀ h2, runOp xop r a h2 = .val v h2 := by
  cases xop with
  | mv z0 =>
    have hr' : rMv z0 a h = .val v h' := hr
    show h' = h ∧ ∀ h2, rMv z0 a h2 = .val v h2
    unfold rMv at hr' ⊢
    (repeat' split at hr') <;> (try simp only [frc_eq] at hr') <;> first | (cases hr'; done) | (cases hr'; exact ⟨rfl, fun _ => by simp_all [frc_eq]⟩) | (have hh := ofO_val2 hr'; refine ⟨hh.1, fun h2 => ?_⟩; have h3 := hh.2 h2; simp_all [frc_eq]; done) | exact ofO_val2 hr' | (exact ⟨hr'.2.symm, hr'.1⟩)
  | pick z0 z1 z2 =>
    have hr' : rPick z0 z1 z2 a h = .val v h' := hr
    show h' = h ∧ ∀ h2, rPick z0 z1 z2 a h2 = .val v h2
    unfold rPick at hr' ⊢
    (repeat' split at hr') <;> (try simp only [frc_eq] at hr') <;> first | (cases hr'; done) | (cases hr'; exact ⟨rfl, fun _ => by simp_all [frc_eq]⟩) | (have hh := ofO_val2 hr'; refine ⟨hh.1, fun h2 => ?_⟩; have h3 := hh.2 h2; simp_all [frc_eq]; done) | exact ofO_val2 hr' | (exact ⟨hr'.2.symm, hr'.1⟩)
  | new z0 z1 => first | (cases hq; done) | (cases hl; done) | (cases hal; done)
  | box z0 z1 => first | (cases hq; done) | (cases hl; done) | (cases hal; done)
  | build z0 z1 =>
    have hr' : rBuild z0 z1 a h = .val v h' := hr
    show h' = h ∧ ∀ h2, rBuild z0 z1 a h2 = .val v h2
    unfold rBuild at hr' ⊢
    (repeat' split at hr') <;> (try simp only [frc_eq] at hr') <;> first | (cases hr'; done) | (cases hr'; exact ⟨rfl, fun _ => by simp_all [frc_eq]⟩) | (have hh := ofO_val2 hr'; refine ⟨hh.1, fun h2 => ?_⟩; have h3 := hh.2 h2; simp_all [frc_eq]; done) | exact ofO_val2 hr' | (exact ⟨hr'.2.symm, hr'.1⟩)
  | buildS z0 z1 z2 z3 => first | (cases hq; done) | (cases hl; done) | (cases hal; done)
  | ld z0 z1 z2 => first | (cases hq; done) | (cases hl; done) | (cases hal; done)
  | st z0 z1 z2 => first | (cases hq; done) | (cases hl; done) | (cases hal; done)
  | nilc z0 =>
    have hr' : rNilc z0 a h = .val v h' := hr
    show h' = h ∧ ∀ h2, rNilc z0 a h2 = .val v h2
    unfold rNilc at hr' ⊢
    (repeat' split at hr') <;> (try simp only [frc_eq] at hr') <;> first | (cases hr'; done) | (cases hr'; exact ⟨rfl, fun _ => by simp_all [frc_eq]⟩) | (have hh := ofO_val2 hr'; refine ⟨hh.1, fun h2 => ?_⟩; have h3 := hh.2 h2; simp_all [frc_eq]; done) | exact ofO_val2 hr' | (exact ⟨hr'.2.symm, hr'.1⟩)
  | bin z0 z1 z2 z3 z4 =>
    have hr' : rBin z0 z1 z2 z3 z4 a h = .val v h' := hr
    show h' = h ∧ ∀ h2, rBin z0 z1 z2 z3 z4 a h2 = .val v h2
    unfold rBin at hr' ⊢
    (repeat' split at hr') <;> (try simp only [frc_eq] at hr') <;> first | (cases hr'; done) | (cases hr'; exact ⟨rfl, fun _ => by simp_all [frc_eq]⟩) | (have hh := ofO_val2 hr'; refine ⟨hh.1, fun h2 => ?_⟩; have h3 := hh.2 h2; simp_all [frc_eq]; done) | exact ofO_val2 hr' | (exact ⟨hr'.2.symm, hr'.1⟩)
  | un z0 z1 =>
    have hr' : rUn z0 z1 a h = .val v h' := hr
    show h' = h ∧ ∀ h2, rUn z0 z1 a h2 = .val v h2
    unfold rUn at hr' ⊢
    (repeat' split at hr') <;> (try simp only [frc_eq] at hr') <;> first | (cases hr'; done) | (cases hr'; exact ⟨rfl, fun _ => by simp_all [frc_eq]⟩) | (have hh := ofO_val2 hr'; refine ⟨hh.1, fun h2 => ?_⟩; have h3 := hh.2 h2; simp_all [frc_eq]; done) | exact ofO_val2 hr' | (exact ⟨hr'.2.symm, hr'.1⟩)
  | conv z0 z1 =>
    have hr' : rConv z0 z1 a h = .val v h' := hr
    show h' = h ∧ ∀ h2, rConv z0 z1 a h2 = .val v h2
    unfold rConv at hr' ⊢
    (repeat' split at hr') <;> (try simp only [frc_eq] at hr') <;> first | (cases hr'; done) | (cases hr'; exact ⟨rfl, fun _ => by simp_all [frc_eq]⟩) | (have hh := ofO_val2 hr'; refine ⟨hh.1, fun h2 => ?_⟩; have h3 := hh.2 h2; simp_all [frc_eq]; done) | exact ofO_val2 hr' | (exact ⟨hr'.2.symm, hr'.1⟩)
  | convS z0 =>
    have hr' : rConvS z0 a h = .val v h' := hr
    show h' = h ∧ ∀ h2, rConvS z0 a h2 = .val v h2
    unfold rConvS at hr' ⊢
    (repeat' split at hr') <;> (try simp only [frc_eq] at hr') <;> first | (cases hr'; done) | (cases hr'; exact ⟨rfl, fun _ => by simp_all [frc_eq]⟩) | (have hh := ofO_val2 hr'; refine ⟨hh.1, fun h2 => ?_⟩; have h3 := hh.2 h2; simp_all [frc_eq]; done) | exact ofO_val2 hr' | (exact ⟨hr'.2.symm, hr'.1⟩)
  | convB z0 => first | (cases hq; done) | (cases hl; done) | (cases hal; done)
  | mkI z0 z1 =>
    have hr' : rMkI z0 z1 a h = .val v h' := hr
    show h' = h ∧ ∀ h2, rMkI z0 z1 a h2 = .val v h2
    unfold rMkI at hr' ⊢
    (repeat' split at hr') <;> (try simp only [frc_eq] at hr') <;> first | (cases hr'; done) | (cases hr'; exact ⟨rfl, fun _ => by simp_all [frc_eq]⟩) | (have hh := ofO_val2 hr'; refine ⟨hh.1, fun h2 => ?_⟩; have h3 := hh.2 h2; simp_all [frc_eq]; done) | exact ofO_val2 hr' | (exact ⟨hr'.2.symm, hr'.1⟩)
  | mkF z0 z1 z2 =>
    have hr' : rMkF z0 z1 z2 a h = .val v h' := hr
    show h' = h ∧ ∀ h2, rMkF z0 z1 z2 a h2 = .val v h2
    unfold rMkF at hr' ⊢
    (repeat' split at hr') <;> (try simp only [frc_eq] at hr') <;> first | (cases hr'; done) | (cases hr'; exact ⟨rfl, fun _ => by simp_all [frc_eq]⟩) | (have hh := ofO_val2 hr'; refine ⟨hh.1, fun h2 => ?_⟩; have h3 := hh.2 h2; simp_all [frc_eq]; done) | exact ofO_val2 hr' | (exact ⟨hr'.2.symm, hr'.1⟩)
  | mkM  => first | (cases hq; done) | (cases hl; done) | (cases hal; done)
  | mkS z0 z1 z2 z3 z4 z5 => first | (cases hq; done) | (cases hl; done) | (cases hal; done)
  | slStr z0 z1 z2 =>
    have hr' : rSlStr z0 z1 z2 a h = .val v h' := hr
    show h' = h ∧ ∀ h2, rSlStr z0 z1 z2 a h2 = .val v h2
    unfold rSlStr at hr' ⊢
    (repeat' split at hr') <;> (try simp only [frc_eq] at hr') <;> first | (cases hr'; done) | (cases hr'; exact ⟨rfl, fun _ => by simp_all [frc_eq]⟩) | (have hh := ofO_val2 hr'; refine ⟨hh.1, fun h2 => ?_⟩; have h3 := hh.2 h2; simp_all [frc_eq]; done) | exact ofO_val2 hr' | (exact ⟨hr'.2.symm, hr'.1⟩)
  | slSl z0 z1 z2 z3 =>
    have hr' : rSlSl z0 z1 z2 z3 a h = .val v h' := hr
    show h' = h ∧ ∀ h2, rSlSl z0 z1 z2 z3 a h2 = .val v h2
    unfold rSlSl at hr' ⊢
    (repeat' split at hr') <;> (try simp only [frc_eq] at hr') <;> first | (cases hr'; done) | (cases hr'; exact ⟨rfl, fun _ => by simp_all [frc_eq]⟩) | (have hh := ofO_val2 hr'; refine ⟨hh.1, fun h2 => ?_⟩; have h3 := hh.2 h2; simp_all [frc_eq]; done) | exact ofO_val2 hr' | (exact ⟨hr'.2.symm, hr'.1⟩)
  | slArr z0 z1 z2 z3 z4 =>
    have hr' : rSlArr z0 z1 z2 z3 z4 a h = .val v h' := hr
    show h' = h ∧ ∀ h2, rSlArr z0 z1 z2 z3 z4 a h2 = .val v h2
    unfold rSlArr at hr' ⊢
    (repeat' split at hr') <;> (try simp only [frc_eq] at hr') <;> first | (cases hr'; done) | (cases hr'; exact ⟨rfl, fun _ => by simp_all [frc_eq]⟩) | (have hh := ofO_val2 hr'; refine ⟨hh.1, fun h2 => ?_⟩; have h3 := hh.2 h2; simp_all [frc_eq]; done) | exact ofO_val2 hr' | (exact ⟨hr'.2.symm, hr'.1⟩)
  | fa z0 z1 =>
    have hr' : rFa z0 z1 a h = .val v h' := hr
    show h' = h ∧ ∀ h2, rFa z0 z1 a h2 = .val v h2
    unfold rFa at hr' ⊢
    (repeat' split at hr') <;> (try simp only [frc_eq] at hr') <;> first | (cases hr'; done) | (cases hr'; exact ⟨rfl, fun _ => by simp_all [frc_eq]⟩) | (have hh := ofO_val2 hr'; refine ⟨hh.1, fun h2 => ?_⟩; have h3 := hh.2 h2; simp_all [frc_eq]; done) | exact ofO_val2 hr' | (exact ⟨hr'.2.symm, hr'.1⟩)
  | fld z0 z1 z2 z3 =>
    have hr' : rFld z0 z1 z2 z3 a h = .val v h' := hr
    show h' = h ∧ ∀ h2, rFld z0 z1 z2 z3 a h2 = .val v h2
    unfold rFld at hr' ⊢
    (repeat' split at hr') <;> (try simp only [frc_eq] at hr') <;> first | (cases hr'; done) | (cases hr'; exact ⟨rfl, fun _ => by simp_all [frc_eq]⟩) | (have hh := ofO_val2 hr'; refine ⟨hh.1, fun h2 => ?_⟩; have h3 := hh.2 h2; simp_all [frc_eq]; done) | exact ofO_val2 hr' | (exact ⟨hr'.2.symm, hr'.1⟩)
  | ia z0 z1 z2 =>
    have hr' : rIa z0 z1 z2 a h = .val v h' := hr
    show h' = h ∧ ∀ h2, rIa z0 z1 z2 a h2 = .val v h2
    unfold rIa at hr' ⊢
    (repeat' split at hr') <;> (try simp only [frc_eq] at hr') <;> first | (cases hr'; done) | (cases hr'; exact ⟨rfl, fun _ => by simp_all [frc_eq]⟩) | (have hh := ofO_val2 hr'; refine ⟨hh.1, fun h2 => ?_⟩; have h3 := hh.2 h2; simp_all [frc_eq]; done) | exact ofO_val2 hr' | (exact ⟨hr'.2.symm, hr'.1⟩)
  | iaArr z0 z1 z2 z3 =>
    have hr' : rIaArr z0 z1 z2 z3 a h = .val v h' := hr
    show h' = h ∧ ∀ h2, rIaArr z0 z1 z2 z3 a h2 = .val v h2
    unfold rIaArr at hr' ⊢
    (repeat' split at hr') <;> (try simp only [frc_eq] at hr') <;> first | (cases hr'; done) | (cases hr'; exact ⟨rfl, fun _ => by simp_all [frc_eq]⟩) | (have hh := ofO_val2 hr'; refine ⟨hh.1, fun h2 => ?_⟩; have h3 := hh.2 h2; simp_all [frc_eq]; done) | exact ofO_val2 hr' | (exact ⟨hr'.2.symm, hr'.1⟩)
  | ixS z0 z1 =>
    have hr' : rIxS z0 z1 a h = .val v h' := hr
    show h' = h ∧ ∀ h2, rIxS z0 z1 a h2 = .val v h2
    unfold rIxS at hr' ⊢
    (repeat' split at hr') <;> (try simp only [frc_eq] at hr') <;> first | (cases hr'; done) | (cases hr'; exact ⟨rfl, fun _ => by simp_all [frc_eq]⟩) | (have hh := ofO_val2 hr'; refine ⟨hh.1, fun h2 => ?_⟩; have h3 := hh.2 h2; simp_all [frc_eq]; done) | exact ofO_val2 hr' | (exact ⟨hr'.2.symm, hr'.1⟩)
  | ixA z0 z1 z2 =>
    have hr' : rIxA z0 z1 z2 a h = .val v h' := hr
    show h' = h ∧ ∀ h2, rIxA z0 z1 z2 a h2 = .val v h2
    unfold rIxA at hr' ⊢
    (repeat' split at hr') <;> (try simp only [frc_eq] at hr') <;> first | (cases hr'; done) | (cases hr'; exact ⟨rfl, fun _ => by simp_all [frc_eq]⟩) | (have hh := ofO_val2 hr'; refine ⟨hh.1, fun h2 => ?_⟩; have h3 := hh.2 h2; simp_all [frc_eq]; done) | exact ofO_val2 hr' | (exact ⟨hr'.2.symm, hr'.1⟩)
  | look z0 z1 z2 z3 z4 => first | (cases hq; done) | (cases hl; done) | (cases hal; done)
  | upd z0 z1 z2 z3 => first | (cases hq; done) | (cases hl; done) | (cases hal; done)
  | ins z0 z1 z2 z3 => first | (cases hq; done) | (cases hl; done) | (cases hal; done)
  | ext z0 z1 =>
    have hr' : rExt z0 z1 a h = .val v h' := hr
    show h' = h ∧ ∀ h2, rExt z0 z1 a h2 = .val v h2
    unfold rExt at hr' ⊢
    (repeat' split at hr') <;> (try simp only [frc_eq] at hr') <;> first | (cases hr'; done) | (cases hr'; exact ⟨rfl, fun _ => by simp_all [frc_eq]⟩) | (have hh := ofO_val2 hr'; refine ⟨hh.1, fun h2 => ?_⟩; have h3 := hh.2 h2; simp_all [frc_eq]; done) | exact ofO_val2 hr' | (exact ⟨hr'.2.symm, hr'.1⟩)
  | ta z0 z1 z2 z3 => first | (cases hq; done) | (cases hl; done) | (cases hal; done)
  | pan z0 => first | (cases hq; done) | (cases hl; done) | (cases hal; done)
  | len z0 z1 => first | (cases hq; done) | (cases hl; done) | (cases hal; done)
  | lenN z0 =>
    have hr' : rLenN z0 a h = .val v h' := hr
    show h' = h ∧ ∀ h2, rLenN z0 a h2 = .val v h2
    unfold rLenN at hr' ⊢
    (repeat' split at hr') <;> (try simp only [frc_eq] at hr') <;> first | (cases hr'; done) | (cases hr'; exact ⟨rfl, fun _ => by simp_all [frc_eq]⟩) | (have hh := ofO_val2 hr'; refine ⟨hh.1, fun h2 => ?_⟩; have h3 := hh.2 h2; simp_all [frc_eq]; done) | exact ofO_val2 hr' | (exact ⟨hr'.2.symm, hr'.1⟩)
  | capS z0 =>
    have hr' : rCapS z0 a h = .val v h' := hr
    show h' = h ∧ ∀ h2, rCapS z0 a h2 = .val v h2
    unfold rCapS at hr' ⊢
    (repeat' split at hr') <;> (try simp only [frc_eq] at hr') <;> first | (cases hr'; done) | (cases hr'; exact ⟨rfl, fun _ => by simp_all [frc_eq]⟩) | (have hh := ofO_val2 hr'; refine ⟨hh.1, fun h2 => ?_⟩; have h3 := hh.2 h2; simp_all [frc_eq]; done) | exact ofO_val2 hr' | (exact ⟨hr'.2.symm, hr'.1⟩)
  | app z0 z1 z2 z3 z4 => first | (cases hq; done) | (cases hl; done) | (cases hal; done)
  | appZ z0 z1 z2 z3 z4 z5 => first | (cases hq; done) | (cases hl; done) | (cases hal; done)
  | max z0 z1 =>
    have hr' : rMax z0 z1 a h = .val v h' := hr
    show h' = h ∧ ∀ h2, rMax z0 z1 a h2 = .val v h2
    unfold rMax at hr' ⊢
    (repeat' split at hr') <;> (try simp only [frc_eq] at hr') <;> first | (cases hr'; done) | (cases hr'; exact ⟨rfl, fun _ => by simp_all [frc_eq]⟩) | (have hh := ofO_val2 hr'; refine ⟨hh.1, fun h2 => ?_⟩; have h3 := hh.2 h2; simp_all [frc_eq]; done) | exact ofO_val2 hr' | (exact ⟨hr'.2.symm, hr'.1⟩)
  | min z0 z1 =>
    have hr' : rMin z0 z1 a h = .val v h' := hr
    show h' = h ∧ ∀ h2, rMin z0 z1 a h2 = .val v h2
    unfold rMin at hr' ⊢
    (repeat' split at hr') <;> (try simp only [frc_eq] at hr') <;> first | (cases hr'; done) | (cases hr'; exact ⟨rfl, fun _ => by simp_all [frc_eq]⟩) | (have hh := ofO_val2 hr'; refine ⟨hh.1, fun h2 => ?_⟩; have h3 := hh.2 h2; simp_all [frc_eq]; done) | exact ofO_val2 hr' | (exact ⟨hr'.2.symm, hr'.1⟩)
  | rngS z0 => first | (cases hq; done) | (cases hl; done) | (cases hal; done)
  | nextS z0 => first | (cases hq; done) | (cases hl; done) | (cases hal; done)
  | call z0 z1 => first | (cases hq; done) | (cases hl; done) | (cases hal; done)
  | callF z0 z1 => first | (cases hq; done) | (cases hl; done) | (cases hal; done)
  | dfr z0 z1 => first | (cases hq; done) | (cases hl; done) | (cases hal; done)
  | bad  => first | (cases hq; done) | (cases hl; done) | (cases hal; done)

theorem loadAt_mono {h2 : H} (H : ∀ b y, h.get b = some y → h2.get b = some y) {g : Bool} {n b off : Nat} {v : AV} (hr : loadAt h g n b off = some v) : loadAt h2 g n b off = some v := by
  unfold loadAt at hr ⊢
  split at hr
  · rename_i cs _ _ _ hg; rw [H _ _ hg]; exact hr
  · cases hr
theorem ld_val {g : Bool} {n : Nat} {x : XO} {v : AV} (hr : runOp (.ld g n x) r a h = .val v h') : h' = h ∧ ∀ h2 : H, (∀ b y, h.get b = some y → h2.get b = some y) → runOp (.ld g n x) r a h2 = .val v h2 := by
  have hr' : rLd g n x a h = .val v h' := hr
  show h' = h ∧ ∀ h2 : H, (∀ b y, h.get b = some y → h2.get b = some y) → rLd g n x a h2 = .val v h2
  unfold rLd at hr' ⊢
  split at hr'
  · rename_i b off hx
    try simp only [hx]
    unfold ofO at hr' ⊢
    split at hr'
    · rename_i u hu
      cases hr'
      exact ⟨rfl, fun h2 H => by rw [loadAt_mono H hu]⟩
    · cases hr'
  · cases hr'
theorem convB_val {x : XO} {v : AV} (hr : runOp (.convB x) r a h = .val v h') : h' = h ∧ ∀ h2 : H, (∀ b y, h.get b = some y → h2.get b = some y) → runOp (.convB x) r a h2 = .val v h2 := by
  have hr' : rConvB x a h = .val v h' := hr
  show h' = h ∧ ∀ h2 : H, (∀ b y, h.get b = some y → h2.get b = some y) → rConvB x a h2 = .val v h2
  unfold rConvB at hr' ⊢
  split at hr'
  · rename_i hx
    try simp only [hx]
    cases hr'
    exact ⟨rfl, fun _ _ => rfl⟩
  · rename_i b off n cap ex hx
    try simp only [hx]
    split at hr'
    · rename_i cs hl
      split at hr'
      · rename_i c hc
        simp only [frc_eq] at hr'
        cases hr'
        exact ⟨rfl, fun h2 H => by rw [loadAt_mono H hl]; simp only [hc, frc_eq]⟩
      · cases hr'
    · cases hr'
  · cases hr'
theorem len_val {k : LK} {x : XO} {v : AV} (hr : runOp (.len k x) r a h = .val v h') : h' = h ∧ ∀ h2 : H, (∀ b y, h.get b = some y → h2.get b = some y) → runOp (.len k x) r a h2 = .val v h2 := by
  have hr' : rLen k x a h = .val v h' := hr
  show h' = h ∧ ∀ h2 : H, (∀ b y, h.get b = some y → h2.get b = some y) → rLen k x a h2 = .val v h2
  unfold rLen at hr' ⊢
  split at hr'
  · rename_i u hx
    try simp only [hx]
    unfold ofO at hr' ⊢
    split at hr'
    · rename_i y hu
      cases hr'
      refine ⟨rfl, fun h2 H => ?_⟩
      have : evLen k u h2 = some v := by
        unfold evLen at hu ⊢
        split at hu <;> try exact hu
        split at hu
        · rename_i es _ hg; simp only [H _ _ hg]; exact hu
        · cases hu
      rw [this]
    · cases hr'
  · cases hr'
theorem look_val' {k : KT} {z : AV} {ok : Bool} {x y : XO} {v : AV} (hr : runOp (.look k z ok x y) r a h = .val v h') : h' = h ∧ ∀ h2 : H, (∀ b y, h.get b = some y → h2.get b = some y) → runOp (.look k z ok x y) r a h2 = .val v h2 := by
  have hr' : rLook k z ok x y a h = .val v h' := hr
  show h' = h ∧ ∀ h2 : H, (∀ b y, h.get b = some y → h2.get b = some y) → rLook k z ok x y a h2 = .val v h2
  unfold rLook at hr' ⊢
  split at hr'
  · rename_i m key hm hk
    try simp only [hm, hk]
    split at hr'
    · rename_i es hp he
      have hes : ∀ h2 : H, (∀ b y, h.get b = some y → h2.get b = some y) → mapEs k m h2 = some es := by
        intro h2 H
        unfold mapEs at he ⊢
        split at he
        · exact he
        · split at he
          · rename_i es' _ hg; simp only [H _ _ hg]; exact he
          · rename_i es' hg; simp only [H _ _ hg]; exact he
          · cases he
        · cases he
      split at hr'
      · rename_i u hf
        cases hr'
        exact ⟨rfl, fun h2 H => by simp only [hp, hes h2 H, hf]⟩
      · rename_i hf
        cases hr'
        exact ⟨rfl, fun h2 H => by simp only [hp, hes h2 H, hf]⟩
      · cases hr'
    · cases hr'
  · cases hr'

/-- what looks at memory -/
theorem look_val (xop : XOp) (hl : xlooks xop = true) {v : AV} (hr : runOp xop r a h = .val v h') : h' = h ∧ ∀ h2 : H, (∀ b y, h.get b = some y → h2.get b = some y) → runOp xop r a h2 = .val v h2 := by
  cases xop with
  | mv z0 => cases hl
  | pick z0 z1 z2 => cases hl
  | new z0 z1 => cases hl
  | box z0 z1 => cases hl
  | build z0 z1 => cases hl
  | buildS z0 z1 z2 z3 => cases hl
  | ld z0 z1 z2 => exact ld_val hr
  | st z0 z1 z2 => cases hl
  | nilc z0 => cases hl
  | bin z0 z1 z2 z3 z4 => cases hl
  | un z0 z1 => cases hl
  | conv z0 z1 => cases hl
  | convS z0 => cases hl
  | convB z0 => exact convB_val hr
  | mkI z0 z1 => cases hl
  | mkF z0 z1 z2 => cases hl
  | mkM  => cases hl
  | mkS z0 z1 z2 z3 z4 z5 => cases hl
  | slStr z0 z1 z2 => cases hl
  | slSl z0 z1 z2 z3 => cases hl
  | slArr z0 z1 z2 z3 z4 => cases hl
  | fa z0 z1 => cases hl
  | fld z0 z1 z2 z3 => cases hl
  | ia z0 z1 z2 => cases hl
  | iaArr z0 z1 z2 z3 => cases hl
  | ixS z0 z1 => cases hl
  | ixA z0 z1 z2 => cases hl
  | look z0 z1 z2 z3 z4 => exact look_val' hr
  | upd z0 z1 z2 z3 => cases hl
  | ins z0 z1 z2 z3 => cases hl
  | ext z0 z1 => cases hl
  | ta z0 z1 z2 z3 => cases hl
  | pan z0 => cases hl
  | len z0 z1 => exact len_val hr
  | lenN z0 => cases hl
  | capS z0 => cases hl
  | app z0 z1 z2 z3 z4 => cases hl
  | appZ z0 z1 z2 z3 z4 z5 => cases hl
  | max z0 z1 => cases hl
  | min z0 z1 => cases hl
  | rngS z0 => cases hl
  | nextS z0 => cases hl
  | call z0 z1 => cases hl
  | callF z0 z1 => cases hl
  | dfr z0 z1 => cases hl
  | bad  => cases hl

/-- what makes memory -/
theorem alloc_val (xop : XOp) (hal : xalloc xop = true) {v : AV} (hr : runOp xop r a h = .val v h') :
    ∃ (mk : Nat → AV) (blk : Blk), v = mk h.next ∧ h' = h.new blk ∧ blk.wr = true ∧ ∀ h2 : H, runOp xop r a h2 = .val (mk h2.next) (h2.new blk) := by
  cases xop with
  | mv z0 => cases hal
  | pick z0 z1 z2 => cases hal
  | new z0 z1 =>
    have hr' : rNew z0 z1 a h = .val v h' := hr
    show ∃ (mk : Nat → AV) (blk : Blk), v = mk h.next ∧ h' = h.new blk ∧ blk.wr = true ∧ ∀ h2 : H, rNew z0 z1 a h2 = .val (mk h2.next) (h2.new blk)
    unfold rNew at hr' ⊢
    refine ⟨fun b => .ptr b 0, ?_⟩
    (repeat' split at hr') <;> first | (cases hr'; done) | (cases hr'; exact ⟨_, rfl, rfl, rfl, fun h2 => by simp_all⟩)
  | box z0 z1 =>
    have hr' : rBox z0 z1 a h = .val v h' := hr
    show ∃ (mk : Nat → AV) (blk : Blk), v = mk h.next ∧ h' = h.new blk ∧ blk.wr = true ∧ ∀ h2 : H, rBox z0 z1 a h2 = .val (mk h2.next) (h2.new blk)
    unfold rBox at hr' ⊢
    refine ⟨fun b => .ptr b 0, ?_⟩
    (repeat' split at hr') <;> first | (cases hr'; done) | (cases hr'; exact ⟨_, rfl, rfl, rfl, fun h2 => by simp_all⟩)
  | build z0 z1 => cases hal
  | buildS z0 z1 z2 z3 =>
    have hr' : rBuildS z0 z1 z2 z3 a h = .val v h' := hr
    show ∃ (mk : Nat → AV) (blk : Blk), v = mk h.next ∧ h' = h.new blk ∧ blk.wr = true ∧ ∀ h2 : H, rBuildS z0 z1 z2 z3 a h2 = .val (mk h2.next) (h2.new blk)
    unfold rBuildS at hr' ⊢
    refine ⟨fun b => .slice b 0 z1 z1 true, ?_⟩
    (repeat' split at hr') <;> first | (cases hr'; done) | (cases hr'; exact ⟨_, rfl, rfl, rfl, fun h2 => by simp_all⟩)
  | ld z0 z1 z2 => cases hal
  | st z0 z1 z2 => cases hal
  | nilc z0 => cases hal
  | bin z0 z1 z2 z3 z4 => cases hal
  | un z0 z1 => cases hal
  | conv z0 z1 => cases hal
  | convS z0 => cases hal
  | convB z0 => cases hal
  | mkI z0 z1 => cases hal
  | mkF z0 z1 z2 => cases hal
  | mkM  =>
    have hr' : rMkM  a h = .val v h' := hr
    show ∃ (mk : Nat → AV) (blk : Blk), v = mk h.next ∧ h' = h.new blk ∧ blk.wr = true ∧ ∀ h2 : H, rMkM  a h2 = .val (mk h2.next) (h2.new blk)
    unfold rMkM at hr' ⊢
    refine ⟨fun b => .map b, ?_⟩
    (repeat' split at hr') <;> first | (cases hr'; done) | (cases hr'; exact ⟨_, rfl, rfl, rfl, fun h2 => by simp_all⟩)
  | mkS z0 z1 z2 z3 z4 z5 => cases hal
  | slStr z0 z1 z2 => cases hal
  | slSl z0 z1 z2 z3 => cases hal
  | slArr z0 z1 z2 z3 z4 => cases hal
  | fa z0 z1 => cases hal
  | fld z0 z1 z2 z3 => cases hal
  | ia z0 z1 z2 => cases hal
  | iaArr z0 z1 z2 z3 => cases hal
  | ixS z0 z1 => cases hal
  | ixA z0 z1 z2 => cases hal
  | look z0 z1 z2 z3 z4 => cases hal
  | upd z0 z1 z2 z3 => cases hal
  | ins z0 z1 z2 z3 => cases hal
  | ext z0 z1 => cases hal
  | ta z0 z1 z2 z3 => cases hal
  | pan z0 => cases hal
  | len z0 z1 => cases hal
  | lenN z0 => cases hal
  | capS z0 => cases hal
  | app z0 z1 z2 z3 z4 => cases hal
  | appZ z0 z1 z2 z3 z4 z5 => cases hal
  | max z0 z1 => cases hal
  | min z0 z1 => cases hal
  | rngS z0 => cases hal
  | nextS z0 => cases hal
  | call z0 z1 => cases hal
  | callF z0 z1 => cases hal
  | dfr z0 z1 => cases hal
  | bad  => cases hal

end
end Go.Ev
