/- Operations that look and compute only: what the evaluator gets is what the model gets. -/
import Derived.Test.YtbflihggpacblaaGreatDoorEvMem
set_option linter.unusedVariables false
set_option linter.unusedSimpArgs false
namespace Go.Ev
set_option linter.unusedSectionVars false
variable [Sig]

def DefOk (E : Env) : ADef → Deferred → Prop
  | .call g args, d => ∃ cap : Array Value, d.target = .fn (.func g) cap ∧ cvL E args = some (d.args.toList ++ cap.toList)
  | .mark r, d => ∃ e, E r = some e ∧ d = { target := .collected e.rb, args := #[] }
def DefsOk (E : Env) : List ADef → List Deferred → Prop
  | [], [] => True
  | d :: ds, x :: xs => DefOk E d x ∧ DefsOk E ds xs
  | _, _ => False
theorem DefOk.up {E E' : Env} (hE : ∀ b e, E b = some e → E' b = some e) : ∀ {d : ADef} {x : Deferred}, DefOk E d x → DefOk E' d x
  | .call g args, x, ⟨cap, h1, h2⟩ => ⟨cap, h1, cvL_up hE _ _ h2⟩
  | .mark r, x, ⟨e, h1, h2⟩ => ⟨e, hE _ _ h1, h2⟩
theorem DefsOk.up {E E' : Env} (hE : ∀ b e, E b = some e → E' b = some e) : ∀ {ds : List ADef} {xs : List Deferred}, DefsOk E ds xs → DefsOk E' ds xs
  | [], [], _ => trivial
  | d :: ds, x :: xs, ⟨h1, h2⟩ => ⟨h1.up hE, h2.up hE⟩
  | [], _ :: _, h => h.elim
  | _ :: _, [], h => h.elim

structure ASim (E : Env) (n vm : Nat) (a : A) (x : Act) : Prop where
  size : x.tmps.size = n
  vars : VarsOk E vm a.vars x.tmps
  log : ∀ (t : Nat) (v : AV), bit vm t = false → findLog t a.log = some v → ∃ u, cv E v = some u ∧ x.tmps[t]? = some u
  defers : DefsOk E a.defers x.defers

theorem ASim.up {E E' : Env} (hE : ∀ b e, E b = some e → E' b = some e) {n vm : Nat} {a : A} {x : Act} (h : ASim E n vm a x) : ASim E' n vm a x :=
  ⟨h.size, h.vars.up hE, (fun t v hb hv => let ⟨u, hu, ht⟩ := h.log t v hb hv; ⟨u, cv_up hE v u hu, ht⟩), h.defers.up hE⟩
theorem ASim.fresh {E : Env} {n vm : Nat} {a : A} {x : Act} (h : ASim E n vm a x) : ASim E n vm ⟨a.vars, [], a.defers⟩ x :=
  ⟨h.size, h.vars, (fun t v _ hv => by rw [findLog_nil] at hv; cases hv), h.defers⟩

section
variable {P : Program} {W0 : World} {E : Env} {h : H} {w : World} {n vm : Nat} {a : A} {x : Act}

/-- a result is put away -/
theorem put_sound (hA : ASim E n vm a x) {d : Option Tmp} {xd : XD} (hd : cDst n vm d = some xd) {v : AV} {u : Value} (hu : cv E v = some u) :
    ASim E n vm (putX xd v a) (x.put d u) := by
  unfold cDst at hd
  cases d with
  | none => cases hd; exact hA
  | some t =>
    simp only at hd
    split at hd
    · rename_i hlt
      have ht : t < n := Nat.le_of_ble_eq_true hlt
      have hts : t < x.tmps.size := by rw [hA.size]; exact ht
      split at hd
      · rename_i hbit
        cases hd
        refine ⟨by simpa [Act.put] using hA.size, ?_, ?_, hA.defers⟩
        · intro s y hs hy
          have hy' : (a.vars.put t v).get s = some y := hy
          rw [Tr.get_put] at hy'
          split at hy'
          · rename_i he; subst he; cases hy'; exact ⟨u, hu, by simp [Act.put, hts]⟩
          · rename_i hne
            obtain ⟨z, hz, hz'⟩ := hA.vars s y hs hy'
            exact ⟨z, hz, by simp only [Act.put]; rw [Array.getElem?_setIfInBounds_ne (by omega)]; exact hz'⟩
        · intro s y hs hy
          obtain ⟨z, hz, hz'⟩ := hA.log s y hs hy
          have hne : t ≠ s := fun he => by subst he; rw [hbit] at hs; cases hs
          exact ⟨z, hz, by simp only [Act.put]; rw [Array.getElem?_setIfInBounds_ne hne]; exact hz'⟩
      · rename_i hbit
        cases hd
        refine ⟨by simpa [Act.put] using hA.size, ?_, ?_, hA.defers⟩
        · intro s y hs hy
          obtain ⟨z, hz, hz'⟩ := hA.vars s y hs hy
          have hne : t ≠ s := fun he => by subst he; rw [hbit] at hs; cases hs
          exact ⟨z, hz, by simp only [Act.put]; rw [Array.getElem?_setIfInBounds_ne hne]; exact hz'⟩
        · intro s y hs hy
          have hy' : findLog s ((t, v) :: a.log) = some y := hy
          rw [findLog_cons] at hy'
          split at hy'
          · rename_i he; subst he; cases hy'; exact ⟨u, hu, by simp [Act.put, hts]⟩
          · rename_i hne
            obtain ⟨z, hz, hz'⟩ := hA.log s y hs hy'
            exact ⟨z, hz, by simp only [Act.put]; rw [Array.getElem?_setIfInBounds_ne (by omega)]; exact hz'⟩
    · cases hd

/-- an operand -/
theorem opr_sound (S : HSim P W0 E h w) (hA : ASim E n vm a x) {o : Operand} {xo : XO} (hc : cO vm o = some xo) {v : AV} (hg : getX xo a = some v) : cv E v = some (x.eval o) := by
  cases o with
  | tmp t =>
    simp only [cO] at hc
    split at hc
    · rename_i hb
      cases hc
      obtain ⟨u, hu, ht⟩ := hA.vars t v hb hg
      simp [Act.eval, ht, hu]
    · rename_i hb
      cases hc
      obtain ⟨u, hu, ht⟩ := hA.log t v hb hg
      simp [Act.eval, ht, hu]
  | const c =>
    simp only [cO] at hc
    split at hc
    · rename_i b hb
      cases hc
      have : some b = some v := hg
      cases this
      exact absV_cv hb
    · cases hc
  | global g =>
    simp only [cO] at hc
    split at hc
    · rename_i hlt
      cases hc
      have : some (AV.ptr g 0) = some v := hg
      cases this
      have := S.glob g (Nat.le_of_ble_eq_true hlt)
      simp [cv, this, Act.eval]
    · cases hc
  | func f =>
    simp only [cO, Option.some.injEq] at hc
    subst hc
    have : some (AV.func (.func f) [] []) = some v := hg
    cases this
    simp [cv, cvL, Act.eval]

theorem oprs_sound (S : HSim P W0 E h w) (hA : ASim E n vm a x) : ∀ {os : List Operand} {xs : List XO} {vs : List AV}, cOs vm os = some xs → getXs a xs = some vs → cvL E vs = some (os.map x.eval)
  | [], xs, vs, hc, hg => by
    simp only [cOs, Option.some.injEq] at hc; subst hc
    simp only [getXs, Option.some.injEq] at hg; subst hg
    simp [cvL]
  | o :: os, xs, vs, hc, hg => by
    simp only [cOs] at hc
    split at hc
    · rename_i b l hb hl
      cases hc
      simp only [getXs] at hg
      split at hg
      · rename_i v m hv hm
        cases hg
        simp [cvL, opr_sound S hA hb hv, oprs_sound S hA hl hm]
      · cases hg
    · cases hc

/-! the shapes of values -/
theorem cv_bool {b : Bool} {u : Value} (hu : cv E (.bool b) = some u) : u = .bool b := by simp only [cv, Option.some.injEq] at hu; exact hu.symm
theorem cv_int {k : IntKind} {m : Int} {u : Value} (hu : cv E (.int k m) = some u) (hs : symB m = false := by rfl) : u = .int k m := by simp only [cv, Option.some.injEq, dec_of hs] at hu; exact hu.symm
theorem cv_sym {k : IntKind} {m : Int} {u : Value} (hu : cv E (.int k m) = some u) : u = .int k (dec m) := by simp only [cv, Option.some.injEq] at hu; exact hu.symm
theorem cv_mk {k : IntKind} {m : Int} (hs : symB m = false := by rfl) : cv E (.int k m) = some (.int k m) := by simp only [cv, dec_of hs]
theorem cv_str {l c : Nat} {u : Value} (hu : cv E (.str l c) = some u) : u = .string (strB l c) := by simp only [cv, Option.some.injEq] at hu; exact hu.symm
theorem cv_ptr {b off : Nat} {u : Value} (hu : cv E (.ptr b off) = some u) : ∃ e, E b = some e ∧ u = .pointer (some ⟨e.rb, e.ro + off, none⟩) := by
  simp only [cv] at hu
  split at hu
  · rename_i e he; cases hu; exact ⟨e, he, rfl⟩
  · cases hu
theorem cv_slice {b off len cap : Nat} {ex : Bool} {u : Value} (hu : cv E (.slice b off len cap ex) = some u) :
    ∃ e, E b = some e ∧ u = .slice (some ⟨e.rb, e.ro + off, none⟩) len (if ex then cap else cap + e.ex) := by
  simp only [cv] at hu
  split at hu
  · rename_i e he; cases hu; exact ⟨e, he, rfl⟩
  · cases hu
theorem cv_map {b : Nat} {u : Value} (hu : cv E (.map b) = some u) : ∃ e, E b = some e ∧ u = .map (some e.rb) := by
  simp only [cv] at hu
  split at hu
  · rename_i e he; cases hu; exact ⟨e, he, rfl⟩
  · cases hu
theorem cv_iface {t : Nat} {v : AV} {u : Value} (hu : cv E (.iface t v) = some u) : ∃ y, cv E v = some y ∧ u = .iface t y := by
  simp only [cv] at hu
  split at hu
  · rename_i y hy; cases hu; exact ⟨y, hy, rfl⟩
  · cases hu
theorem cv_agg {cs : List AV} {u : Value} (hu : cv E (.agg cs) = some u) : ∃ l, cvC E cs = some l ∧ u = .agg l.toArray := by
  simp only [cv] at hu
  split at hu
  · rename_i l hl; cases hu; exact ⟨l, hl, rfl⟩
  · cases hu
theorem cv_tuple {vs : List AV} {u : Value} (hu : cv E (.tuple vs) = some u) : ∃ l, cvL E vs = some l ∧ u = .tuple l.toArray := by
  simp only [cv] at hu
  split at hu
  · rename_i l hl; cases hu; exact ⟨l, hl, rfl⟩
  · cases hu
theorem cv_func {f : FuncId} {fs cs : List AV} {u : Value} (hu : cv E (.func (.func f) fs cs) = some u) : ∃ l m, cvL E fs = some l ∧ cvL E cs = some m ∧ u = .func (.func f) l.toArray m.toArray := by
  simp only [cv] at hu
  split at hu
  · rename_i g l m hf hl hm; cases hu; cases hf; exact ⟨l, m, hl, hm, rfl⟩
  · cases hu

/-! types -/
theorem szT_info {t m : Nat} (hs : szT P t = some m) : ∃ i, P.info? t = some i ∧ i.size = m := by
  unfold szT at hs
  cases hi : P.info? t with
  | none => rw [hi] at hs; cases hs
  | some i => rw [hi] at hs; cases hs; exact ⟨i, rfl, rfl⟩
theorem szT_run {t m : Nat} (hs : szT P t = some m) : (sizeOf t).run P w = .ok m w := by
  obtain ⟨i, hi, hm⟩ := szT_info hs
  simp [sizeOf, typeInfo, hi, hm]
theorem aggT_run {t : Nat} {g : Bool} (ha : aggT P t = some g) : (isAgg t).run P w = .ok g w := by
  unfold aggT at ha
  unfold isAgg
  split at ha
  · rename_i fs hu; cases ha; simp [run_underlying hu]
  · rename_i p q hu; cases ha; simp [run_underlying hu]
  · rename_i d hn1 hn2 hu
    cases ha
    simp only [run_underlying hu, Sem.run_bind, Result.andThen_ok]
    rfl
  · cases ha
theorem zeroT_run {t : Nat} {z : AV} (hz : zeroT P t = some z) : ∃ u, cv E z = some u ∧ (zeroValue t).run P w = .ok u w := by
  unfold zeroT at hz
  split at hz
  · rename_i i hi
    split at hz
    · rename_i v hv
      refine ⟨v, absV_cv hz, ?_⟩
      simp [zeroValue, typeInfo, hi, hv]
    · cases hz
  · cases hz
theorem fieldT_under {s f o ft : Nat} (hf : fieldT P s f = some (o, ft)) : ∃ fs : Array Field, ∃ fd, P.underlying s = some (.struct fs) ∧ fs[f]? = some fd ∧ fd.offset = o ∧ fd.type = ft := by
  unfold fieldT at hf
  split at hf
  · rename_i fs hu
    split at hf
    · rename_i fd hfd
      simp only [Option.some.injEq, Prod.mk.injEq] at hf
      exact ⟨fs, fd, hu, by simpa using hfd, hf.1, hf.2⟩
    · cases hf
  · cases hf

/-- a part of an aggregate -/
noncomputable def partA (g : Bool) (m off : Nat) (cs : List AV) : Option AV := match g with
  | true => (match dropL off cs with | some r => (match takeL m r with | some r' => some (AV.agg r') | none => none) | none => none)
  | false => nthV cs off
theorem part_sound {cs : List AV} {l : List Value} (hl : cvC E cs = some l) {t m off : Nat} {g : Bool} (ha : aggT P t = some g) (hs : szT P t = some m) {v : AV}
    (hv : partA g m off cs = some v) : ∃ u, cv E v = some u ∧ (part t l.toArray off).run P w = .ok u w := by
  have hcells : CellsAt E l.toArray 0 cs := fun i y hy => by
    obtain ⟨h1, u, hu, hu'⟩ := cvC_get hl i y hy
    exact ⟨h1, u, hu, by simpa using hu'⟩
  cases g with
  | true =>
    simp only [partA] at hv
    split at hv
    · rename_i r hr
      split at hv
      · rename_i r' hr'
        cases hv
        obtain ⟨vs, hvs, hlen, hj⟩ := hcells.part hr hr'
        refine ⟨.agg vs.toArray, by simp [cv, hvs], ?_⟩
        obtain ⟨hd1, rfl⟩ := dropL_some _ _ _ hr
        obtain ⟨ht1, rfl⟩ := takeL_some _ _ _ hr'
        have hll := cvC_length hl
        have hext : l.toArray.extract off (off + m) = vs.toArray := by
          apply Array.ext
          · simp [hlen]; simp at ht1; omega
          · intro i h1 h2
            have hi : i < m := by simp at h2; omega
            have := hj i vs[i] (by simp)
            simp only [Nat.zero_add, List.getElem?_toArray] at this
            rw [List.getElem?_eq_some_iff] at this
            obtain ⟨hlt, hget⟩ := this
            simp [← hget]
        simp only [part, aggT_run ha, szT_run hs, Sem.run_bind, Result.andThen_ok, if_true, hext]
        rfl
      · cases hv
    · cases hv
  | false =>
    simp only [partA] at hv
    rw [nthV_eq] at hv
    obtain ⟨-, u, hu, hu'⟩ := hcells off v hv
    refine ⟨u, hu, ?_⟩
    simp only [Nat.zero_add] at hu'
    simp [part, aggT_run ha, hu']

end
end Go.Ev
