/- A laid array of integers as a table; the row's last step. -/
import Derived.Test.YtbflihggpacblaaGreatDoorEvOr
import Derived.OpenShut
import Derived.ChangeSame
import Derived.FnData
set_option linter.unusedVariables false
set_option linter.unusedSimpArgs false
namespace Go.Ev
open Go.RowKit Go.WideShapes Go.ChangeShapes
set_option linter.unusedSectionVars false
variable [Sig]

theorem tab_of_var {H : Type} {enc : TypeId × Value → H} {P : Program} {W : World} {name : String} {g t et n base fuel : Nat} {spare : Nat → Bool} {held : Bool} {k : IntKind} {cs : Array Value} {p : List MemPlace} {ks : List Int} (hks : (ks.all fun z => !symB z) = true) (hg : P.globalNamed name = some g) (hg64 : g < 64)
    (hv : W.var? P name = some cs) (ht : P.underlying t = some (.array n et)) (he : P.underlying et = some (.int k)) (hc : P.cellsOf et = 1)
    (hd : DataW.trod enc P W base spare held fuel t cs.toList = some (.agg (ks.map fun m => .lit (.int k m)), p)) : TabOk W { g := g, cs := ks.map fun m => .int k m } := by
  obtain ⟨xs, m, -, hx, -, hn, hel⟩ := DataW.trod_array ht hd
  simp only [Prod.mk.injEq, DataW.agg.injEq] at hx
  obtain ⟨hx, -⟩ := hx
  have hlen : ks.length = n := by rw [← hn]; have := congrArg List.length hx; simpa using this
  refine ⟨hg64, ?_⟩
  simp only [World.var?, hg, Option.bind_some] at hv
  split at hv
  · rename_i C el fz hC
    simp only [Option.some.injEq] at hv
    subst hv
    have key : ∀ i, i < n → ∃ z, ks[i]? = some z ∧ C[i]? = some (.int k z) := by
      intro i hi
      have h1 := hel i hi
      have hxi : ∃ x, xs[i]? = some x := ⟨xs[i]'(by omega), List.getElem?_eq_getElem (by omega)⟩
      obtain ⟨x, hxi⟩ := hxi
      rw [hxi, hc] at h1
      obtain ⟨z, e1, e2, -⟩ := DataW.trod_int he h1
      have h2 : (xs.map (·.1))[i]? = some (.lit (.int k z)) := by rw [List.getElem?_map, hxi, e2]; rfl
      rw [← hx, List.getElem?_map] at h2
      cases hk : ks[i]? with
      | none => rw [hk] at h2; cases h2
      | some z' =>
        rw [hk] at h2
        simp only [Option.map_some, Option.some.injEq, DataW.lit.injEq, Lit.int.injEq, true_and] at h2
        subst h2
        refine ⟨z', rfl, ?_⟩
        have h3 : ((C.toList.drop (i * 1)).take 1)[0]? = some (.int k z') := by rw [e1]; rfl
        simpa [List.getElem?_take, List.getElem?_drop] using h3
    refine ⟨C, el, fz, hC, ?_, ?_, fun _ h => by cases h⟩
    · simp only [List.length_map, hlen]
      rcases Nat.lt_or_ge C.size n with h1 | h1
      · obtain ⟨z, -, h2⟩ := key C.size h1
        rw [Array.getElem?_eq_none (Nat.le_refl _)] at h2
        cases h2
      · exact h1
    · intro i v hv
      rw [List.getElem?_map] at hv
      cases hk : ks[i]? with
      | none => rw [hk] at hv; cases hv
      | some z =>
        rw [hk] at hv
        simp only [Option.map_some, Option.some.injEq] at hv
        subst hv
        have hi : i < n := by rw [← hlen]; exact (List.getElem?_eq_some_iff.1 hk).1
        obtain ⟨z', h1, h2⟩ := key i hi
        rw [hk] at h1; cases h1
        have hz : symB z = false := by simpa using List.all_eq_true.1 hks z (List.mem_of_getElem? hk)
        exact ⟨rfl, .int k z, cv_mk hz, h2⟩
  · cases hv

omit [Sig] in
theorem Keeps.frame {W W' : World} (h : Keeps W W') (may : MemPlace → Prop) : W.keptBut W' may := by
  refine ⟨h.os, h.out, fun i hi => ?_⟩
  rw [h.block i hi]
  cases ho : W.heap[i]? with
  | none => rfl
  | some o => cases o <;> simp

theorem args_nil {E : Env} : cvL E [] = some [] := by simp [cvL]
theorem args_cons {E : Env} {x : AV} {v : Value} {xs : List AV} {vs : List Value} (h : absC v = some x) (hs : cvL E xs = some vs) : cvL E (x :: xs) = some (v :: vs) := by
  simp only [cvL, (absC_cv (E := E) h).2, hs]
/-- a closed call of these values yields true -/
theorem run_true {P : Program} {w : World} (hP : ProgOk P) {O : Orc} (hO : OrcOk P w O) {l : List Tab} (ht : TabsOk w l) {f : FuncId} {us : List Value} {args : List AV} {n : Nat}
    (hu : cvL E00 args = some us) (hr : isV (.bool true) ((fns P O n).call f args (hInit l)) = true) : Calls P f us.toArray w (fun e w' => e = .returned (.bool true) ∧ Keeps w w') :=
  run_val hP hO ht hr hu (by simp [cv])

section
variable {H : Type} {enc : TypeId × Value → H} {P : Program}
omit [Sig] in
theorem post_of_keeps {f : Func} {s : ChangeSpec} {apart fresh handsOn again : Bool} {W W' : World} {args : Array Value} {v : Value} {ds gs : List (DataW H)} {before pa pv : List MemPlace}
    (hW : DataW.Whole enc P f.params.toList s.vars apart W args.toList ds gs before)
    (hres : ∀ (b : Nat) (sp : Nat → Bool) (hd : Bool), DataW.TrodAll enc P W' b sp hd f.resultTypes.toList (v.resultList f.resultTypes.size) (s.fn H (ds ++ gs)).results [])
    (hargs : ∀ sp : Nat → Bool, (∀ p ∈ before, sp p.block = true) → DataW.TrodAll enc P W' 0 sp true f.params.toList args.toList (s.fn H (ds ++ gs)).args pa)
    (hvars : ∀ sp : Nat → Bool, (∀ p ∈ before, sp p.block = true) → DataW.TrodVars enc P W' sp s.vars (s.fn H (ds ++ gs)).vars pv)
    (hps : before = pa ++ pv) (hb : Keeps W W')
    (hok : ∀ (j : Nat) (t : TypeId) (r : Value), f.resultTypes[j]? = some t → (v.resultList f.resultTypes.size)[j]? = some r → Value.okWide P W' .any 0 t r) :
    s.post enc P f apart fresh handsOn again W args v W' := by
  have hlt : ∀ p ∈ before, p.block < W.heap.size := fun p hp => hW.lt p hp
  have hold : ∀ p ∈ before, (fun b => decide (b < W.heap.size)) p.block = true := fun p hp => by simpa using hlt p hp
  refine ⟨ds, gs, before, [], pa, pv, hW, hres _ _ _, hargs _ hold, hvars _ hold, World.keptBut_mono (fun p hp => ⟨hp, ?_⟩) (hb.frame (· ∈ before)), fun _ => ?_⟩
  · rw [hps, List.mem_append] at hp
    exact Or.inr hp
  · obtain ⟨_, _, _, _, _, hz, hn⟩ := hW
    refine ⟨hok, _, _, ([] ++ pa) ++ pv, ⟨[] ++ pa, pv, trodAll_append (hargs _ (fun _ _ => rfl)) (hres _ _ _), hvars _ (fun _ _ => rfl), rfl, ?_, ?_⟩, ?_⟩
    · intro b off hp
      have hin : MemPlace.cell b off ∈ before := by rw [hps]; simpa using hp
      have hbk := hb.block b (hlt _ hin)
      have h2 := hz b off hin
      simp only [World.frozen?] at h2 ⊢
      rw [hbk]; exact h2
    · intro ha
      have := hn ha
      rw [hps] at this
      simpa using this
    · intro p hp _
      rw [hps]
      simpa using hp
end
end Go.Ev
