/- The law holds for every input: the row, and its card. The walk is in the text before; here it is lifted to the row (the witness lies in a world that bears the listed variables), and the card is closed by the tie. No condition beyond the row's own. -/
import Derived.Test.YtjnfkhhjfjepoaaGreatDoorCoverTargetsWalk
import Derived.Test.YtjnfkhhjfjepoaaGreatDoorTie
import Derived.Test.YtjnfkhhjfjepoaaGreatDoorCards
import Derived.WalkKit
import Derived.ProofKit
import Derived.OpenShut
import Derived.LaidHandle
import Derived.LaidMore
import Derived.Lay
import Derived.Stop.Joined
import Derived.SevenTiedAt
namespace Go.Proofs.YtjnfkhhjfjepoaaGreatDoor
open Go Go.Ev Go.ChangeShapes Go.WideShapes Go.ChangeAt Go.RowKit
set_option linter.unusedVariables false

theorem own : ownKnob Tryz.prog.godebug = none := by kernel_rfl
abbrev plainLaid : List (String × DataW Unit) := Rows.coverTargetsRow.laid.filter fun x => x.2.handleName?.isNone
noncomputable def wit0 (os : Os) : World :=
  let w0 := World.holding Tryz.prog os ⟨#[], #[], []⟩
  { w0 with heap := w0.heap.modify 0 fun
      | .cells _ t frozen => .cells #[.iface 151 (.agg #[.pointer (some ⟨7, 78, none⟩)])] t frozen
      | o => o }
noncomputable def wit (os : Os) : World := (wit0 os).layVars Tryz.prog plainLaid
theorem wit_fits (os : Os) : (wit0 os).layFits Tryz.prog plainLaid [] = true := by kernel_rfl
theorem wit_ifaces (os : Os) : (wit0 os).layIfaces Tryz.prog plainLaid (wit os) = true := by kernel_rfl
theorem wit_met (os : Os) (args : Array Value) : laidMetH Tryz.prog Rows.coverTargetsRow.laid ((wit os).forCall (fun _ _ => 0) ⟨#[], args, []⟩).memory := by
  refine laidMetH_of_parts ?_ ?_
  · have e1 : (plainLaid.filter fun x => (plainLaid.map (·.1)).contains x.1) = plainLaid := List.filter_eq_self.2 fun x hx => List.contains_iff_mem.2 (List.mem_map.2 ⟨x, hx, rfl⟩)
    have e2 : (plainLaid.filter fun x => !(plainLaid.map (·.1)).contains x.1) = [] := List.filter_eq_nil_iff.2 fun x hx => by rw [List.contains_iff_mem.2 (List.mem_map.2 ⟨x, hx, rfl⟩)]; simp
    have h : laidMet Tryz.prog plainLaid (wit os) := laidMet_layVars (w0 := wit0 os) (plainLaid.map (·.1)) [] (by rw [e1]; rfl) (by rw [e1]; exact wit_fits os) (by rw [e1]; exact wit_ifaces os) (by rw [e2]; exact LaidIn.none)
    exact h.of_heap (by simp [World.memory, World.forCall, Input.heap])
  · kernel_rfl
theorem wit_os (os : Os) : (wit os).os = os := (World.layVars_os _ _ _).trans rfl
theorem wit_zip (os : Os) : ((wit os).forCall (fun _ _ => 0) ⟨#[], #[.int .i64 0, .int .i64 0], []⟩).Shaped Tryz.prog := World.shaped_of_ZipB (by kernel_rfl) (by kernel_rfl)

set_option maxRecDepth 100000 in
theorem lifted (os : Os) (started : os.Started) (H : Type) (enc : TypeId × Value → H) :
    ReturnsInHanded {} Tryz.checked os 3 .any (fun w args => (Rows.coverTargetsSpec.pre enc Tryz.prog Tryz.f3 Rows.coverTargetsRow.domain false w args ∧ laidMetH Tryz.prog Rows.coverTargetsRow.laid w) ∧ sizedMet enc Tryz.prog Tryz.f3 (OpenSpec.ofChange Rows.coverTargetsSpec) false w args)
      (Rows.coverTargetsSpec.post enc Tryz.prog Tryz.f3 false true false false) := by
  refine returnsInHanded_of_change_and (C := Tryz.checked) (X := fun w _ => laidMetH Tryz.prog Rows.coverTargetsRow.laid w) (fun _ _ _ hh h => h.of_heap hh) own started (by kernel_rfl) Tryz.func3
    (ChangeSpec.witness_shaped (enc := enc) (C := Tryz.checked) (os := os) (X := fun w _ => laidMetH Tryz.prog Rows.coverTargetsRow.laid w) false (wit os) #[.int .i64 0, .int .i64 0] 8 (wit_os os) (wit_zip os) (by kernel_rfl) (by kernel_rfl) (by kernel_rfl) (wit_met os _)) ?_
  intro W base args ds gs before hval0 hW _ _ hL _
  have hval : ∀ (j : Nat) t v, Tryz.f3.params[j]? = some t → args[j]? = some v → Value.okWide Tryz.prog W .any base t v := hval0
  have hW' := hW
  obtain ⟨p, q, hA0, hV, rfl, hfz, hnd⟩ := hW
  have hA : DataW.TrodAll enc Tryz.prog W 0 (fun _ => true) true Tryz.f3.params.toList args.toList ds p := hA0
  rw [Tryz.params3] at hA hval
  obtain ⟨v0, vs0, d0, ds0, p0, q0, hargs, rfl, rfl, h0, r0⟩ := trodAll_cons hA
  obtain ⟨v1, vs1, d1, ds1, p1, q1, rfl, rfl, rfl, h1, r1⟩ := trodAll_cons r0
  obtain ⟨rfl, rfl, rfl⟩ := trodAll_nil r1
  obtain rfl : args = #[v0, v1] := by cases args; simp_all
  obtain ⟨rfl, rfl⟩ := trodVars_none hV
  obtain ⟨a0, rfl, rfl, rfl, w0⟩ := open_int Tryz.underlying3 (hval 0 3 v0 rfl rfl) h0
  obtain ⟨a1, rfl, rfl, rfl, w1⟩ := open_int Tryz.underlying3 (hval 1 3 v1 rfl rfl) h1

  clear hA0 hval0
  simp only [List.append_nil] at hW'
  refine (walkCoverTargets a0 a1 W hL).mono fun e W' ⟨he, hg⟩ => ?_
  subst he
  exact ⟨_, rfl, post_of_keeps (pa := []) (pv := []) hW' (fun _ _ _ => (trodAll_cons_mk (shut_bool Tryz.underlying4 _) trodAll_mk0)) (fun sp _ => (trodAll_cons_mk (shut_int Tryz.underlying3 w0) (trodAll_cons_mk (shut_int Tryz.underlying3 w1) (trodAll_mk0)))) (fun _ _ => rfl) rfl
    hg (ok_one (by kernel_rfl) rfl (okWide_bool_mk Tryz.underlying4 _))⟩

theorem and_both {a b : Bool} (ha : a = true) (hb : b = true) : (a && b) = true := by rw [ha, hb]; rfl
theorem fact0 : (Rows.coverTargetsRow.wf (OpenSpec.ofChange Rows.coverTargetsSpec)) = true := by kernel_rfl
theorem fact1 : (laidOutB Tryz.prog) = true := by kernel_rfl
theorem fact2 : (mapsRowed Tryz.prog) = true := by kernel_rfl
theorem fact3 : (Tryz.f3.params.all (Tryz.prog.readableRec ·)) = true := by kernel_rfl
theorem fact4 : (namedTie Tryz.prog Rows.coverTargetsRow.named Rows.coverTargetsSpec.vars) = true := by kernel_rfl
theorem fact5 : ((Rows.coverTargetsRow.stops == [])) = true := by kernel_rfl
theorem fact6 : ((Tryz.prog.stops == [])) = true := by kernel_rfl
theorem fact7 : ((Rows.coverTargetsRow.knobs == [])) = true := by kernel_rfl
theorem fact8 : ((Tryz.prog.stopKnobs == [])) = true := by kernel_rfl
theorem fact9 : ((Rows.coverTargetsRow.inPlace == Tryz.prog.inPlace 3)) = true := by kernel_rfl
theorem fact10 : ((Rows.coverTargetsRow.unfollowed == Tryz.prog.unfollowed 3)) = true := by kernel_rfl
theorem fact11 : ((Rows.coverTargetsRow.recurses == Tryz.prog.recurses 3)) = true := by kernel_rfl
theorem fact12 : ((Rows.coverTargetsRow.named == Tryz.prog.varsNamed 3)) = true := by kernel_rfl
theorem fact13 : ((Rows.coverTargetsRow.maps == (Tryz.f3.params.toList ++ Rows.coverTargetsSpec.plain.varTypes Tryz.prog).any (Tryz.prog.mapsRec ·))) = true := by kernel_rfl
theorem fact14 : ((Rows.coverTargetsRow.ifaces == (Tryz.f3.params.toList ++ Rows.coverTargetsSpec.plain.varTypes Tryz.prog).any (Tryz.prog.ifacesRec ·))) = true := by kernel_rfl
theorem fact15 : ((Rows.coverTargetsRow.mapsOut == Tryz.prog.mapsAmong Tryz.f3.resultTypes.toList)) = true := by kernel_rfl
theorem fact16 : ((Rows.coverTargetsRow.loops == (Tryz.f3.params.toList ++ Rows.coverTargetsSpec.plain.varTypes Tryz.prog).any (Tryz.prog.loopsFrom ·))) = true := by kernel_rfl
theorem fact17 : ((Rows.coverTargetsRow.wideKeys == (Tryz.f3.params.toList ++ Rows.coverTargetsSpec.plain.varTypes Tryz.prog ++ Tryz.f3.resultTypes.toList).any (Tryz.prog.wideKeysFrom ·))) = true := by kernel_rfl
theorem fact18 : (Rows.coverTargetsSpec.vars.all (Tryz.prog.varReadable ·)) = true := by kernel_rfl
theorem fact19 : (Tryz.f3.resultTypes.all (fun t => Tryz.prog.readableRec t && decide (t < Tryz.prog.types.size))) = true := by kernel_rfl
theorem fact20 : ((Rows.coverTargetsRow.ifacesOut == Tryz.f3.resultTypes.toList.any (Tryz.prog.ifacesRec ·))) = true := by kernel_rfl
theorem fact21 : ((Rows.coverTargetsRow.loopsOut == Tryz.f3.resultTypes.toList.any (Tryz.prog.loopsFrom ·))) = true := by kernel_rfl
theorem fact22 : ((Rows.coverTargetsRow.plainKeys == Tryz.prog.plainKeys)) = true := by kernel_rfl
theorem fact23 : (Rows.coverTargetsRow.shortTexts.isNone) = true := by kernel_rfl
theorem fact24 : (Tryz.prog.stopsHeard) = true := by kernel_rfl
theorem fact25 : (Tryz.prog.mayEnter) = true := by kernel_rfl
theorem fact26 : ((Rows.coverTargetsRow.lifted == Tryz.prog.liftsFinal)) = true := by kernel_rfl
theorem fact27 : ((Tryz.prog.make == some Rows.coverTargetsRow.make)) = true := by kernel_rfl
theorem fact28 : ((Rows.coverTargetsRow.kinds == (if Rows.coverTargetsRow.domain.isEmpty then [] else Tryz.f3.params.toList.map fun t => match Tryz.prog.underlying t with | some (.int k) => some k | _ => none))) = true := by kernel_rfl
theorem fact29 : ((Rows.coverTargetsRow.pinned == Rows.coverTargetsRow.pinnedBy)) = true := by kernel_rfl
theorem fact30 : ((Rows.coverTargetsRow.veiled == (Tryz.f3.params.toList ++ Rows.coverTargetsSpec.plain.varTypes Tryz.prog ++ Tryz.f3.resultTypes.toList).any (Tryz.prog.veiledRec ·))) = true := by kernel_rfl
theorem fact31 : (Rows.coverTargetsRow.veiledFits Tryz.prog Tryz.f3.params.toList (Tryz.f3.params.toList ++ Rows.coverTargetsSpec.plain.varTypes Tryz.prog ++ Tryz.f3.resultTypes.toList)) = true := by kernel_rfl
set_option maxRecDepth 100000 in
theorem facts : joinedFacts Tryz.prog 3 Tryz.f3 Rows.coverTargetsSpec Rows.coverTargetsRow = true := by
  unfold joinedFacts
  exact and_both (and_both (and_both (and_both (and_both (and_both (and_both (and_both (and_both (and_both (and_both (and_both (and_both (and_both (and_both (and_both (and_both (and_both (and_both (and_both (and_both (and_both (and_both (and_both (and_both (and_both (and_both (and_both (and_both (and_both (and_both (fact0) fact1) fact2) fact3) fact4) fact5) fact6) fact7) fact8) fact9) fact10) fact11) fact12) fact13) fact14) fact15) fact16) fact17) fact18) fact19) fact20) fact21) fact22) fact23) fact24) fact25) fact26) fact27) fact28) fact29) fact30) fact31
theorem is_func : Tryz.pinned.checked.prog.funcNamed Rows.coverTargetsRow.func = some 3 := by kernel_rfl
theorem is_inst : Tryz.f3.isInstance Tryz.pinned.checked.prog Rows.coverTargetsRow.origin Rows.coverTargetsRow.targs := of_decide_eq_true (by kernel_rfl)
theorem is_wrap : Tryz.f3.isWrapper Tryz.pinned.checked.prog Rows.coverTargetsRow.wrapper Rows.coverTargetsRow.mainSum := by
  unfold Func.isWrapper; first | (rw [if_pos (by decide +kernel)]; kernel_rfl) | (rw [if_neg (by decide +kernel)]; exact ⟨rfl, rfl⟩)
theorem row_holds : Rows.coverTargetsRow.holds Tryz.pinned (OpenSpec.ofChange Rows.coverTargetsSpec) :=
  OpenClaim.holds_of_wide 3 Tryz.f3 rfl rfl rfl rfl rfl rfl rfl ⟨rfl, rfl, rfl, rfl, rfl⟩ rfl rfl rfl rfl rfl is_func Tryz.func3 facts
    is_inst is_wrap (fun os started H enc _ => lifted os started H enc)

theorem by_text : Rows.coverTargetsRow.wfByText (OpenSpec.ofChange Rows.coverTargetsSpec) = true := by kernel_rfl
theorem main_is : Tryz.pinned.checked.prog.mainIs = some ((true, "cabf29dfe0733c607e7f8ee6eb0e59423d625a8f41542b7d22c87499a89551b5").1, ((true, "cabf29dfe0733c607e7f8ee6eb0e59423d625a8f41542b7d22c87499a89551b5") : Bool × String).2.toList) := by kernel_rfl
theorem looks_so : true = Tryz.pinned.checked.prog.looks [] := by kernel_rfl
theorem no_go : (Tryz.prog.funcs.toList.all fun fn => !fn.goes) = true := by kernel_rfl
theorem goes_by : false = Rows.coverTargetsRow.goesBy Tryz.pinned.checked.prog := by
  have h1 : ∀ (g : Nat) (fn : Func), Tryz.prog.funcs[g]? = some fn → fn.goes = false := fun g fn hg => by
    simpa using List.all_eq_true.1 no_go fn (List.mem_of_getElem? (by simpa using hg))
  have h2 : Tryz.prog.goes 3 = false := by
    unfold Program.goes
    rw [Bool.or_eq_false_iff]
    refine ⟨?_, ?_⟩
    · rw [List.any_eq_false]
      intro g _
      cases hg : Tryz.prog.funcs[g]? with
      | none => simp
      | some fn => simp [h1 g fn hg]
    · rw [Bool.and_eq_false_iff]
      refine .inr ?_
      rw [← Array.any_toList, List.any_eq_false]
      intro fn hfn
      simpa using List.all_eq_true.1 no_go fn hfn
  have e : Tryz.pinned.checked.prog = Tryz.prog := by kernel_rfl
  have h3 : Tryz.pinned.checked.prog.goesFrom Rows.coverTargetsRow.func = false := by
    unfold Program.goesFrom
    rw [is_func, Option.any_some, e]
    exact h2
  unfold OpenClaim.goesBy Program.goesAt
  rw [h3]
  rfl
theorem no_standins : ([3, 3].all fun u => !Tryz.prog.wantsStandIn u) = true := by kernel_rfl

/-- the statement -/
theorem card_holds : Rows.CoverTargetsCardSaid :=
  Claim7.holds_tied_plain_at .later [] [.data, .handle, .listed, .data, .pinned] true (true, "cabf29dfe0733c607e7f8ee6eb0e59423d625a8f41542b7d22c87499a89551b5") true
    row_holds (fun _ h => by cases h) by_text (fun _ h => by cases h) coverTargets_row_tie rfl ⟨rfl, rfl⟩ main_is rfl
    (fun f fn hf hfn => by
      obtain rfl : f = 3 := Option.some.inj (is_func.symm.trans hf) |>.symm
      obtain rfl : fn = Tryz.f3 := (Option.some.inj (Tryz.func3.symm.trans hfn)).symm
      exact ⟨looks_so, fun j t ht => by
        rw [Tryz.params3] at ht
        have hm : t ∈ [3, 3] := by simpa using Array.mem_of_getElem? ht
        exact (show Tryz.prog.wantsStandIn t = false by simpa using List.all_eq_true.1 no_standins t hm)⟩)
    goes_by
#print axioms card_holds
end Go.Proofs.YtjnfkhhjfjepoaaGreatDoor
