/- errors.As at a struct of one int, as an answer that stores. -/
import Derived.Test.YtakmbfkehnfgaaaGreatDoorEvAns
set_option linter.unusedVariables false
set_option linter.unusedSimpArgs false
namespace Go.Ev
set_option linter.unusedSectionVars false

noncomputable section
/-- errors.As(e, &t): 't' is set to what 'e' holds; true -/
def asG (e p : Nat) : Ansr := fun args => match args with
  | [.iface u (.agg [.int .i64 z]), .iface q (.ptr b off)] => (match Nat.beq u e && Nat.beq q p && !symB z with | true => some (.set 1 b off (.agg [.int .i64 z]) (.bool true)) | false => none)
  | _ => none
end
theorem asG_form {e p : Nat} {args : List AV} {ans : Ans} (h : asG e p args = some ans) : ∃ z b off, args = [.iface e (.agg [.int .i64 z]), .iface p (.ptr b off)] ∧ symB z = false ∧ ans = .set 1 b off (.agg [.int .i64 z]) (.bool true) := by
  unfold asG at h
  split at h
  · rename_i u z q b off
    split at h
    · rename_i hc
      cases h
      simp only [Bool.and_eq_true, Bool.not_eq_true'] at hc
      obtain ⟨⟨h1, h2⟩, h3⟩ := hc
      have := Nat.eq_of_beq_eq_true h1; subst this
      have := Nat.eq_of_beq_eq_true h2; subst this
      exact ⟨z, b, off, rfl, h3, rfl⟩
    · cases h
  · cases h

theorem store_one (P : Program) (w : World) (t : Addr) (k : IntKind) (z : Int) (old : Value) (ht : w.cell? t = some old) (hf : w.frozen? t = false) : (storeCells t [.int k z]).run P w = .ok () (w.setCell t (.int k z)) := by
  simp only [storeCells, Addr.add]
  rw [Sem.run_bind, run_store P w _ _ _ (by rfl)]
  simp [ht, hf]

theorem asG_ok [Sig] {P : Program} {l : List Tab} {F e p g : Nat} {hv : Value} (hb : (fnOf P F).isSome = true) (hl : ∃ t ∈ l, t.g = g ∧ t.raw = some hv)
    (H : ∀ (z : Int) (t : Addr) (old : Value) (w : World), w.cell? ⟨g, 0, none⟩ = some hv → w.cell? t = some old → w.frozen? t = false →
      Calls P F #[.iface e (.agg #[.int .i64 z]), .iface p (.pointer (some t))] w fun ev w' => ev = .returned (.bool true) ∧ ∃ w4, Keeps w w4 ∧ w' = w4.setCell t (.int .i64 z)) :
    ∀ args ans, asG e p args = some ans → AnsOk P l F args ans := by
  intro args ans h
  obtain ⟨z, b, off, rfl, hz, rfl⟩ := asG_form h
  refine ⟨hasBody_of hb, fun W0 ht E h w us S hu ho => ?_⟩
  have htw := ht.sim S
  obtain ⟨tb, htb, hg, hraw⟩ := hl
  obtain ⟨-, C0, el0, fz0, hC0, -, -, hr0⟩ := htw tb htb
  have hcg : w.cell? ⟨g, 0, none⟩ = some hv := by
    rw [hg] at hC0
    rw [cell_of hC0]
    exact hr0 hv hraw
  have hdz : dec z = z := dec_of hz
  simp only [ansRun] at ho ⊢
  split at ho
  · rename_i h' hst
    try simp only [hst]
    have hst0 := hst
    unfold storeAt at hst
    split at hst
    · rename_i cs el tl hgb
      simp only [AV.cells?] at hst
      split at hst
      · split at hst
        · rename_i lw hlw
          cases hst
          simp only [cvL, cv, cvC, AV.one, hdz] at hu
          split at hu
          · rename_i u1 l1 h1 h2
            cases hu
            cases h1
            split at h2
            · rename_i u2 l2 h3 h4
              cases h2
              cases h4
              split at h3
              · rename_i u3 h5
                cases h3
                split at h5
                · rename_i loc hloc
                  cases h5
                  obtain ⟨C, fz, hC, hfz, hsz, hcells, htl⟩ := S.cellsW hloc hgb
                  have hfz' := hfz rfl
                  subst hfz'
                  obtain ⟨hle, -⟩ := writeL_some off _ cs lw hlw
                  simp only [List.length_cons, List.length_nil] at hle
                  have hin : ∃ x, cs[off]? = some x := ⟨_, List.getElem?_eq_getElem (by omega)⟩
                  obtain ⟨x, hx⟩ := hin
                  obtain ⟨-, old, -, hold⟩ := hcells off x hx
                  have hct : w.cell? ⟨loc.rb, loc.ro + off, none⟩ = some old := by rw [cell_of hC]; exact hold
                  have hft : w.frozen? ⟨loc.rb, loc.ro + off, none⟩ = false := by simp [World.frozen?, hC]
                  have hlt : loc.rb < w.heap.size := by
                    rcases Nat.lt_or_ge loc.rb w.heap.size with h9 | h9
                    · exact h9
                    · rw [Array.getElem?_eq_none h9] at hC; cases hC
                  have hcall := H z ⟨loc.rb, loc.ro + off, none⟩ old w hcg hct hft
                  rw [← callsIn_wide] at hcall
                  refine hcall.mono fun ev w' he => ?_
                  obtain ⟨rfl, w4, hk, rfl⟩ := he
                  have S4 := S.grown hk
                  have hbk := hk.block _ hlt
                  have hct4 : w4.cell? ⟨loc.rb, loc.ro + off, none⟩ = some old := by
                    have hC4 : w4.heap[loc.rb]? = _ := hbk.trans hC
                    rw [cell_of hC4]; exact hold
                  have hft4 : w4.frozen? ⟨loc.rb, loc.ro + off, none⟩ = false := by
                    have hC4 : w4.heap[loc.rb]? = _ := hbk.trans hC
                    simp [World.frozen?, hC4]
                  obtain ⟨w5, hrun, hsim⟩ := writeCells_sound (P := P) S4 (us := [.int .i64 z]) hloc hgb (by simp only [cvC, AV.one, cv, hdz]) hlw
                  rw [store_one P w4 _ _ _ old hct4 hft4] at hrun
                  cases hrun
                  exact ⟨E, _, rfl, .put hloc, hsim, by simp only [cv]⟩
                · cases h5
              · cases h3
            · cases h2
          · cases hu
        · cases hst
      · cases hst
    · cases hst
  · exact ho.elim
theorem Keeps.alloc (w : World) (o : Obj) : Keeps w (w.alloc o) := by
  refine ⟨rfl, rfl, by simp, fun k hk => ?_⟩
  simp only [World.alloc]
  rw [Array.getElem?_push, if_neg (by omega)]
theorem htab_of_var [Sig] {P : Program} {W : World} {name : String} {g : Nat} {v : Value} (hg : P.globalNamed name = some g) (hg64 : g < 64) (hv : W.var? P name = some #[v]) : TabOk W { g := g, cs := [], raw := some v } := by
  simp only [World.var?, hg, Option.bind_some] at hv
  split at hv
  · rename_i C el fz hC
    simp only [Option.some.injEq] at hv
    subst hv
    exact ⟨hg64, _, el, fz, hC, Nat.zero_le _, fun i x hx => by simp at hx, fun u hu => by cases hu; rfl⟩
  · cases hv
end Go.Ev
