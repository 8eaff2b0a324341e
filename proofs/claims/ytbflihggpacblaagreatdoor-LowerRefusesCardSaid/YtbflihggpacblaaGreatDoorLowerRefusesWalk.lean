/- The law LowerRefuses returns true, whatever tree and whatever options are handed in. No condition beyond the listed variables. -/
import Derived.Test.YtbflihggpacblaaGreatDoorLow
import Derived.Test.YtbflihggpacblaaGreatDoorAwLaid
namespace Go.Proofs.YtbflihggpacblaaGreatDoor
open Go Go.Ev Go.RowKit Go.Proofs
set_option linter.unusedVariables false
set_option linter.unusedSimpArgs false

theorem Keeps.same {w w' : World} (h : Keeps w w') {p : MemPlace} (hp : p.block < w.heap.size) : w.sameAt w' p := by
  cases p with
  | cell b o => exact World.cell?_of_block (w := w) (h.block b hp)
  | map b => exact h.block b hp
theorem Nd.keeps {W w : World} (h : Keeps W w) : ∀ (n : Nat) (cs : List Value), Nd W n cs → Nd w n cs
  | 0, _, hN => hN.elim
  | n + 1, cs, ⟨k, s, a, len, cap, fr, tt, e, hl, hw, hk⟩ => ⟨k, s, a, len, cap, fr, tt, e, hl, hw, fun i hi => by
    obtain ⟨b, off, cs', h1, h2, h3, h4, h5⟩ := hk i hi
    exact ⟨b, off, cs', h1, Nat.lt_of_lt_of_le h2 h.size, h3, fun j v hj => by rw [Keeps.cell' h (p := ⟨b, off + i * 5 + j, none⟩) h2]; exact h4 j v hj, Nd.keeps h n cs' h5⟩⟩
theorem tab_okLowerRefuses {W : World} [Sig] (h : laidMetH Tryz.prog Rows.lowerRefusesRow.laid W) : TabsOk W tabs := by
  have h' : laidMet Tryz.prog [("unicode/utf8.first", Rows.laid_unicode_utf8_first), ("unicode/utf8.acceptRanges", Rows.laid_unicode_utf8_acceptRanges), ("strings.asciiSpace", Rows.laid_strings_asciiSpace), ("unicode.White_Space", Rows.laid_unicode_White_Space), ("unicode.CaseRanges", Rows.laid_unicode_CaseRanges)] W ∧ handlesMet Tryz.prog [("errors.errorType", Rows.laid_errors_errorType)] W := h
  obtain ⟨⟨ps, ⟨_, _, _, _, _, _, _, _, _, _, ⟨_, _, _, _, _, _, _, _, _, _, ⟨g, t, cs, f, p, q, hg, ht, hv, hd, _, _⟩, _⟩, _⟩, _, _⟩, hh⟩ := h'
  obtain rfl := Option.some.inj ((show Tryz.prog.globalNamed "strings.asciiSpace" = some 0 by kernel_rfl).symm.trans hg)
  obtain rfl := Option.some.inj ((show (Tryz.prog.globals[0]?).map (·.type) = some 315 by kernel_rfl).symm.trans ht)
  rw [ks_eq] at hd
  have h1 : TabOk W tab := tab_of_var (by kernel_rfl) hg (by decide) hv Tryz.underlying315 Tryz.underlying5 (by kernel_rfl) hd
  intro x hx
  obtain rfl := List.mem_singleton.1 hx
  exact h1
section
variable [Sig]
theorem zdoc_cv : cv E00 zdoc = some (.agg #[.int .i64 0, .string ⟨#[]⟩, .slice none 0 0, .bool false, .int .i64 0, .int .i64 0]) := by
  have e : strB 0 0 = ⟨#[]⟩ := rfl
  have d0 : dec 0 = 0 := dec_of rfl
  simp [zdoc, cv, cvC, AV.one, e, d0]
theorem same_calls (w : World) (ht : TabsOk w tabs) : Calls Tryz.prog 8 #[.agg #[.int .i64 0, .string ⟨#[]⟩, .slice none 0 0, .bool false, .int .i64 0, .int .i64 0], .agg #[.int .i64 0, .string ⟨#[]⟩, .slice none 0 0, .bool false, .int .i64 0, .int .i64 0]] w fun e w' => e = .returned (.bool true) ∧ Keeps w w' :=
  run_trueF progOk (orc3_ok w ht) ht (us := [.agg #[.int .i64 0, .string ⟨#[]⟩, .slice none 0 0, .bool false, .int .i64 0, .int .i64 0], .agg #[.int .i64 0, .string ⟨#[]⟩, .slice none 0 0, .bool false, .int .i64 0, .int .i64 0]]) (args := [zdoc, zdoc]) (n := 3000) (by simp only [cvL, zdoc_cv]) same0
end

set_option maxHeartbeats 4000000 in
set_option maxRecDepth 1000000 in
theorem walkLowerRefuses (cs os : List Value) (n : Nat) (W : World) (hN : Nd W n cs) (hO : Opts os) (hL : laidMetH Tryz.prog Rows.lowerRefusesRow.laid W) :
    Calls Tryz.prog 3 #[.agg cs.toArray, .agg os.toArray] W fun e w' => e = .returned (.bool true) ∧ Keeps W w' := by
  letI : Sig := sigOf (symVal []) (symVal_ok (fun s hs => by cases hs))
  have ht := tab_okLowerRefuses hL
  have hAw : ∀ w, Keeps W w → Calls Tryz.prog 4 #[] w fun e w' => e = .returned (.bool true) ∧ Keeps w w' := fun w hk => awake_calls w (ht.keeps hk)
  have hSame : ∀ w, Keeps W w → Calls Tryz.prog 8 #[.agg #[.int .i64 0, .string ⟨#[]⟩, .slice none 0 0, .bool false, .int .i64 0, .int .i64 0], .agg #[.int .i64 0, .string ⟨#[]⟩, .slice none 0 0, .bool false, .int .i64 0, .int .i64 0]] w fun e w' => e = .returned (.bool true) ∧ Keeps w w' := fun w hk => same_calls w (ht.keeps hk)
  match n, hN with
  | n + 1, hN =>
  have hN' := hN
  obtain ⟨k, s, a, len, cap, fr, tt, e, -, -, -⟩ := hN
  subst e
  obtain ⟨wd, tb, b2, b3, b4, b5, b6, b7, b8, rfl⟩ := hO
  have hSh : ∀ w, Keeps W w → Calls Tryz.prog 5 #[.agg #[.int .i64 k, .string s, .slice a len cap, .int .i64 fr, .int .i64 tt]] w fun e w' => ∃ b, e = .returned (.bool b) ∧ Keeps w w' := fun w hk =>
    (shallowNode_any w (n + 1) _ w (Nd.keeps hk _ _ hN') (Below.refl _ _)).mono fun e w' ⟨b, he, hb⟩ => ⟨b, he, keeps_of_below hb⟩
  have hF : ∀ w, Keeps ((W.alloc (.cells #[.int .i64 k, .string s, .slice a len cap, .int .i64 fr, .int .i64 tt] 24)).alloc (.cells #[.int .i64 wd, .int .i64 tb, .bool b2, .bool b3, .bool b4, .bool b5, .bool b6, .bool b7, .bool b8] 26)) w → (w.cell? ⟨W.heap.size, 0, none⟩ = some (.int .i64 k) ∧ w.cell? ⟨W.heap.size, 1, none⟩ = some (.string s) ∧ w.cell? ⟨W.heap.size, 2, none⟩ = some (.slice a len cap) ∧ w.cell? ⟨W.heap.size, 3, none⟩ = some (.int .i64 fr) ∧ w.cell? ⟨W.heap.size, 4, none⟩ = some (.int .i64 tt) ∧ w.cell? ⟨W.heap.size + 1, 0, none⟩ = some (.int .i64 wd) ∧ w.cell? ⟨W.heap.size + 1, 1, none⟩ = some (.int .i64 tb) ∧ w.cell? ⟨W.heap.size + 1, 2, none⟩ = some (.bool b2) ∧ w.cell? ⟨W.heap.size + 1, 3, none⟩ = some (.bool b3) ∧ w.cell? ⟨W.heap.size + 1, 4, none⟩ = some (.bool b4) ∧ w.cell? ⟨W.heap.size + 1, 5, none⟩ = some (.bool b5) ∧ w.cell? ⟨W.heap.size + 1, 6, none⟩ = some (.bool b6) ∧ w.cell? ⟨W.heap.size + 1, 7, none⟩ = some (.bool b7) ∧ w.cell? ⟨W.heap.size + 1, 8, none⟩ = some (.bool b8)) ∧ Keeps W w ∧ W.heap.size + 1 < w.heap.size := by
    intro w hk
    have hs : ((W.alloc (.cells #[.int .i64 k, .string s, .slice a len cap, .int .i64 fr, .int .i64 tt] 24)).alloc (.cells #[.int .i64 wd, .int .i64 tb, .bool b2, .bool b3, .bool b4, .bool b5, .bool b6, .bool b7, .bool b8] 26)).heap.size = W.heap.size + 1 + 1 := by simp
    have h1 : W.heap.size + 1 < w.heap.size := by have := hk.size; omega
    refine ⟨?_, ((Keeps.alloc _ _).trans (Keeps.alloc _ _)).trans hk, h1⟩
    have hc : ∀ b o, b < W.heap.size + 1 + 1 → w.cell? ⟨b, o, none⟩ = ((W.alloc (.cells #[.int .i64 k, .string s, .slice a len cap, .int .i64 fr, .int .i64 tt] 24)).alloc (.cells #[.int .i64 wd, .int .i64 tb, .bool b2, .bool b3, .bool b4, .bool b5, .bool b6, .bool b7, .bool b8] 26)).cell? ⟨b, o, none⟩ := fun b o hb => Keeps.cell' hk (p := ⟨b, o, none⟩) (by rw [hs]; exact hb)
    refine ⟨(hc _ _ (by omega)).trans (by simp), (hc _ _ (by omega)).trans (by simp), (hc _ _ (by omega)).trans (by simp), (hc _ _ (by omega)).trans (by simp), (hc _ _ (by omega)).trans (by simp), (hc _ _ (by omega)).trans (by simp), (hc _ _ (by omega)).trans (by simp), (hc _ _ (by omega)).trans (by simp), (hc _ _ (by omega)).trans (by simp), (hc _ _ (by omega)).trans (by simp), (hc _ _ (by omega)).trans (by simp), (hc _ _ (by omega)).trans (by simp), (hc _ _ (by omega)).trans (by simp), (hc _ _ (by omega)).trans (by simp)⟩
  clear hN' hL ht
  by_cases hk86 : k = 86
  · subst hk86
    go_enter Tryz.func3, Tryz.ntmps3
    go_wp2_with (first
      | (go_at_call 4; refine (hAw _ ((Keeps.alloc _ _).trans (Keeps.alloc _ _))).mono ?_; rintro e w1 ⟨rfl, hk1⟩; obtain ⟨⟨f0, f1, f2, f3, f4, f5, f6, f7, f8, f9, f10, f11, f12, f13⟩, hkW1, hsz1⟩ := hF w1 hk1)
      | (go_at_call 5; refine (hSh _ hkW1).mono ?_; rintro e w2 ⟨b', rfl, hk2⟩; obtain ⟨⟨g0, g1, g2, g3, g4, g5, g6, g7, g8, g9, g10, g11, g12, g13⟩, hkW2, hsz2⟩ := hF w2 (hk1.trans hk2)))
    all_goals go_ret
    all_goals exact ⟨rfl, hkW2.trans (Keeps.refl _)⟩
  · have hLow : ∀ w, Calls Tryz.prog 6 #[.string ⟨#[]⟩, .agg #[.int .i64 k, .string s, .slice a len cap, .int .i64 fr, .int .i64 tt], .slice none 0 0, .agg #[.int .i64 wd, .int .i64 tb, .bool b2, .bool b3, .bool b4, .bool b5, .bool b6, .bool b7, .bool b8]] w fun e w' => ∃ c : Int, e = .returned (.tuple #[.agg #[.int .i64 0, .string ⟨#[]⟩, .slice none 0 0, .bool false, .int .i64 0, .int .i64 0], .int .i64 c]) ∧ Keeps w w' ∧
        ((wd < 1 ∨ 10000 < wd ∨ tb < 0 ∨ 16 < tb) ∧ c = 2000 ∨ ¬ (wd < 1 ∨ 10000 < wd ∨ tb < 0 ∨ 16 < tb) ∧ c = 2001) := fun w =>
      (lower_any k fr tt wd tb s a len cap b2 b3 b4 b5 b6 b7 b8 hk86 w).mono fun e w' ⟨c, he, hb, hc⟩ => ⟨c, he, keeps_of_below hb, hc⟩
    go_enter Tryz.func3, Tryz.ntmps3
    go_wp2_with (first
      | (go_at_call 4; refine (hAw _ ((Keeps.alloc _ _).trans (Keeps.alloc _ _))).mono ?_; rintro e w1 ⟨rfl, hk1⟩; obtain ⟨⟨f0, f1, f2, f3, f4, f5, f6, f7, f8, f9, f10, f11, f12, f13⟩, hkW1, hsz1⟩ := hF w1 hk1)
      | (go_at_call 5; refine (hSh _ hkW1).mono ?_; rintro e w2 ⟨b', rfl, hk2⟩; obtain ⟨⟨g0, g1, g2, g3, g4, g5, g6, g7, g8, g9, g10, g11, g12, g13⟩, hkW2, hsz2⟩ := hF w2 (hk1.trans hk2))
      | (go_at_call 6; refine (hLow _).mono ?_; rintro e w3 ⟨c, rfl, hk3, hc⟩; obtain ⟨⟨q0, q1, q2, q3, q4, q5, q6, q7, q8, q9, q10, q11, q12, q13⟩, hkW3, hsz3⟩ := hF w3 ((hk1.trans hk2).trans hk3))
      | (go_at_call 7; refine (num_any _ _).mono ?_; rintro e w4 ⟨rfl, rfl⟩)
      | (go_at_call 8; refine (hSame _ (hkW3.trans (Keeps.alloc _ _))).mono ?_; rintro e w5 ⟨rfl, hk5⟩))
    all_goals go_ret
    all_goals first
      | exact ⟨rfl, (hkW3.trans (Keeps.alloc _ _)).trans hk5⟩
      | exact ⟨rfl, hkW2⟩
end Go.Proofs.YtbflihggpacblaaGreatDoor
