/- How many nodes a tree has and how deep it is: the program's measure at any real tree of 4,194,304 nodes, 8000 deep, at most. -/
import Derived.Test.YtmlhldohlfghaaaGreatDoorWalkD
namespace Go.Proofs.YtmlhldohlfghaaaGreatDoor
open Go Go.RowKit Go.Proofs Go.Ev Go.Shelf
set_option linter.unusedVariables false
set_option linter.unusedSimpArgs false
attribute [local go_sem] Oper.semAt_some
theorem walk_any (p : Value) (w : World) (hp : p.oneCell' = true) : Calls Tryz.prog 86 #[p] w fun e w' => e = .returned (.func (.func 138) #[] #[.pointer (some ⟨w.heap.size, 0, none⟩)]) ∧ w' = w.alloc (.cells #[p] 50) := by
  go_enter Tryz.func86, Tryz.ntmps86
  go_wp2
  go_ret
  exact ⟨rfl, rfl⟩
/-- a fact that the walk does not see -/
structure Keep (p : Prop) : Prop where
  h : p
/-- a box of a number -/
def NBox (W : World) (b : Nat) (k : Int) (ty : TypeId) : Prop := W.heap[b]? = some (.cells #[.int .i64 k] ty)
theorem results_cell3 {fn : Func} {p q r : Tmp} {t1 t2 t3 : TypeId} (h : fn.results = #[.cell p t1, .cell q t2, .cell r t3]) (tmps : Array Value) (P : Program) (w : World) :
    (results fn tmps).run P w =
      ((asAddr (tmps.getD p undef)).run P w).andThen fun a w₁ => ((loadVar t1 a).run P w₁).andThen fun v w₂ => ((asAddr (tmps.getD q undef)).run P w₂).andThen fun a2 w₃ => ((loadVar t2 a2).run P w₃).andThen fun v2 w₄ => ((asAddr (tmps.getD r undef)).run P w₄).andThen fun a3 w₅ => ((loadVar t3 a3).run P w₅).andThen fun v3 w₆ => .ok (.tuple #[v, v2, v3]) w₆ := by
  simp only [results, h]
  simp [Sem.run_bind, Result.andThen]
theorem heap_set_far (W : World) (p : Addr) (u : Value) {k : Nat} (h : p.block ≠ k) : (W.setCell p u).heap[k]? = W.heap[k]? := by
  simp [World.setCell, Array.getElem?_modify, h]
theorem set_two (W : World) (lo : Nat) (u v : Value) (h0 : (W.cell? ⟨lo, 0, none⟩).isSome = true) (h1 : (W.cell? ⟨lo + 1, 0, none⟩).isSome = true) :
    BodyK lo (lo + 3) W ((W.setCell ⟨lo, 0, none⟩ u).setCell ⟨lo + 1, 0, none⟩ v) ∧ ((W.setCell ⟨lo, 0, none⟩ u).setCell ⟨lo + 1, 0, none⟩ v).cell? ⟨lo, 0, none⟩ = some u ∧ ((W.setCell ⟨lo, 0, none⟩ u).setCell ⟨lo + 1, 0, none⟩ v).cell? ⟨lo + 1, 0, none⟩ = some v ∧
      ((W.setCell ⟨lo, 0, none⟩ u).setCell ⟨lo + 1, 0, none⟩ v).cell? ⟨lo + 1 + 1, 0, none⟩ = W.cell? ⟨lo + 1 + 1, 0, none⟩ ∧ (∀ a, ((W.setCell ⟨lo, 0, none⟩ u).setCell ⟨lo + 1, 0, none⟩ v).frozen? a = W.frozen? a) ∧ ((W.setCell ⟨lo, 0, none⟩ u).setCell ⟨lo + 1, 0, none⟩ v).heap.size = W.heap.size := by
  refine ⟨⟨((Below.refl lo W).setCell (p := ⟨lo, 0, none⟩) (Nat.le_refl _) _).setCell (p := ⟨lo + 1, 0, none⟩) (Nat.le_succ _) _, ?_⟩, ?_, ?_, ?_, ?_, ?_⟩
  · intro k o hk ho
    rw [heap_set_far _ _ _ (by show lo + 1 ≠ k; omega), heap_set_far _ _ _ (by show lo ≠ k; omega)]
    exact ho
  · rw [World.cell?_setCell_far _ ⟨lo + 1, 0, none⟩ ⟨lo, 0, none⟩ _ (by show lo + 1 ≠ lo; omega)]
    exact World.cell?_setCell_same' _ _ _ h0
  · refine World.cell?_setCell_same' _ _ _ ?_
    rw [World.cell?_setCell_far _ ⟨lo, 0, none⟩ ⟨lo + 1, 0, none⟩ _ (by show lo ≠ lo + 1; omega)]
    exact h1
  · rw [World.cell?_setCell_far _ ⟨lo + 1, 0, none⟩ ⟨lo + 1 + 1, 0, none⟩ _ (by show lo + 1 ≠ lo + 1 + 1; omega), World.cell?_setCell_far _ ⟨lo, 0, none⟩ ⟨lo + 1 + 1, 0, none⟩ _ (by show lo ≠ lo + 1 + 1; omega)]
  · intro a; simp
  · simp
set_option maxHeartbeats 4000000 in
set_option maxRecDepth 1000000 in
theorem measure_any (t : Tree) (b off : Nat) (w : World) (hL : Lies w t b off) (hs : t.sz ≤ 4194304) (hd : t.dp ≤ 8000) :
    CallsIn Fence.wide 9 Tryz.prog 37 #[.pointer (some ⟨b, off, none⟩)] w fun e w' => ∃ (k d : Nat), 1 ≤ d ∧ d ≤ 8000 ∧ e = .returned (.tuple #[.int .i64 k, .int .i64 d, .int .i64 0]) ∧ Below w.heap.size w w' := by
  refine callsIn_of_wp_marks Tryz.func37 rfl trivial ?_ rfl
  simp only [Tryz.ntmps37, List.size_toArray, List.length_cons, List.length_nil, Nat.reduceAdd, Nat.reduceSub, Array.replicate_succ, Array.replicate_zero, List.push_toArray, List.append_toArray, List.nil_append, List.cons_append]
  gi_wp2_with (refine ⟨trivial, ?_⟩; gi_at_call 86; refine (callsIn_wide.2 (walk_any _ _ rfl)).mono ?_; rintro e w' ⟨rfl, rfl⟩)
  obtain ⟨W0, hW0⟩ : ∃ W0, W0 = ((((w.alloc (Obj.cells #[Value.int IntKind.i64 0] 3)).alloc (Obj.cells #[Value.int IntKind.i64 0] 3)).alloc (Obj.cells #[Value.int IntKind.i64 0] 36)).alloc (Obj.cells #[Value.pointer (some ⟨b, off, none⟩)] 50)) := ⟨_, rfl⟩
  have hsz : W0.heap.size = w.heap.size + 4 := by rw [hW0]; simp
  have hBw : Below w.heap.size w W0 := by
    rw [hW0]
    exact ((((Below.refl _ w).alloc (Nat.le_refl _) _).alloc (by simp) _).alloc (by simp <;> omega) _).alloc (by simp <;> omega) _
  have x0 : W0.heap[w.heap.size]? = some (.cells #[.int .i64 0] 3) := by
    rw [hW0]
    exact (((((Below.refl (w.heap.size + 1) (w.alloc (Obj.cells #[Value.int IntKind.i64 0] 3))).alloc (by simp) _).alloc (by simp) _).alloc (by simp <;> omega) _).block _ (by omega)).trans (World.alloc_heap_new w _)
  have x1 : W0.heap[w.heap.size + 1]? = some (.cells #[.int .i64 0] 3) := by
    rw [hW0]
    refine ((((Below.refl (w.heap.size + 2) ((w.alloc (Obj.cells #[Value.int IntKind.i64 0] 3)).alloc (Obj.cells #[Value.int IntKind.i64 0] 3))).alloc (by simp) _).alloc (by simp) _).block _ (by omega)).trans ?_
    have := World.alloc_heap_new (w.alloc (Obj.cells #[Value.int IntKind.i64 0] 3)) (Obj.cells #[Value.int IntKind.i64 0] 3)
    rwa [World.size_alloc] at this
  have x2 : W0.heap[w.heap.size + 1 + 1]? = some (.cells #[.int .i64 0] 36) := by
    rw [hW0]
    refine (((Below.refl (w.heap.size + 3) (((w.alloc (Obj.cells #[Value.int IntKind.i64 0] 3)).alloc (Obj.cells #[Value.int IntKind.i64 0] 3)).alloc (Obj.cells #[Value.int IntKind.i64 0] 36))).alloc (by simp) _).block _ (by omega)).trans ?_
    have := World.alloc_heap_new ((w.alloc (Obj.cells #[Value.int IntKind.i64 0] 3)).alloc (Obj.cells #[Value.int IntKind.i64 0] 3)) (Obj.cells #[Value.int IntKind.i64 0] 36)
    simpa using this
  have x3 : W0.heap[w.heap.size + 1 + 1 + 1]? = some (.cells #[.pointer (some ⟨b, off, none⟩)] 50) := by
    rw [hW0]
    have := World.alloc_heap_new (((w.alloc (Obj.cells #[Value.int IntKind.i64 0] 3)).alloc (Obj.cells #[Value.int IntKind.i64 0] 3)).alloc (Obj.cells #[Value.int IntKind.i64 0] 36)) (Obj.cells #[Value.pointer (some ⟨b, off, none⟩)] 50)
    simpa using this
  rw [← hW0]
  refine range_all (lo := w.heap.size) (hi := w.heap.size + 3) rfl (by omega) (gf := 138) (lb := #[.pointer (some ⟨w.heap.size + 1 + 1 + 1, 0, none⟩)]) rfl trivial (enters_of Tryz.func138 (by kernel_rfl) rfl)
    (walk1_all (9 - 1) w.heap.size (w.heap.size + 3) b off (w.heap.size + 1 + 1 + 1) t w W0 rfl (by omega) (Nat.le_refl _) (by omega) hBw (by simp [World.cell?, x3]) hL hs hd) (by omega) (by omega) (Below.refl _ _) (fun _ => rfl)
    (fun pre W => ∃ dd : Nat, dd ≤ 8000 ∧ (pre = [] ∨ 1 ≤ dd) ∧ W.cell? ⟨w.heap.size, 0, none⟩ = some (.int .i64 pre.length) ∧ W.frozen? ⟨w.heap.size, 0, none⟩ = false ∧ W.cell? ⟨w.heap.size + 1, 0, none⟩ = some (.int .i64 dd) ∧ W.frozen? ⟨w.heap.size + 1, 0, none⟩ = false ∧ W.cell? ⟨w.heap.size + 1 + 1, 0, none⟩ = some (.int .i64 0) ∧ W.frozen? ⟨w.heap.size + 1 + 1, 0, none⟩ = false ∧ W0.heap.size ≤ W.heap.size ∧ Below w.heap.size w W)
    ?hI ?h0 (fun x => { tmps := #[.pointer (some ⟨b, off, none⟩), undef, .pointer (some ⟨w.heap.size, 0, none⟩), .pointer (some ⟨w.heap.size + 1, 0, none⟩), .pointer (some ⟨w.heap.size + 1 + 1, 0, none⟩), .int .i64 x.1.1, .pointer (some ⟨b, off, none⟩), .func (.func 138) #[] #[.pointer (some ⟨w.heap.size + 1 + 1 + 1, 0, none⟩)], .int .i64 x.1.1, .pointer (some ⟨x.1.2.1, x.1.2.2, none⟩), undef, undef, undef, undef, undef, undef, undef, undef, undef, undef, undef], defers := [] }) ?assign ?body ?done
  case hI =>
    rintro pre A B ⟨dd, i1, i2, i3, i4, i5, i6, i7, i8, i9, i10⟩ hB
    exact ⟨dd, i1, i2, (hB.cell (p := ⟨w.heap.size, 0, none⟩) (by show w.heap.size < _; omega)).trans i3, (World.frozen?_of_block (hB.block _ (by show w.heap.size < _; omega))).trans i4, (hB.cell (p := ⟨w.heap.size + 1, 0, none⟩) (by show w.heap.size + 1 < _; omega)).trans i5, (World.frozen?_of_block (hB.block _ (by show w.heap.size + 1 < _; omega))).trans i6, (hB.cell (p := ⟨w.heap.size + 1 + 1, 0, none⟩) (by show w.heap.size + 1 + 1 < _; omega)).trans i7, (World.frozen?_of_block (hB.block _ (by show w.heap.size + 1 + 1 < _; omega))).trans i8, Nat.le_trans i9 hB.size, i10.trans (hB.mono (by omega))⟩
  case h0 =>
    exact ⟨0, by omega, .inl rfl, by simp [World.cell?, x0], by simp [World.frozen?, x0], by simp [World.cell?, x1], by simp [World.frozen?, x1], by simp [World.cell?, x2], by simp [World.frozen?, x2], Nat.le_refl _, hBw⟩
  case assign =>
    rintro l ⟨⟨d1, b1, o1⟩, hx⟩ W K hK
    dsimp only [encD] at hK ⊢
    gi_wp2
    exact hK
  case body =>
    rintro l pre ⟨⟨d1, b1, o1⟩, hx1, hx2⟩ W ⟨dd, i1, i2, i3, i4, i5, i6, i7, i8, i9, i10⟩ hlt
    obtain ⟨m, hm⟩ : ∃ m, m = pre.length := ⟨_, rfl⟩
    rw [← hm] at i3
    have hw : Keep (wrap64 ((m : Int) + 1) = (m : Int) + 1 ∧ m + 1 ≤ 4194304 ∧ m = pre.length ∧ W0.heap.size ≤ W.heap.size ∧ Below w.heap.size w W) := ⟨IntWalk.wrap64_in _ (by omega), by omega, hm, i9, i10⟩
    generalize hQ : bodyK _ _ _ _ _ = Q
    have hQ2 : Keep (Q = bodyK _ _ _ _ _) := ⟨hQ.symm⟩
    have hsz2 : Keep (W0.heap.size = w.heap.size + 4) := ⟨hsz⟩
    clear hW0 x0 x1 x2 x3 i2 hQ i10 i9 hL hBw hm hlt hd hs hsz
    gi_wp2
    all_goals obtain ⟨hw1, hw2, hm, i9, i10⟩ := hw.h
    all_goals have hsz := hsz2.h
    all_goals try (exfalso; rename_i h9; omega)
    all_goals rw [hQ2.h, hw1]
    · obtain ⟨q1, q2, q3, q4, q5, q6⟩ := set_two W w.heap.size (.int .i64 ((m : Int) + 1)) (.int .i64 (d1 : Int)) (by rw [i3]; rfl) (by rw [i5]; rfl)
      refine ⟨q1, d1, hx2, .inr hx1, q2.trans ?_, (q5 _).trans i4, q3, (q5 _).trans i6, q4.trans i7, (q5 _).trans i8, by omega, i10.trans q1.below⟩
      rw [List.length_append, List.length_singleton, ← hm]; simp
    · obtain ⟨q1, q2, q3, q4, q5, q6⟩ := set_two W w.heap.size (.int .i64 ((m : Int) + 1)) (.int .i64 (dd : Int)) (by rw [i3]; rfl) (by rw [i5]; rfl)
      refine ⟨q1, dd, i1, .inr (by omega), q2.trans ?_, (q5 _).trans i4, q3, (q5 _).trans i6, q4.trans i7, (q5 _).trans i8, by omega, i10.trans q1.below⟩
      rw [List.length_append, List.length_singleton, ← hm]; simp
  case done =>
    rintro D ys W hD hne ⟨dd, i1, i2, i3, i4, i5, i6, i7, i8, i9, i10⟩ hK
    have i2 : 1 ≤ dd := i2.resolve_left hne
    have w3 : ¬ ((8000 : Int) < (dd : Int)) := by omega
    gi_wp2
    refine wpIn_wide.2 ?_
    go_region
    gi_wp2
    obtain ⟨q1, q2, q3, q4, q5, q6⟩ := set_two W w.heap.size (.int .i64 (ys.length : Int)) (.int .i64 (dd : Int)) (by rw [i3]; rfl) (by rw [i5]; rfl)
    obtain ⟨V, hV⟩ : ∃ V, V = (W.setCell ⟨w.heap.size, 0, none⟩ (.int .i64 (ys.length : Int))).setCell ⟨w.heap.size + 1, 0, none⟩ (.int .i64 (dd : Int)) := ⟨_, rfl⟩
    rw [← hV] at q1 q2 q3 q4 q5 q6 ⊢
    have hd : ((V.setCell ⟨w.heap.size + 1 + 1, 0, none⟩ (.int .i64 0)).drew).heap[D]? = some (.deferred (some [])) := (heap_set_far V ⟨w.heap.size + 1 + 1, 0, none⟩ _ (by show w.heap.size + 1 + 1 ≠ D; omega)).trans (q1.above _ _ (by omega) hK)
    have c0 : ((V.setCell ⟨w.heap.size + 1 + 1, 0, none⟩ (.int .i64 0)).drew).cell? ⟨w.heap.size, 0, none⟩ = some (.int .i64 (ys.length : Int)) := (World.cell?_setCell_far _ ⟨w.heap.size + 1 + 1, 0, none⟩ ⟨w.heap.size, 0, none⟩ _ (by show w.heap.size + 1 + 1 ≠ w.heap.size; omega)).trans q2
    have c1 : ((V.setCell ⟨w.heap.size + 1 + 1, 0, none⟩ (.int .i64 0)).drew).cell? ⟨w.heap.size + 1, 0, none⟩ = some (.int .i64 (dd : Int)) := (World.cell?_setCell_far _ ⟨w.heap.size + 1 + 1, 0, none⟩ ⟨w.heap.size + 1, 0, none⟩ _ (by show w.heap.size + 1 + 1 ≠ w.heap.size + 1; omega)).trans q3
    have c2 : ((V.setCell ⟨w.heap.size + 1 + 1, 0, none⟩ (.int .i64 0)).drew).cell? ⟨w.heap.size + 1 + 1, 0, none⟩ = some (.int .i64 0) := World.cell?_setCell_same' _ _ _ (by rw [q4, i7]; rfl)
    have hbb : Below w.heap.size w ((V.setCell ⟨w.heap.size + 1 + 1, 0, none⟩ (.int .i64 0)).drew) := ((i10.trans q1.below).setCell (p := ⟨w.heap.size + 1 + 1, 0, none⟩) (by show w.heap.size ≤ w.heap.size + 1 + 1; omega) _).drew
    obtain ⟨U, hU⟩ : ∃ U, U = (V.setCell ⟨w.heap.size + 1 + 1, 0, none⟩ (.int .i64 0)).drew := ⟨_, rfl⟩
    rw [← hU] at hd c0 c1 c2 hbb ⊢
    refine ⟨by simp, .inl ⟨_, _, rfl, run_takeDeferred hd, ?_⟩⟩
    have k0 := cell_kept c0 (grownBy_putObj' _ D (.deferred none)) (fun r e => by cases e; exact ⟨_, hd, rfl⟩)
    have k1 := cell_kept c1 (grownBy_putObj' _ D (.deferred none)) (fun r e => by cases e; exact ⟨_, hd, rfl⟩)
    have k2 := cell_kept c2 (grownBy_putObj' _ D (.deferred none)) (fun r e => by cases e; exact ⟨_, hd, rfl⟩)
    have hbp : Below w.heap.size w (U.putObj D (.deferred none)) := hbb.trans (below_put (by omega) hd)
    refine ⟨.tuple #[.int .i64 (ys.length : Int), .int .i64 (dd : Int), .int .i64 0], ?_, ys.length, dd, i2, i1, rfl, hbp⟩
    rw [results_cell3 rfl]
    clear hU
    generalize U.putObj D (.deferred none) = X at k0 k1 k2 hbp ⊢
    clear hV q1 q2 q3 q4 q5 q6 hW0 x0 x1 x2 x3
    go_simp
end Go.Proofs.YtmlhldohlfghaaaGreatDoor
