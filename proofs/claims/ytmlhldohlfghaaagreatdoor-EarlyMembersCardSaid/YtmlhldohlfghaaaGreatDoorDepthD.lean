/- How deep a tree is: the program's Depth at any real tree of 4,194,304 nodes, 8000 deep, at most. -/
import Derived.Test.YtmlhldohlfghaaaGreatDoorMeasD
namespace Go.Proofs.YtmlhldohlfghaaaGreatDoor
open Go Go.RowKit Go.Proofs Go.Ev Go.Shelf
set_option linter.unusedVariables false
set_option linter.unusedSimpArgs false
theorem liesL_below {w w' : World} {m : Nat} (hB : Below m w w') (hm : w.heap.size ≤ m) : ∀ (l : List Tree) (a : Option Addr) (i : Nat), LiesL w l a i → LiesL w' l a i
  | [], a, i, h => by rw [LiesL]; trivial
  | t :: ts, a, i, h => by
    rw [LiesL] at h ⊢
    obtain ⟨⟨b, off, hb, ht⟩, hl⟩ := h
    exact ⟨⟨b, off, hb, lies_below hB hm _ _ _ ht⟩, liesL_below hB hm ts a (i + 1) hl⟩
set_option maxHeartbeats 4000000 in
set_option maxRecDepth 1000000 in
theorem depth_any (t : Tree) (cs : List Value) (w : World) (hL : LiesC w t cs) (hs : t.sz ≤ 4194304) (hd : t.dp ≤ 8000) :
    Calls Tryz.prog 18 #[.agg cs.toArray] w fun e w' => ∃ d : Nat, 1 ≤ d ∧ d ≤ 8000 ∧ e = .returned (.int .i64 d) ∧ Below w.heap.size w w' := by
  obtain ⟨k, l, s, a, cap, f, e, rfl, rfl, hl⟩ := hL
  have hB1 : Below w.heap.size w (w.alloc (.cells #[.int .i64 k, s, .slice a l.length cap, f, e] 34)) := (Below.refl _ w).alloc (Nat.le_refl _) _
  have hbx : (w.alloc (.cells #[.int .i64 k, s, .slice a l.length cap, f, e] 34)).heap[w.heap.size]? = some (.cells #[.int .i64 k, s, .slice a l.length cap, f, e] 34) := World.alloc_heap_new w _
  have hL1 : Lies (w.alloc (.cells #[.int .i64 k, s, .slice a l.length cap, f, e] 34)) (.node k l) w.heap.size 0 := by
    rw [Lies]
    refine ⟨by simp, ?_, ⟨s, ?_⟩, ⟨a, cap, ?_, liesL_below hB1 (Nat.le_refl _) _ _ _ hl⟩, ⟨f, ?_⟩, ⟨e, ?_⟩⟩ <;> (simp only [World.cell?, hbx]; rfl)
  have hm := measure_any (.node k l) w.heap.size 0 _ hL1 hs hd
  go_enter Tryz.func18, Tryz.ntmps18
  go_wp2_with (go_at_call 37; refine (callsIn_wide.1 hm).mono ?_; rintro e w' ⟨k2, d, h1, h2, rfl, hB⟩)
  go_ret
  exact ⟨d, h1, h2, rfl, hB1.trans (hB.mono (by simp))⟩
end Go.Proofs.YtmlhldohlfghaaaGreatDoor
