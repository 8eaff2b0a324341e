/- What a tree that is handed in looks like, and the contract of the look that asks how deep it is: it returns a truth value and leaves all that was there as it was. No condition beyond the tree's being readable. · The look that asks how deep a tree is: it returns a truth value and leaves all that was there as it was, whatever the tree. No condition beyond the tree's being readable. · What lower.Lower says of a tree that is no program: which of two errors, and an empty document. No condition. -/
import Derived.Test.YtbflihggpacblaaGreatDoorProg
import Derived.Below
import Derived.WalkKit
import Derived.Laws.Cells
import Derived.ChangeArms
import Derived.DataReads
import Derived.ChangeOld
import Derived.Laws.ResultCell
namespace Go.Proofs.YtbflihggpacblaaGreatDoor
open Go Go.RowKit
set_option linter.unusedVariables false
set_option linter.unusedSimpArgs false

/-- a load of five cells that lie there -/
theorem load5 (W : World) (a : Addr) (cs : List Value) (hk : cs.length = 5) (h : ∀ j v, cs[j]? = some v → W.cell? (a.add j) = some v) : Sem.run Tryz.prog (loadCellsFrom a 0 5 #[]) W = .ok cs.toArray W := by
  have := run_loadCells_list (P := Tryz.prog) (w := W) a cs h
  rw [hk] at this
  simpa [loadCells] using this

theorem c24 : Tryz.prog.cellsOf 24 = 5 := by kernel_rfl
theorem c3 : Tryz.prog.cellsOf 3 = 1 := by kernel_rfl
theorem c9 : Tryz.prog.cellsOf 9 = 1 := by kernel_rfl
theorem c22 : Tryz.prog.cellsOf 22 = 1 := by kernel_rfl

/-- a node's cells, and where its kids lie: for some number of steps it can be read -/
def Nd (W : World) : Nat → List Value → Prop
  | 0, _ => False
  | n + 1, cs => ∃ (k : Int) (s : ByteArray) (a : Option Addr) (len cap : Nat) (fr to : Int), cs = [.int .i64 k, .string s, .slice a len cap, .int .i64 fr, .int .i64 to] ∧ len ≤ 9223372036854775807 ∧ (Lit.int .i64 k).wf = true ∧
      ∀ i, i < len → ∃ (b off : Nat) (cs' : List Value), a = some ⟨b, off, none⟩ ∧ b < W.heap.size ∧ cs'.length = 5 ∧ (∀ j v, cs'[j]? = some v → W.cell? ⟨b, off + i * 5 + j, none⟩ = some v) ∧ Nd W n cs'

theorem Nd.succ {W : World} : ∀ (n : Nat) (cs : List Value), Nd W n cs → Nd W (n + 1) cs
  | 0, _, h => h.elim
  | n + 1, cs, ⟨k, s, a, len, cap, fr, to, e, hl, hw, hk⟩ => ⟨k, s, a, len, cap, fr, to, e, hl, hw, fun i hi => by
    obtain ⟨b, off, cs', h1, h2, h3, h4, h5⟩ := hk i hi
    exact ⟨b, off, cs', h1, h2, h3, h4, Nd.succ n cs' h5⟩⟩

set_option maxRecDepth 100000 in
theorem nd_of {H : Type} {enc : TypeId × Value → H} {W : World} {base : Nat} {sp : Nat → Bool} {held : Bool} : ∀ (fuel : Nat) (cs : List Value) (x : DataW H × List MemPlace),
    DataW.trod enc Tryz.prog W base sp held fuel 24 cs = some x → Nd W fuel cs := by
  intro fuel
  induction fuel using Nat.strongRecOn with
  | _ fuel ih =>
    intro cs x h
    obtain ⟨xs, n, rfl, -, hl, hlen, hf⟩ := DataW.trod_struct Tryz.underlying24 h
    rw [c24] at hl
    have hlen' : xs.length = 5 := hlen
    match cs, hl with
    | [v0, v1, v2, v3, v4], _ =>
    match xs, hlen' with
    | [x0, x1, x2, x3, x4], _ =>
    have h0 : DataW.trod enc Tryz.prog W base sp held n 3 [v0] = some x0 := by
      have := hf 0 _ rfl
      change DataW.trod enc Tryz.prog W base sp held n 3 (List.take (Tryz.prog.cellsOf 3) (List.drop 0 _)) = _ at this
      rw [show (List.take (Tryz.prog.cellsOf 3) (List.drop 0 [v0, v1, v2, v3, v4])) = [v0] from by rw [c3]; rfl] at this
      exact this
    have h1 : DataW.trod enc Tryz.prog W base sp held n 9 [v1] = some x1 := by
      have := hf 1 _ rfl
      change DataW.trod enc Tryz.prog W base sp held n 9 (List.take (Tryz.prog.cellsOf 9) (List.drop 1 _)) = _ at this
      rw [show (List.take (Tryz.prog.cellsOf 9) (List.drop 1 [v0, v1, v2, v3, v4])) = [v1] from by rw [c9]; rfl] at this
      exact this
    have h2 : DataW.trod enc Tryz.prog W base sp held n 22 [v2] = some x2 := by
      have := hf 2 _ rfl
      change DataW.trod enc Tryz.prog W base sp held n 22 (List.take (Tryz.prog.cellsOf 22) (List.drop 2 _)) = _ at this
      rw [show (List.take (Tryz.prog.cellsOf 22) (List.drop 2 [v0, v1, v2, v3, v4])) = [v2] from by rw [c22]; rfl] at this
      exact this
    have h3 : DataW.trod enc Tryz.prog W base sp held n 3 [v3] = some x3 := by
      have := hf 3 _ rfl
      change DataW.trod enc Tryz.prog W base sp held n 3 (List.take (Tryz.prog.cellsOf 3) (List.drop 3 _)) = _ at this
      rw [show (List.take (Tryz.prog.cellsOf 3) (List.drop 3 [v0, v1, v2, v3, v4])) = [v3] from by rw [c3]; rfl] at this
      exact this
    have h4 : DataW.trod enc Tryz.prog W base sp held n 3 [v4] = some x4 := by
      have := hf 4 _ rfl
      change DataW.trod enc Tryz.prog W base sp held n 3 (List.take (Tryz.prog.cellsOf 3) (List.drop 4 _)) = _ at this
      rw [show (List.take (Tryz.prog.cellsOf 3) (List.drop 4 [v0, v1, v2, v3, v4])) = [v4] from by rw [c3]; rfl] at this
      exact this
    obtain ⟨k, e0, -, w0⟩ := DataW.trod_int Tryz.underlying3 h0
    obtain ⟨s, e1, -, -⟩ := DataW.trod_string Tryz.underlying9 h1
    obtain ⟨fr, e3, -, -⟩ := DataW.trod_int Tryz.underlying3 h3
    obtain ⟨to, e4, -, -⟩ := DataW.trod_int Tryz.underlying3 h4
    simp only [List.cons.injEq, and_true] at e0 e1 e3 e4
    subst e0 e1 e3 e4
    rcases DataW.trod_slice Tryz.underlying22 h2 with ⟨e2, -⟩ | ⟨a, len, cap, elems, rest, m, hm, e2, -, -, hlc, hcm, hel, hk, -, -⟩
    · simp only [List.cons.injEq, and_true] at e2
      subst e2
      exact ⟨k, s, none, 0, 0, fr, to, rfl, by decide, w0, fun i hi => absurd hi (Nat.not_lt_zero _)⟩
    · simp only [List.cons.injEq, and_true] at e2
      subst e2
      have hmax : maxLen = 9223372036854775807 := rfl
      refine ⟨k, s, some a, len, cap, fr, to, rfl, by omega, w0, fun i hi => ?_⟩
      have key : ∀ i, i < len → ∃ cs', W.cells? base (a.add (i * 5)) 5 = some cs' ∧ ∃ y, DataW.trod enc Tryz.prog W base sp held m 24 cs' = some y := by
        intro i hi
        have hki := hk i hi
        rw [c24, List.getElem?_eq_getElem (by omega : i < elems.length)] at hki
        obtain ⟨cs', hc, ht⟩ := Option.bind_eq_some_iff.1 hki
        exact ⟨cs', hc, _, ht⟩
      obtain ⟨b, off, spot⟩ := a
      have hs : spot = none := by
        obtain ⟨cs0, hc0, -⟩ := key 0 (by omega)
        obtain ⟨-, hcl, hcell⟩ := World.cells?_some hc0
        have h00 := hcell 0 (by decide)
        rw [List.getElem?_eq_getElem (by omega : 0 < cs0.length)] at h00
        simpa [Addr.add] using World.cell?_spot h00
      subst hs
      obtain ⟨cs', hc, y, ht⟩ := key i hi
      rw [Go.WideShapes.add_plain] at hc
      obtain ⟨hb, hcl, hcell⟩ := World.cells?_some hc
      have hlt := World.cells?_block hc (by decide)
      subst hm
      refine ⟨b, off, cs', rfl, hlt, hcl, fun j v hj => ?_, Nd.succ _ _ (ih m (by omega) cs' _ ht)⟩
      have hj5 : j < 5 := by
        rcases Nat.lt_or_ge j 5 with h5 | h5
        · exact h5
        · rw [List.getElem?_eq_none (by omega)] at hj; cases hj
      have := hcell j hj5
      rw [hj, Go.WideShapes.add_plain] at this
      exact this

theorem c4 : Tryz.prog.cellsOf 4 = 1 := by kernel_rfl
theorem c26 : Tryz.prog.cellsOf 26 = 9 := by kernel_rfl
/-- the options' cells -/
def Opts (os : List Value) : Prop := ∃ (wd tb : Int) (b2 b3 b4 b5 b6 b7 b8 : Bool), os = [.int .i64 wd, .int .i64 tb, .bool b2, .bool b3, .bool b4, .bool b5, .bool b6, .bool b7, .bool b8]
set_option maxRecDepth 100000 in
theorem opts_of {H : Type} {enc : TypeId × Value → H} {W : World} {base : Nat} {sp : Nat → Bool} {held : Bool} (fuel : Nat) (cs : List Value) (x : DataW H × List MemPlace) (h : DataW.trod enc Tryz.prog W base sp held fuel 26 cs = some x) : Opts cs := by
  obtain ⟨xs, n, rfl, -, hl, hlen, hf⟩ := DataW.trod_struct Tryz.underlying26 h
  rw [c26] at hl
  have hlen' : xs.length = 9 := hlen
  match cs, hl with
  | [v0, v1, v2, v3, v4, v5, v6, v7, v8], _ =>
  match xs, hlen' with
  | [x0, x1, x2, x3, x4, x5, x6, x7, x8], _ =>
  have h0 : DataW.trod enc Tryz.prog W base sp held n 3 [v0] = some x0 := by
    have := hf 0 _ rfl
    change DataW.trod enc Tryz.prog W base sp held n 3 (List.take (Tryz.prog.cellsOf 3) (List.drop 0 _)) = _ at this
    rw [show (List.take (Tryz.prog.cellsOf 3) (List.drop 0 [v0, v1, v2, v3, v4, v5, v6, v7, v8])) = [v0] from by rw [c3]; rfl] at this
    exact this
  have h1 : DataW.trod enc Tryz.prog W base sp held n 3 [v1] = some x1 := by
    have := hf 1 _ rfl
    change DataW.trod enc Tryz.prog W base sp held n 3 (List.take (Tryz.prog.cellsOf 3) (List.drop 1 _)) = _ at this
    rw [show (List.take (Tryz.prog.cellsOf 3) (List.drop 1 [v0, v1, v2, v3, v4, v5, v6, v7, v8])) = [v1] from by rw [c3]; rfl] at this
    exact this
  have h2 : DataW.trod enc Tryz.prog W base sp held n 4 [v2] = some x2 := by
    have := hf 2 _ rfl
    change DataW.trod enc Tryz.prog W base sp held n 4 (List.take (Tryz.prog.cellsOf 4) (List.drop 2 _)) = _ at this
    rw [show (List.take (Tryz.prog.cellsOf 4) (List.drop 2 [v0, v1, v2, v3, v4, v5, v6, v7, v8])) = [v2] from by rw [c4]; rfl] at this
    exact this
  have h3 : DataW.trod enc Tryz.prog W base sp held n 4 [v3] = some x3 := by
    have := hf 3 _ rfl
    change DataW.trod enc Tryz.prog W base sp held n 4 (List.take (Tryz.prog.cellsOf 4) (List.drop 3 _)) = _ at this
    rw [show (List.take (Tryz.prog.cellsOf 4) (List.drop 3 [v0, v1, v2, v3, v4, v5, v6, v7, v8])) = [v3] from by rw [c4]; rfl] at this
    exact this
  have h4 : DataW.trod enc Tryz.prog W base sp held n 4 [v4] = some x4 := by
    have := hf 4 _ rfl
    change DataW.trod enc Tryz.prog W base sp held n 4 (List.take (Tryz.prog.cellsOf 4) (List.drop 4 _)) = _ at this
    rw [show (List.take (Tryz.prog.cellsOf 4) (List.drop 4 [v0, v1, v2, v3, v4, v5, v6, v7, v8])) = [v4] from by rw [c4]; rfl] at this
    exact this
  have h5 : DataW.trod enc Tryz.prog W base sp held n 4 [v5] = some x5 := by
    have := hf 5 _ rfl
    change DataW.trod enc Tryz.prog W base sp held n 4 (List.take (Tryz.prog.cellsOf 4) (List.drop 5 _)) = _ at this
    rw [show (List.take (Tryz.prog.cellsOf 4) (List.drop 5 [v0, v1, v2, v3, v4, v5, v6, v7, v8])) = [v5] from by rw [c4]; rfl] at this
    exact this
  have h6 : DataW.trod enc Tryz.prog W base sp held n 4 [v6] = some x6 := by
    have := hf 6 _ rfl
    change DataW.trod enc Tryz.prog W base sp held n 4 (List.take (Tryz.prog.cellsOf 4) (List.drop 6 _)) = _ at this
    rw [show (List.take (Tryz.prog.cellsOf 4) (List.drop 6 [v0, v1, v2, v3, v4, v5, v6, v7, v8])) = [v6] from by rw [c4]; rfl] at this
    exact this
  have h7 : DataW.trod enc Tryz.prog W base sp held n 4 [v7] = some x7 := by
    have := hf 7 _ rfl
    change DataW.trod enc Tryz.prog W base sp held n 4 (List.take (Tryz.prog.cellsOf 4) (List.drop 7 _)) = _ at this
    rw [show (List.take (Tryz.prog.cellsOf 4) (List.drop 7 [v0, v1, v2, v3, v4, v5, v6, v7, v8])) = [v7] from by rw [c4]; rfl] at this
    exact this
  have h8 : DataW.trod enc Tryz.prog W base sp held n 4 [v8] = some x8 := by
    have := hf 8 _ rfl
    change DataW.trod enc Tryz.prog W base sp held n 4 (List.take (Tryz.prog.cellsOf 4) (List.drop 8 _)) = _ at this
    rw [show (List.take (Tryz.prog.cellsOf 4) (List.drop 8 [v0, v1, v2, v3, v4, v5, v6, v7, v8])) = [v8] from by rw [c4]; rfl] at this
    exact this
  obtain ⟨wd, e0, -, -⟩ := DataW.trod_int Tryz.underlying3 h0
  obtain ⟨tb, e1, -, -⟩ := DataW.trod_int Tryz.underlying3 h1
  obtain ⟨b2, e2, -⟩ := DataW.trod_bool Tryz.underlying4 h2
  obtain ⟨b3, e3, -⟩ := DataW.trod_bool Tryz.underlying4 h3
  obtain ⟨b4, e4, -⟩ := DataW.trod_bool Tryz.underlying4 h4
  obtain ⟨b5, e5, -⟩ := DataW.trod_bool Tryz.underlying4 h5
  obtain ⟨b6, e6, -⟩ := DataW.trod_bool Tryz.underlying4 h6
  obtain ⟨b7, e7, -⟩ := DataW.trod_bool Tryz.underlying4 h7
  obtain ⟨b8, e8, -⟩ := DataW.trod_bool Tryz.underlying4 h8
  simp only [List.cons.injEq, and_true] at e0 e1 e2 e3 e4 e5 e6 e7 e8
  subst e0 e1 e2 e3 e4 e5 e6 e7 e8
  exact ⟨wd, tb, b2, b3, b4, b5, b6, b7, b8, rfl⟩
end Go.Proofs.YtbflihggpacblaaGreatDoor
namespace Go.Proofs.YtbflihggpacblaaGreatDoor
open Go Go.RowKit Go.Proofs
set_option linter.unusedVariables false
set_option linter.unusedSimpArgs false

set_option maxHeartbeats 2000000 in
set_option maxRecDepth 1000000 in
theorem shallow_any (W : World) : ∀ (left : Nat) (n : Nat) (cs : List Value) (w : World), left ≤ 16384 → Nd W n cs → Below W.heap.size W w →
    Calls Tryz.prog 11 #[.agg cs.toArray, .int .i64 left] w fun e w' => ∃ b, e = .returned (.bool b) ∧ Below w.heap.size w w' := by
  intro left
  induction left with
  | zero =>
    intro n cs w _ hN hK
    match n, hN with
    | n + 1, ⟨k, s, a, len, cap, fr, to, e, hl, hw, hk⟩ =>
    subst e
    go_enter Tryz.func11, Tryz.ntmps11
    go_wp2
    go_ret
    exact ⟨_, rfl, (Below.refl _ _).alloc (Nat.le_refl _) _⟩
  | succ left ih =>
    intro n cs w hle hN hK
    match n, hN with
    | n + 1, ⟨k, s, a, len, cap, fr, to, e, hl, hw, hk⟩ =>
    subst e
    go_enter Tryz.func11, Tryz.ntmps11
    go_wp2
    go_loopw [5] (fun i wr => ∃ k : Nat, k ≤ len ∧ i = .int .i64 k ∧ wr.cell? ⟨w.heap.size, 2, none⟩ = some (.slice a len cap) ∧ Below w.heap.size w wr ∧ w.heap.size < wr.heap.size) (fun i _ => len - (intOf i).toNat)
    case atStart => exact ⟨0, Nat.zero_le _, rfl, by simp, (Below.refl _ _).alloc (Nat.le_refl _) _, by simp⟩
    case round =>
      obtain ⟨j, hj, rfl, hc2, hB, hsz⟩ := hrel
      by_cases hlt : j < len
      · obtain ⟨b, off, cs', rfl, hb, hl5, hcell, hN'⟩ := hk j hlt
        have hWr : Below W.heap.size W wr := hK.trans (hB.mono hK.size)
        match cs', hl5, hcell, hN' with
        | [v0, v1, v2, v3, v4], _, hcell, hN' =>
        have hc : ∀ i v, [v0, v1, v2, v3, v4][i]? = some v → wr.cell? ⟨b, off + j * 5 + i, none⟩ = some v := fun i v hi => by
          rw [hWr.cell (p := ⟨b, off + j * 5 + i, none⟩) hb]
          exact hcell i v hi
        have d0 : wr.cell? ⟨b, off + j * 5, none⟩ = some v0 := hc 0 v0 rfl
        have d1 : wr.cell? ⟨b, off + j * 5 + 1, none⟩ = some v1 := hc 1 v1 rfl
        have d2 : wr.cell? ⟨b, off + j * 5 + 2, none⟩ = some v2 := hc 2 v2 rfl
        have d3 : wr.cell? ⟨b, off + j * 5 + 3, none⟩ = some v3 := hc 3 v3 rfl
        have d4 : wr.cell? ⟨b, off + j * 5 + 4, none⟩ = some v4 := hc 4 v4 rfl
        have hcall := ih n [v0, v1, v2, v3, v4] wr (by omega) hN' hWr
        have hc2b : ∀ w', Below wr.heap.size wr w' → w'.cell? ⟨w.heap.size, 2, none⟩ = some (.slice (some ⟨b, off, none⟩) len cap) := fun w' hh => by
          rw [hh.cell (p := ⟨w.heap.size, 2, none⟩) hsz]; exact hc2
        have hBb : ∀ w', Below wr.heap.size wr w' → Below w.heap.size w w' ∧ w.heap.size < w'.heap.size := fun w' hh => ⟨hB.trans (hh.mono (Nat.le_of_lt hsz)), Nat.lt_of_lt_of_le hsz hh.size⟩
        clear hc
        clear hk hcell
        go_wp2_with (go_at_call 11; refine hcall.mono ?_; rintro e w' ⟨b', rfl, hB'⟩)
        · go_ret
          exact ⟨_, rfl, (hBb _ hB').1⟩
        · refine ⟨⟨_, .int .i64 ((j : Int) + 1), _, _, _, _, _, _, _, _, _, _, _, _, _, _, _, _, ⟨j + 1, by omega, by simp, hc2b _ hB', (hBb _ hB').1, (hBb _ hB').2⟩, rfl⟩, ?_⟩
          simp [intOf]; omega
      · have hjl : j = len := by omega
        clear hk
        go_wp2
        go_ret
        exact ⟨_, rfl, hB⟩

set_option maxHeartbeats 2000000 in
set_option maxRecDepth 1000000 in
/-- the look from the top -/
theorem shallowNode_any (W : World) (n : Nat) (cs : List Value) (w : World) (hN : Nd W n cs) (hK : Below W.heap.size W w) :
    Calls Tryz.prog 5 #[.agg cs.toArray] w fun e w' => ∃ b, e = .returned (.bool b) ∧ Below w.heap.size w w' := by
  have hall := shallow_any W 16384 n cs
  match n, hN with
  | n + 1, hN =>
  have hN' := hN
  obtain ⟨k, s, a, len, cap, fr, to, e, -, -, -⟩ := hN
  subst e
  have hcall : ∀ w', Below w.heap.size w w' → Calls Tryz.prog 11 #[.agg #[.int .i64 k, .string s, .slice a len cap, .int .i64 fr, .int .i64 to], .int .i64 16384] w' fun e w'' => ∃ b, e = .returned (.bool b) ∧ Below w'.heap.size w' w'' :=
    fun w' hb => hall w' (Nat.le_refl _) hN' (hK.trans (hb.mono hK.size))
  clear hall hN'
  go_enter Tryz.func5, Tryz.ntmps5
  go_wp2_with (go_at_call 11; refine (hcall _ ((Below.refl _ _).alloc (Nat.le_refl _) _)).mono ?_; rintro e w' ⟨b', rfl, hB'⟩)
  go_ret
  exact ⟨_, rfl, ((Below.refl _ _).alloc (Nat.le_refl _) _).trans (hB'.mono (by simp))⟩
end Go.Proofs.YtbflihggpacblaaGreatDoor
namespace Go.Proofs.YtbflihggpacblaaGreatDoor
open Go Go.RowKit Go.Proofs
set_option linter.unusedVariables false
set_option linter.unusedSimpArgs false

theorem num_any (z : Int) (w : World) : Calls Tryz.prog 7 #[.int .i64 z] w fun e w' => e = .returned (.int .i64 z) ∧ w' = w := by
  go_enter Tryz.func7, Tryz.ntmps7
  go_wp2
  go_ret
  exact ⟨rfl, rfl⟩
set_option maxHeartbeats 4000000 in
set_option maxRecDepth 1000000 in
theorem lower_any (k fr to wd tb : Int) (s : ByteArray) (a : Option Addr) (len cap : Nat) (b2 b3 b4 b5 b6 b7 b8 : Bool) (hk : k ≠ 86) (w : World) :
    Calls Tryz.prog 6 #[.string ⟨#[]⟩, .agg #[.int .i64 k, .string s, .slice a len cap, .int .i64 fr, .int .i64 to], .slice none 0 0, .agg #[.int .i64 wd, .int .i64 tb, .bool b2, .bool b3, .bool b4, .bool b5, .bool b6, .bool b7, .bool b8]] w
      fun e w' => ∃ c : Int, e = .returned (.tuple #[.agg #[.int .i64 0, .string ⟨#[]⟩, .slice none 0 0, .bool false, .int .i64 0, .int .i64 0], .int .i64 c]) ∧ Below w.heap.size w w' ∧ ((wd < 1 ∨ 10000 < wd ∨ tb < 0 ∨ 16 < tb) ∧ c = 2000 ∨ ¬ (wd < 1 ∨ 10000 < wd ∨ tb < 0 ∨ 16 < tb) ∧ c = 2001) := by
  go_enter Tryz.func6, Tryz.ntmps6
  go_wp2
  all_goals
    (try simp only [Exit.inBlock, Exit.then])
    refine bodyPost_ret (by rw [results_cell_tmp rfl]; go_simp; rfl) rfl ?_
    have hbelow : ∀ o1 o2 o3, Below w.heap.size w (((w.alloc o1).alloc o2).alloc o3) := fun o1 o2 o3 => (((Below.refl _ _).alloc (Nat.le_refl _) _).alloc (by simp) _).alloc (by simp; omega) _
    first
      | exact ⟨2000, rfl, hbelow _ _ _, .inl ⟨by omega, rfl⟩⟩
      | exact ⟨2001, rfl, hbelow _ _ _, .inr ⟨by omega, rfl⟩⟩
      | exact ⟨rfl, hbelow _ _ _⟩
end Go.Proofs.YtbflihggpacblaaGreatDoor
