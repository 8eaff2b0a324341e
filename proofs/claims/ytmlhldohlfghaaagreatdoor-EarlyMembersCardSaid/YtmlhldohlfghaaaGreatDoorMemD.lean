/- The look at a class's members by hand: twelve shapes of a member; it returns if there is one constructor at most and all others are fine, else it panics. No condition beyond the members' lying there. -/
import Derived.Test.YtmlhldohlfghaaaGreatDoorPatM
import Derived.Test.YtmlhldohlfghaaaGreatDoorPre
import Derived.WalkSmall
import Derived.WalkLawsBesides
import Derived.ChangeArms
import Derived.DataReads
import Derived.IntWalk
import Derived.Carry
namespace Go.Proofs.YtmlhldohlfghaaaGreatDoor
open Go Go.RowKit Go.Proofs Go.Ev
set_option linter.unusedVariables false
set_option linter.unusedSimpArgs false
/-! the shapes -/
def shK : Nat → Int
  | 0 => 15
  | 1 => 15
  | 2 => 15
  | 3 => 15
  | 4 => 16
  | 5 => 15
  | 6 => 15
  | 7 => 16
  | 8 => 15
  | 9 => 15
  | 10 => 15
  | _ => 16
def shT : Nat → List UInt8
  | 0 => []
  | 1 => []
  | 2 => [103, 101, 116]
  | 3 => [42]
  | 4 => []
  | 5 => [115, 116, 97, 116, 105, 99]
  | 6 => [115, 116, 97, 116, 105, 99]
  | 7 => [115, 116, 97, 116, 105, 99]
  | 8 => []
  | 9 => []
  | 10 => [115, 116, 97, 116, 105, 99, 32, 103, 101, 116]
  | _ => []
def shK0 : Nat → Int
  | 0 => 1
  | 1 => 4
  | 2 => 1
  | 3 => 1
  | 4 => 1
  | 5 => 1
  | 6 => 1
  | 7 => 4
  | 8 => 1
  | 9 => 14
  | 10 => 1
  | _ => 1
def shT0 : Nat → List UInt8
  | 0 => [99, 111, 110, 115, 116, 114, 117, 99, 116, 111, 114]
  | 1 => [39, 99, 111, 110, 115, 116, 114, 117, 99, 116, 111, 114, 39]
  | 2 => [99, 111, 110, 115, 116, 114, 117, 99, 116, 111, 114]
  | 3 => [99, 111, 110, 115, 116, 114, 117, 99, 116, 111, 114]
  | 4 => [99, 111, 110, 115, 116, 114, 117, 99, 116, 111, 114]
  | 5 => [99, 111, 110, 115, 116, 114, 117, 99, 116, 111, 114]
  | 6 => [112, 114, 111, 116, 111, 116, 121, 112, 101]
  | 7 => [39, 112, 114, 111, 116, 111, 116, 121, 112, 101, 39]
  | 8 => [112, 114, 111, 116, 111, 116, 121, 112, 101]
  | 9 => []
  | 10 => [99, 111, 110, 115, 116, 114, 117, 99, 116, 111, 114]
  | _ => [120]
def shR : Nat → List UInt8
  | 0 => []
  | 1 => []
  | 2 => [103, 101, 116]
  | 3 => [42]
  | 4 => []
  | 5 => []
  | 6 => []
  | 7 => []
  | 8 => []
  | 9 => []
  | 10 => [32, 103, 101, 116]
  | _ => []
def shS : Nat → Bool
  | 0 => false
  | 1 => false
  | 2 => false
  | 3 => false
  | 4 => false
  | 5 => true
  | 6 => true
  | 7 => true
  | 8 => false
  | 9 => false
  | 10 => true
  | _ => false
def shM : Nat → List UInt8
  | 0 => []
  | 1 => []
  | 2 => [103, 101, 116]
  | 3 => [42]
  | 4 => []
  | 5 => []
  | 6 => []
  | 7 => []
  | 8 => []
  | 9 => []
  | 10 => [103, 101, 116]
  | _ => []
def shC : Nat → Bool
  | 0 => true
  | 1 => true
  | 2 => true
  | 3 => true
  | 4 => true
  | 5 => true
  | 6 => false
  | 7 => false
  | 8 => false
  | 9 => false
  | 10 => true
  | _ => false
def shP : Nat → Bool
  | 0 => false
  | 1 => false
  | 2 => false
  | 3 => false
  | 4 => false
  | 5 => false
  | 6 => true
  | 7 => true
  | 8 => true
  | 9 => false
  | 10 => false
  | _ => false

abbrev bs (l : List UInt8) : ByteArray := ⟨l.toArray⟩
/-- a member of a shape lies there -/
structure MKid (w : World) (b off : Nat) (k : Nat) : Prop where
  lt : b < w.heap.size
  c0 : w.cell? ⟨b, off, none⟩ = some (.int .i64 (shK k))
  c1 : w.cell? ⟨b, off + 1, none⟩ = some (.string (bs (shT k)))
  kid : ∃ b' o' len cap, 0 < len ∧ w.cell? ⟨b, off + 2, none⟩ = some (.slice (some ⟨b', o', none⟩) len cap) ∧ b' < w.heap.size ∧ w.cell? ⟨b', o', none⟩ = some (.int .i64 (shK0 k)) ∧ (∃ s, w.cell? ⟨b', o' + 1, none⟩ = some s) ∧ (shK0 k ≠ 14 → w.cell? ⟨b', o' + 1, none⟩ = some (.string (bs (shT0 k))))
  c3 : ∃ f, w.cell? ⟨b, off + 3, none⟩ = some (.int .i64 f)
theorem keepsSet {w w1 : World} (h : Keeps w w1) {p : Addr} (hp : w.heap.size ≤ p.block) (u : Value) : Keeps w (w1.setCell p u) :=
  ⟨h.os, h.out, by rw [show (w1.setCell p u).heap.size = w1.heap.size by simp [World.setCell]]; exact h.size, fun k hk => by
    rw [show (w1.setCell p u).heap[k]? = w1.heap[k]? by
      have : ¬ p.block = k := by omega
      simp [World.setCell, Array.getElem?_modify, this]]
    exact h.block k hk⟩
theorem keepsCell {w w' : World} (h : Keeps w w') {p : Addr} (hp : p.block < w.heap.size) : w'.cell? p = w.cell? p := World.cell?_of_block (w := w) (h.block p.block hp)
theorem MKid.keeps {w w' : World} {b off k : Nat} (h : MKid w b off k) (hk : Keeps w w') : MKid w' b off k := by
  obtain ⟨h1, h2, h3, ⟨b', o', len, cap, k1, k2, k3, k4, ⟨s, k5⟩, k6⟩, f, h5⟩ := h
  refine ⟨Nat.lt_of_lt_of_le h1 hk.size, ?_, ?_, ⟨b', o', len, cap, k1, ?_, Nat.lt_of_lt_of_le k3 hk.size, ?_, ⟨s, ?_⟩, fun hn => ?_⟩, f, ?_⟩
  · rw [keepsCell hk (p := ⟨b, off, none⟩) h1]; exact h2
  · rw [keepsCell hk (p := ⟨b, off + 1, none⟩) h1]; exact h3
  · rw [keepsCell hk (p := ⟨b, off + 2, none⟩) h1]; exact k2
  · rw [keepsCell hk (p := ⟨b', o', none⟩) k3]; exact k4
  · rw [keepsCell hk (p := ⟨b', o' + 1, none⟩) k3]; exact k5
  · rw [keepsCell hk (p := ⟨b', o' + 1, none⟩) k3]; exact k6 hn
  · rw [keepsCell hk (p := ⟨b, off + 3, none⟩) h1]; exact h5
/-! the calls below -/
def intm : Value → Int
  | .int _ n => n
  | _ => 0
theorem kid_any {w : World} {b off b' o' len cap : Nat} (hl : 0 < len) (hc : w.cell? ⟨b, off + 2, none⟩ = some (.slice (some ⟨b', o', none⟩) len cap)) :
    Calls Tryz.prog 44 #[.pointer (some ⟨b, off, none⟩), .int .i64 0] w fun e w' => e = .returned (.pointer (some ⟨b', o', none⟩)) ∧ w' = w := by
  have h0 : (0 : Int) < (len : Int) := by omega
  go_enter Tryz.func44, Tryz.ntmps44
  go_wp2
  go_ret
  exact ⟨by simp, rfl⟩
theorem fail_any (c f : Int) (w : World) : Calls Tryz.prog 35 #[.int .i64 c, .int .i64 f] w fun e w' => e = .panicked [{ v := .iface 47 (.agg #[.int .i64 c, .int .i64 f]), recovered := false }] ∧ w' = w := by
  go_enter Tryz.func35, Tryz.ntmps35
  go_wp2
  exact ⟨rfl, rfl, rfl⟩
theorem named_ident {w : World} {b o : Nat} {s p : ByteArray} (h0 : w.cell? ⟨b, o, none⟩ = some (.int .i64 1)) (h1 : w.cell? ⟨b, o + 1, none⟩ = some (.string s)) :
    Calls Tryz.prog 67 #[.pointer (some ⟨b, o, none⟩), .string p] w fun e w' => e = .returned (.bool (s.toList == p.toList)) ∧ w' = w := by
  go_enter Tryz.func67, Tryz.ntmps67
  go_wp2
  go_ret
  exact ⟨rfl, rfl⟩
theorem named_other {w : World} {b o : Nat} {p : ByteArray} (h0 : w.cell? ⟨b, o, none⟩ = some (.int .i64 14)) :
    Calls Tryz.prog 67 #[.pointer (some ⟨b, o, none⟩), .string p] w fun e w' => e = .returned (.bool false) ∧ w' = w := by
  go_enter Tryz.func67, Tryz.ntmps67
  go_wp2
  go_ret
  exact ⟨rfl, rfl⟩
/-- a text literal's units -/
noncomputable def unitsB (codes : List Int) (o : OR) : Bool := match o with
  | .val (.tuple [.slice b off n _ _, .int .i64 z]) h' => (match h'.get b with
    | some (.cells cs _ _ _) => AV.beqL ((cs.drop off).take n) (codes.map fun m => .int .i64 m) && (Nat.beq n codes.length && ieq z 0)
    | _ => false)
  | _ => false
def codesOf (l : List UInt8) : List Int := l.map fun x => (x.toNat : Int)
theorem units1 : unitsB [99, 111, 110, 115, 116, 114, 117, 99, 116, 111, 114] ((fnsF Tryz.prog orc 3000).call 81 [.str 13 3125314369571122358686227325735] (hInit tabs)) = true := by kernel_rfl
theorem str1 : strB 13 3125314369571122358686227325735 = ⟨#[39, 99, 111, 110, 115, 116, 114, 117, 99, 116, 111, 114, 39]⟩ := by decide +kernel
theorem units7 : unitsB [112, 114, 111, 116, 111, 116, 121, 112, 101] ((fnsF Tryz.prog orc 3000).call 81 [.str 11 47627140766819149214281767] (hInit tabs)) = true := by kernel_rfl
theorem str7 : strB 11 47627140766819149214281767 = ⟨#[39, 112, 114, 111, 116, 111, 116, 121, 112, 101, 39]⟩ := by decide +kernel
section
variable [Sig]
set_option maxRecDepth 100000 in
theorem units_of {w : World} {l c : Nat} {codes : List Int} (ht : TabsOk w tabs) (hd : (codes.all fun m => !(symB m)) = true) (hr : unitsB codes ((fnsF Tryz.prog orc 3000).call 81 [.str l c] (hInit tabs)) = true) :
    Calls Tryz.prog 81 #[.string (strB l c)] w fun e w' => Keeps w w' ∧ ∃ g off cap, e = .returned (.tuple #[.slice (some ⟨g, off, none⟩) codes.length cap, .int .i64 0]) ∧ ∀ (i : Nat) (m : Int), codes[i]? = some m → w'.cell? ⟨g, off + i, none⟩ = some (.int .i64 m) := by
  rw [fnsF_eq] at hr
  cases hc : (fns Tryz.prog orc 3000).call 81 [.str l c] (hInit tabs) with
  | val v h' =>
    rw [hc] at hr
    unfold unitsB at hr
    split at hr
    · rename_i b off n cap ex z h2 heq
      cases heq
      split at hr
      · rename_i cs el tl ro hb
        rw [Bool.and_eq_true, Bool.and_eq_true] at hr
        obtain ⟨h3, h4, h5⟩ := hr
        have h3 := AV.beqL_eq _ _ h3
        have h4 := Nat.eq_of_beq_eq_true h4
        have h5 := ieq_sound h5
        subst h5
        have ho : Outs ((fns Tryz.prog orc 3000).call 81 [.str l c] (hInit tabs)) := by rw [hc]; trivial
        obtain ⟨-, hcl⟩ := (fns_ok progOk (orc_ok _ ht.b) 3000).call E00 (hInit tabs) w 81 [.str l c] [.string (strB l c)] (start_sim ht) (by simp only [cvL, cv]) ho
        rw [callsIn_wide] at hcl
        refine hcl.mono fun e w' he => ?_
        rw [hc] at he
        obtain ⟨E', u, rfl, tr, S', hv⟩ := he
        refine ⟨S'.keeps, ?_⟩
        simp only [cv, cvL] at hv
        split at hv
        · rename_i us hus
          split at hus
          · rename_i u1 l1 h6 h7
            split at h6
            · rename_i e he
              cases h6
              cases h7
              cases hus
              cases hv
              rw [dec_of rfl, h4]
              refine ⟨_, _, _, rfl, fun i m hm => ?_⟩
              obtain ⟨o, ho2, C, el', fz, rfl, -, -, hC, -⟩ := S'.blk b e _ he hb
              have hi : i < codes.length := (List.getElem?_eq_some_iff.1 hm).1
              have hcs : cs[off + i]? = some (.int .i64 m) := by
                have h10 := congrArg (fun l => l[i]?) h3
                simp only [List.getElem?_map, hm, Option.map_some, List.getElem?_take, List.getElem?_drop] at h10
                rw [if_pos (by omega)] at h10
                exact h10
              obtain ⟨-, u3, h11, h12⟩ := hC _ _ hcs
              simp only [cv, Option.some.injEq] at h11
              rw [dec_of (by simpa using List.all_eq_true.1 hd m (List.mem_of_getElem? hm))] at h11
              subst h11
              rw [cell_of ho2, Nat.add_assoc]
              exact h12
            · cases h6
          · cases hus
        · cases hv
      · cases hr
    · cases hr
  | fail => rw [hc] at hr; cases hr
  | pan _ _ => rw [hc] at hr; cases hr
  | dfr _ _ => rw [hc] at hr; cases hr
set_option maxHeartbeats 4000000 in
set_option maxRecDepth 1000000 in
theorem named1_con {w : World} {b o : Nat} (ht : TabsOk w tabs) (h0 : w.cell? ⟨b, o, none⟩ = some (.int .i64 4)) (h1 : w.cell? ⟨b, o + 1, none⟩ = some (.string ⟨#[39, 99, 111, 110, 115, 116, 114, 117, 99, 116, 111, 114, 39]⟩)) :
    Calls Tryz.prog 67 #[.pointer (some ⟨b, o, none⟩), .string ⟨#[99, 111, 110, 115, 116, 114, 117, 99, 116, 111, 114]⟩] w fun e w' => e = .returned (.bool true) ∧ Keeps w w' := by
  have hU := units_of ht (by rfl) units1
  rw [str1] at hU
  go_enter Tryz.func67, Tryz.ntmps67
  go_wp2_with (go_at_call 81; refine hU.mono ?_; rintro e w1 ⟨hk1, g, off, cap, rfl, hcells⟩)
  go_loopw [42] (fun i wr => ∃ j : Nat, j ≤ 11 ∧ i = .int .i64 j ∧ wr = w1) (fun i _ => 12 - (intm i).toNat)
  case atStart => exact ⟨0, Nat.zero_le _, rfl, rfl⟩
  case round =>
    obtain ⟨j, hj, rfl, rfl⟩ := hrel
    rcases (show j = 0 ∨ j = 1 ∨ j = 2 ∨ j = 3 ∨ j = 4 ∨ j = 5 ∨ j = 6 ∨ j = 7 ∨ j = 8 ∨ j = 9 ∨ j = 10 ∨ j = 11 by omega) with rfl | rfl | rfl | rfl | rfl | rfl | rfl | rfl | rfl | rfl | rfl | rfl
    · have hcj : wr.cell? ⟨g, off, none⟩ = some (.int .i64 99) := hcells 0 99 rfl
      go_wp2
      all_goals first | exact ⟨⟨1, by omega, rfl, trivial⟩, by simp only [intm]; omega⟩ | rfl | (rename_i h; exact absurd h (by decide +kernel))
    · have hcj : wr.cell? ⟨g, off + 1, none⟩ = some (.int .i64 111) := hcells 1 111 rfl
      go_wp2
      all_goals first | exact ⟨⟨2, by omega, rfl, trivial⟩, by simp only [intm]; omega⟩ | rfl | (rename_i h; exact absurd h (by decide +kernel))
    · have hcj : wr.cell? ⟨g, off + 2, none⟩ = some (.int .i64 110) := hcells 2 110 rfl
      go_wp2
      all_goals first | exact ⟨⟨3, by omega, rfl, trivial⟩, by simp only [intm]; omega⟩ | rfl | (rename_i h; exact absurd h (by decide +kernel))
    · have hcj : wr.cell? ⟨g, off + 3, none⟩ = some (.int .i64 115) := hcells 3 115 rfl
      go_wp2
      all_goals first | exact ⟨⟨4, by omega, rfl, trivial⟩, by simp only [intm]; omega⟩ | rfl | (rename_i h; exact absurd h (by decide +kernel))
    · have hcj : wr.cell? ⟨g, off + 4, none⟩ = some (.int .i64 116) := hcells 4 116 rfl
      go_wp2
      all_goals first | exact ⟨⟨5, by omega, rfl, trivial⟩, by simp only [intm]; omega⟩ | rfl | (rename_i h; exact absurd h (by decide +kernel))
    · have hcj : wr.cell? ⟨g, off + 5, none⟩ = some (.int .i64 114) := hcells 5 114 rfl
      go_wp2
      all_goals first | exact ⟨⟨6, by omega, rfl, trivial⟩, by simp only [intm]; omega⟩ | rfl | (rename_i h; exact absurd h (by decide +kernel))
    · have hcj : wr.cell? ⟨g, off + 6, none⟩ = some (.int .i64 117) := hcells 6 117 rfl
      go_wp2
      all_goals first | exact ⟨⟨7, by omega, rfl, trivial⟩, by simp only [intm]; omega⟩ | rfl | (rename_i h; exact absurd h (by decide +kernel))
    · have hcj : wr.cell? ⟨g, off + 7, none⟩ = some (.int .i64 99) := hcells 7 99 rfl
      go_wp2
      all_goals first | exact ⟨⟨8, by omega, rfl, trivial⟩, by simp only [intm]; omega⟩ | rfl | (rename_i h; exact absurd h (by decide +kernel))
    · have hcj : wr.cell? ⟨g, off + 8, none⟩ = some (.int .i64 116) := hcells 8 116 rfl
      go_wp2
      all_goals first | exact ⟨⟨9, by omega, rfl, trivial⟩, by simp only [intm]; omega⟩ | rfl | (rename_i h; exact absurd h (by decide +kernel))
    · have hcj : wr.cell? ⟨g, off + 9, none⟩ = some (.int .i64 111) := hcells 9 111 rfl
      go_wp2
      all_goals first | exact ⟨⟨10, by omega, rfl, trivial⟩, by simp only [intm]; omega⟩ | rfl | (rename_i h; exact absurd h (by decide +kernel))
    · have hcj : wr.cell? ⟨g, off + 10, none⟩ = some (.int .i64 114) := hcells 10 114 rfl
      go_wp2
      all_goals first | exact ⟨⟨11, by omega, rfl, trivial⟩, by simp only [intm]; omega⟩ | rfl | (rename_i h; exact absurd h (by decide +kernel))
    · go_wp2
      go_ret
      exact ⟨rfl, hk1⟩
theorem named1_pro {w : World} {b o : Nat} (ht : TabsOk w tabs) (h0 : w.cell? ⟨b, o, none⟩ = some (.int .i64 4)) (h1 : w.cell? ⟨b, o + 1, none⟩ = some (.string ⟨#[39, 99, 111, 110, 115, 116, 114, 117, 99, 116, 111, 114, 39]⟩)) :
    Calls Tryz.prog 67 #[.pointer (some ⟨b, o, none⟩), .string ⟨#[112, 114, 111, 116, 111, 116, 121, 112, 101]⟩] w fun e w' => e = .returned (.bool false) ∧ Keeps w w' := by
  have hU := units_of ht (by rfl) units1
  rw [str1] at hU
  go_enter Tryz.func67, Tryz.ntmps67
  go_wp2_with (go_at_call 81; refine hU.mono ?_; rintro e w1 ⟨hk1, g, off, cap, rfl, hcells⟩)
  go_ret
  exact ⟨rfl, hk1⟩
theorem named7_con {w : World} {b o : Nat} (ht : TabsOk w tabs) (h0 : w.cell? ⟨b, o, none⟩ = some (.int .i64 4)) (h1 : w.cell? ⟨b, o + 1, none⟩ = some (.string ⟨#[39, 112, 114, 111, 116, 111, 116, 121, 112, 101, 39]⟩)) :
    Calls Tryz.prog 67 #[.pointer (some ⟨b, o, none⟩), .string ⟨#[99, 111, 110, 115, 116, 114, 117, 99, 116, 111, 114]⟩] w fun e w' => e = .returned (.bool false) ∧ Keeps w w' := by
  have hU := units_of ht (by rfl) units7
  rw [str7] at hU
  go_enter Tryz.func67, Tryz.ntmps67
  go_wp2_with (go_at_call 81; refine hU.mono ?_; rintro e w1 ⟨hk1, g, off, cap, rfl, hcells⟩)
  go_ret
  exact ⟨rfl, hk1⟩
set_option maxHeartbeats 4000000 in
set_option maxRecDepth 1000000 in
theorem named7_pro {w : World} {b o : Nat} (ht : TabsOk w tabs) (h0 : w.cell? ⟨b, o, none⟩ = some (.int .i64 4)) (h1 : w.cell? ⟨b, o + 1, none⟩ = some (.string ⟨#[39, 112, 114, 111, 116, 111, 116, 121, 112, 101, 39]⟩)) :
    Calls Tryz.prog 67 #[.pointer (some ⟨b, o, none⟩), .string ⟨#[112, 114, 111, 116, 111, 116, 121, 112, 101]⟩] w fun e w' => e = .returned (.bool true) ∧ Keeps w w' := by
  have hU := units_of ht (by rfl) units7
  rw [str7] at hU
  go_enter Tryz.func67, Tryz.ntmps67
  go_wp2_with (go_at_call 81; refine hU.mono ?_; rintro e w1 ⟨hk1, g, off, cap, rfl, hcells⟩)
  go_loopw [42] (fun i wr => ∃ j : Nat, j ≤ 9 ∧ i = .int .i64 j ∧ wr = w1) (fun i _ => 10 - (intm i).toNat)
  case atStart => exact ⟨0, Nat.zero_le _, rfl, rfl⟩
  case round =>
    obtain ⟨j, hj, rfl, rfl⟩ := hrel
    rcases (show j = 0 ∨ j = 1 ∨ j = 2 ∨ j = 3 ∨ j = 4 ∨ j = 5 ∨ j = 6 ∨ j = 7 ∨ j = 8 ∨ j = 9 by omega) with rfl | rfl | rfl | rfl | rfl | rfl | rfl | rfl | rfl | rfl
    · have hcj : wr.cell? ⟨g, off, none⟩ = some (.int .i64 112) := hcells 0 112 rfl
      go_wp2
      all_goals first | exact ⟨⟨1, by omega, rfl, trivial⟩, by simp only [intm]; omega⟩ | rfl | (rename_i h; exact absurd h (by decide +kernel))
    · have hcj : wr.cell? ⟨g, off + 1, none⟩ = some (.int .i64 114) := hcells 1 114 rfl
      go_wp2
      all_goals first | exact ⟨⟨2, by omega, rfl, trivial⟩, by simp only [intm]; omega⟩ | rfl | (rename_i h; exact absurd h (by decide +kernel))
    · have hcj : wr.cell? ⟨g, off + 2, none⟩ = some (.int .i64 111) := hcells 2 111 rfl
      go_wp2
      all_goals first | exact ⟨⟨3, by omega, rfl, trivial⟩, by simp only [intm]; omega⟩ | rfl | (rename_i h; exact absurd h (by decide +kernel))
    · have hcj : wr.cell? ⟨g, off + 3, none⟩ = some (.int .i64 116) := hcells 3 116 rfl
      go_wp2
      all_goals first | exact ⟨⟨4, by omega, rfl, trivial⟩, by simp only [intm]; omega⟩ | rfl | (rename_i h; exact absurd h (by decide +kernel))
    · have hcj : wr.cell? ⟨g, off + 4, none⟩ = some (.int .i64 111) := hcells 4 111 rfl
      go_wp2
      all_goals first | exact ⟨⟨5, by omega, rfl, trivial⟩, by simp only [intm]; omega⟩ | rfl | (rename_i h; exact absurd h (by decide +kernel))
    · have hcj : wr.cell? ⟨g, off + 5, none⟩ = some (.int .i64 116) := hcells 5 116 rfl
      go_wp2
      all_goals first | exact ⟨⟨6, by omega, rfl, trivial⟩, by simp only [intm]; omega⟩ | rfl | (rename_i h; exact absurd h (by decide +kernel))
    · have hcj : wr.cell? ⟨g, off + 6, none⟩ = some (.int .i64 121) := hcells 6 121 rfl
      go_wp2
      all_goals first | exact ⟨⟨7, by omega, rfl, trivial⟩, by simp only [intm]; omega⟩ | rfl | (rename_i h; exact absurd h (by decide +kernel))
    · have hcj : wr.cell? ⟨g, off + 7, none⟩ = some (.int .i64 112) := hcells 7 112 rfl
      go_wp2
      all_goals first | exact ⟨⟨8, by omega, rfl, trivial⟩, by simp only [intm]; omega⟩ | rfl | (rename_i h; exact absurd h (by decide +kernel))
    · have hcj : wr.cell? ⟨g, off + 8, none⟩ = some (.int .i64 101) := hcells 8 101 rfl
      go_wp2
      all_goals first | exact ⟨⟨9, by omega, rfl, trivial⟩, by simp only [intm]; omega⟩ | rfl | (rename_i h; exact absurd h (by decide +kernel))
    · go_wp2
      go_ret
      exact ⟨rfl, hk1⟩
end
theorem keepsAlloc {w w1 : World} (h : Keeps w w1) (o : Obj) : Keeps w (w1.alloc o) := h.trans (Keeps.alloc _ _)
/-- what a member's look asks of the calls below, by its shape -/
structure MFacts (w : World) (k b' o' : Nat) : Prop where
  cut : ∀ w', Calls Tryz.prog 125 #[.string (bs (shT k)), .string (bs [115, 116, 97, 116, 105, 99])] w' fun e w2 => e = .returned (.tuple #[.string (bs (shR k)), .bool (shS k)]) ∧ w2 = w'
  trim : ∀ w', Calls Tryz.prog 126 #[.string (bs (shR k)), .string (bs [32])] w' fun e w2 => e = .returned (.string (bs (shM k))) ∧ w2 = w'
  con : ∀ w', Keeps w w' → Calls Tryz.prog 67 #[.pointer (some ⟨b', o', none⟩), .string (bs [99, 111, 110, 115, 116, 114, 117, 99, 116, 111, 114])] w' fun e w2 => e = .returned (.bool (shC k)) ∧ Keeps w' w2
  pro : ∀ w', Keeps w w' → Calls Tryz.prog 67 #[.pointer (some ⟨b', o', none⟩), .string (bs [112, 114, 111, 116, 111, 116, 121, 112, 101])] w' fun e w2 => e = .returned (.bool (shP k)) ∧ Keeps w' w2
section
variable [Sig]
theorem mfacts0 {w : World} {b' o' : Nat} (ht : TabsOk w tabs) (k3 : b' < w.heap.size) (k4 : w.cell? ⟨b', o', none⟩ = some (.int .i64 1)) (k6 : w.cell? ⟨b', o' + 1, none⟩ = some (.string (bs [99, 111, 110, 115, 116, 114, 117, 99, 116, 111, 114]))) : MFacts w 0 b' o' :=
  ⟨fun w' => (cut_calls (bs []) (bs [115, 116, 97, 116, 105, 99]) w').mono fun e w2 ⟨h1, h2⟩ => ⟨h1.trans (by kernel_rfl), h2⟩,
   fun w' => (trim_calls (bs []) (bs [32]) w').mono fun e w2 ⟨h1, h2⟩ => ⟨h1.trans (by kernel_rfl), h2⟩,
   fun w' hk => (named_ident (s := bs [99, 111, 110, 115, 116, 114, 117, 99, 116, 111, 114]) (p := bs [99, 111, 110, 115, 116, 114, 117, 99, 116, 111, 114]) ((keepsCell hk (p := ⟨b', o', none⟩) k3).trans k4) ((keepsCell hk (p := ⟨b', o' + 1, none⟩) k3).trans k6)).mono fun e w2 ⟨h1, h2⟩ => ⟨h1.trans (by kernel_rfl), by rw [h2]; exact Keeps.refl _⟩,
   fun w' hk => (named_ident (s := bs [99, 111, 110, 115, 116, 114, 117, 99, 116, 111, 114]) (p := bs [112, 114, 111, 116, 111, 116, 121, 112, 101]) ((keepsCell hk (p := ⟨b', o', none⟩) k3).trans k4) ((keepsCell hk (p := ⟨b', o' + 1, none⟩) k3).trans k6)).mono fun e w2 ⟨h1, h2⟩ => ⟨h1.trans (by kernel_rfl), by rw [h2]; exact Keeps.refl _⟩⟩
theorem mfacts1 {w : World} {b' o' : Nat} (ht : TabsOk w tabs) (k3 : b' < w.heap.size) (k4 : w.cell? ⟨b', o', none⟩ = some (.int .i64 4)) (k6 : w.cell? ⟨b', o' + 1, none⟩ = some (.string (bs [39, 99, 111, 110, 115, 116, 114, 117, 99, 116, 111, 114, 39]))) : MFacts w 1 b' o' :=
  ⟨fun w' => (cut_calls (bs []) (bs [115, 116, 97, 116, 105, 99]) w').mono fun e w2 ⟨h1, h2⟩ => ⟨h1.trans (by kernel_rfl), h2⟩,
   fun w' => (trim_calls (bs []) (bs [32]) w').mono fun e w2 ⟨h1, h2⟩ => ⟨h1.trans (by kernel_rfl), h2⟩,
   fun w' hk => named1_con (ht.keeps hk) ((keepsCell hk (p := ⟨b', o', none⟩) k3).trans k4) ((keepsCell hk (p := ⟨b', o' + 1, none⟩) k3).trans k6),
   fun w' hk => named1_pro (ht.keeps hk) ((keepsCell hk (p := ⟨b', o', none⟩) k3).trans k4) ((keepsCell hk (p := ⟨b', o' + 1, none⟩) k3).trans k6)⟩
theorem mfacts2 {w : World} {b' o' : Nat} (ht : TabsOk w tabs) (k3 : b' < w.heap.size) (k4 : w.cell? ⟨b', o', none⟩ = some (.int .i64 1)) (k6 : w.cell? ⟨b', o' + 1, none⟩ = some (.string (bs [99, 111, 110, 115, 116, 114, 117, 99, 116, 111, 114]))) : MFacts w 2 b' o' :=
  ⟨fun w' => (cut_calls (bs [103, 101, 116]) (bs [115, 116, 97, 116, 105, 99]) w').mono fun e w2 ⟨h1, h2⟩ => ⟨h1.trans (by kernel_rfl), h2⟩,
   fun w' => (trim_calls (bs [103, 101, 116]) (bs [32]) w').mono fun e w2 ⟨h1, h2⟩ => ⟨h1.trans (by kernel_rfl), h2⟩,
   fun w' hk => (named_ident (s := bs [99, 111, 110, 115, 116, 114, 117, 99, 116, 111, 114]) (p := bs [99, 111, 110, 115, 116, 114, 117, 99, 116, 111, 114]) ((keepsCell hk (p := ⟨b', o', none⟩) k3).trans k4) ((keepsCell hk (p := ⟨b', o' + 1, none⟩) k3).trans k6)).mono fun e w2 ⟨h1, h2⟩ => ⟨h1.trans (by kernel_rfl), by rw [h2]; exact Keeps.refl _⟩,
   fun w' hk => (named_ident (s := bs [99, 111, 110, 115, 116, 114, 117, 99, 116, 111, 114]) (p := bs [112, 114, 111, 116, 111, 116, 121, 112, 101]) ((keepsCell hk (p := ⟨b', o', none⟩) k3).trans k4) ((keepsCell hk (p := ⟨b', o' + 1, none⟩) k3).trans k6)).mono fun e w2 ⟨h1, h2⟩ => ⟨h1.trans (by kernel_rfl), by rw [h2]; exact Keeps.refl _⟩⟩
theorem mfacts3 {w : World} {b' o' : Nat} (ht : TabsOk w tabs) (k3 : b' < w.heap.size) (k4 : w.cell? ⟨b', o', none⟩ = some (.int .i64 1)) (k6 : w.cell? ⟨b', o' + 1, none⟩ = some (.string (bs [99, 111, 110, 115, 116, 114, 117, 99, 116, 111, 114]))) : MFacts w 3 b' o' :=
  ⟨fun w' => (cut_calls (bs [42]) (bs [115, 116, 97, 116, 105, 99]) w').mono fun e w2 ⟨h1, h2⟩ => ⟨h1.trans (by kernel_rfl), h2⟩,
   fun w' => (trim_calls (bs [42]) (bs [32]) w').mono fun e w2 ⟨h1, h2⟩ => ⟨h1.trans (by kernel_rfl), h2⟩,
   fun w' hk => (named_ident (s := bs [99, 111, 110, 115, 116, 114, 117, 99, 116, 111, 114]) (p := bs [99, 111, 110, 115, 116, 114, 117, 99, 116, 111, 114]) ((keepsCell hk (p := ⟨b', o', none⟩) k3).trans k4) ((keepsCell hk (p := ⟨b', o' + 1, none⟩) k3).trans k6)).mono fun e w2 ⟨h1, h2⟩ => ⟨h1.trans (by kernel_rfl), by rw [h2]; exact Keeps.refl _⟩,
   fun w' hk => (named_ident (s := bs [99, 111, 110, 115, 116, 114, 117, 99, 116, 111, 114]) (p := bs [112, 114, 111, 116, 111, 116, 121, 112, 101]) ((keepsCell hk (p := ⟨b', o', none⟩) k3).trans k4) ((keepsCell hk (p := ⟨b', o' + 1, none⟩) k3).trans k6)).mono fun e w2 ⟨h1, h2⟩ => ⟨h1.trans (by kernel_rfl), by rw [h2]; exact Keeps.refl _⟩⟩
theorem mfacts4 {w : World} {b' o' : Nat} (ht : TabsOk w tabs) (k3 : b' < w.heap.size) (k4 : w.cell? ⟨b', o', none⟩ = some (.int .i64 1)) (k6 : w.cell? ⟨b', o' + 1, none⟩ = some (.string (bs [99, 111, 110, 115, 116, 114, 117, 99, 116, 111, 114]))) : MFacts w 4 b' o' :=
  ⟨fun w' => (cut_calls (bs []) (bs [115, 116, 97, 116, 105, 99]) w').mono fun e w2 ⟨h1, h2⟩ => ⟨h1.trans (by kernel_rfl), h2⟩,
   fun w' => (trim_calls (bs []) (bs [32]) w').mono fun e w2 ⟨h1, h2⟩ => ⟨h1.trans (by kernel_rfl), h2⟩,
   fun w' hk => (named_ident (s := bs [99, 111, 110, 115, 116, 114, 117, 99, 116, 111, 114]) (p := bs [99, 111, 110, 115, 116, 114, 117, 99, 116, 111, 114]) ((keepsCell hk (p := ⟨b', o', none⟩) k3).trans k4) ((keepsCell hk (p := ⟨b', o' + 1, none⟩) k3).trans k6)).mono fun e w2 ⟨h1, h2⟩ => ⟨h1.trans (by kernel_rfl), by rw [h2]; exact Keeps.refl _⟩,
   fun w' hk => (named_ident (s := bs [99, 111, 110, 115, 116, 114, 117, 99, 116, 111, 114]) (p := bs [112, 114, 111, 116, 111, 116, 121, 112, 101]) ((keepsCell hk (p := ⟨b', o', none⟩) k3).trans k4) ((keepsCell hk (p := ⟨b', o' + 1, none⟩) k3).trans k6)).mono fun e w2 ⟨h1, h2⟩ => ⟨h1.trans (by kernel_rfl), by rw [h2]; exact Keeps.refl _⟩⟩
theorem mfacts5 {w : World} {b' o' : Nat} (ht : TabsOk w tabs) (k3 : b' < w.heap.size) (k4 : w.cell? ⟨b', o', none⟩ = some (.int .i64 1)) (k6 : w.cell? ⟨b', o' + 1, none⟩ = some (.string (bs [99, 111, 110, 115, 116, 114, 117, 99, 116, 111, 114]))) : MFacts w 5 b' o' :=
  ⟨fun w' => (cut_calls (bs [115, 116, 97, 116, 105, 99]) (bs [115, 116, 97, 116, 105, 99]) w').mono fun e w2 ⟨h1, h2⟩ => ⟨h1.trans (by kernel_rfl), h2⟩,
   fun w' => (trim_calls (bs []) (bs [32]) w').mono fun e w2 ⟨h1, h2⟩ => ⟨h1.trans (by kernel_rfl), h2⟩,
   fun w' hk => (named_ident (s := bs [99, 111, 110, 115, 116, 114, 117, 99, 116, 111, 114]) (p := bs [99, 111, 110, 115, 116, 114, 117, 99, 116, 111, 114]) ((keepsCell hk (p := ⟨b', o', none⟩) k3).trans k4) ((keepsCell hk (p := ⟨b', o' + 1, none⟩) k3).trans k6)).mono fun e w2 ⟨h1, h2⟩ => ⟨h1.trans (by kernel_rfl), by rw [h2]; exact Keeps.refl _⟩,
   fun w' hk => (named_ident (s := bs [99, 111, 110, 115, 116, 114, 117, 99, 116, 111, 114]) (p := bs [112, 114, 111, 116, 111, 116, 121, 112, 101]) ((keepsCell hk (p := ⟨b', o', none⟩) k3).trans k4) ((keepsCell hk (p := ⟨b', o' + 1, none⟩) k3).trans k6)).mono fun e w2 ⟨h1, h2⟩ => ⟨h1.trans (by kernel_rfl), by rw [h2]; exact Keeps.refl _⟩⟩
theorem mfacts6 {w : World} {b' o' : Nat} (ht : TabsOk w tabs) (k3 : b' < w.heap.size) (k4 : w.cell? ⟨b', o', none⟩ = some (.int .i64 1)) (k6 : w.cell? ⟨b', o' + 1, none⟩ = some (.string (bs [112, 114, 111, 116, 111, 116, 121, 112, 101]))) : MFacts w 6 b' o' :=
  ⟨fun w' => (cut_calls (bs [115, 116, 97, 116, 105, 99]) (bs [115, 116, 97, 116, 105, 99]) w').mono fun e w2 ⟨h1, h2⟩ => ⟨h1.trans (by kernel_rfl), h2⟩,
   fun w' => (trim_calls (bs []) (bs [32]) w').mono fun e w2 ⟨h1, h2⟩ => ⟨h1.trans (by kernel_rfl), h2⟩,
   fun w' hk => (named_ident (s := bs [112, 114, 111, 116, 111, 116, 121, 112, 101]) (p := bs [99, 111, 110, 115, 116, 114, 117, 99, 116, 111, 114]) ((keepsCell hk (p := ⟨b', o', none⟩) k3).trans k4) ((keepsCell hk (p := ⟨b', o' + 1, none⟩) k3).trans k6)).mono fun e w2 ⟨h1, h2⟩ => ⟨h1.trans (by kernel_rfl), by rw [h2]; exact Keeps.refl _⟩,
   fun w' hk => (named_ident (s := bs [112, 114, 111, 116, 111, 116, 121, 112, 101]) (p := bs [112, 114, 111, 116, 111, 116, 121, 112, 101]) ((keepsCell hk (p := ⟨b', o', none⟩) k3).trans k4) ((keepsCell hk (p := ⟨b', o' + 1, none⟩) k3).trans k6)).mono fun e w2 ⟨h1, h2⟩ => ⟨h1.trans (by kernel_rfl), by rw [h2]; exact Keeps.refl _⟩⟩
theorem mfacts7 {w : World} {b' o' : Nat} (ht : TabsOk w tabs) (k3 : b' < w.heap.size) (k4 : w.cell? ⟨b', o', none⟩ = some (.int .i64 4)) (k6 : w.cell? ⟨b', o' + 1, none⟩ = some (.string (bs [39, 112, 114, 111, 116, 111, 116, 121, 112, 101, 39]))) : MFacts w 7 b' o' :=
  ⟨fun w' => (cut_calls (bs [115, 116, 97, 116, 105, 99]) (bs [115, 116, 97, 116, 105, 99]) w').mono fun e w2 ⟨h1, h2⟩ => ⟨h1.trans (by kernel_rfl), h2⟩,
   fun w' => (trim_calls (bs []) (bs [32]) w').mono fun e w2 ⟨h1, h2⟩ => ⟨h1.trans (by kernel_rfl), h2⟩,
   fun w' hk => named7_con (ht.keeps hk) ((keepsCell hk (p := ⟨b', o', none⟩) k3).trans k4) ((keepsCell hk (p := ⟨b', o' + 1, none⟩) k3).trans k6),
   fun w' hk => named7_pro (ht.keeps hk) ((keepsCell hk (p := ⟨b', o', none⟩) k3).trans k4) ((keepsCell hk (p := ⟨b', o' + 1, none⟩) k3).trans k6)⟩
theorem mfacts8 {w : World} {b' o' : Nat} (ht : TabsOk w tabs) (k3 : b' < w.heap.size) (k4 : w.cell? ⟨b', o', none⟩ = some (.int .i64 1)) (k6 : w.cell? ⟨b', o' + 1, none⟩ = some (.string (bs [112, 114, 111, 116, 111, 116, 121, 112, 101]))) : MFacts w 8 b' o' :=
  ⟨fun w' => (cut_calls (bs []) (bs [115, 116, 97, 116, 105, 99]) w').mono fun e w2 ⟨h1, h2⟩ => ⟨h1.trans (by kernel_rfl), h2⟩,
   fun w' => (trim_calls (bs []) (bs [32]) w').mono fun e w2 ⟨h1, h2⟩ => ⟨h1.trans (by kernel_rfl), h2⟩,
   fun w' hk => (named_ident (s := bs [112, 114, 111, 116, 111, 116, 121, 112, 101]) (p := bs [99, 111, 110, 115, 116, 114, 117, 99, 116, 111, 114]) ((keepsCell hk (p := ⟨b', o', none⟩) k3).trans k4) ((keepsCell hk (p := ⟨b', o' + 1, none⟩) k3).trans k6)).mono fun e w2 ⟨h1, h2⟩ => ⟨h1.trans (by kernel_rfl), by rw [h2]; exact Keeps.refl _⟩,
   fun w' hk => (named_ident (s := bs [112, 114, 111, 116, 111, 116, 121, 112, 101]) (p := bs [112, 114, 111, 116, 111, 116, 121, 112, 101]) ((keepsCell hk (p := ⟨b', o', none⟩) k3).trans k4) ((keepsCell hk (p := ⟨b', o' + 1, none⟩) k3).trans k6)).mono fun e w2 ⟨h1, h2⟩ => ⟨h1.trans (by kernel_rfl), by rw [h2]; exact Keeps.refl _⟩⟩
theorem mfacts9 {w : World} {b' o' : Nat} (ht : TabsOk w tabs) (k3 : b' < w.heap.size) (k4 : w.cell? ⟨b', o', none⟩ = some (.int .i64 14))  : MFacts w 9 b' o' :=
  ⟨fun w' => (cut_calls (bs []) (bs [115, 116, 97, 116, 105, 99]) w').mono fun e w2 ⟨h1, h2⟩ => ⟨h1.trans (by kernel_rfl), h2⟩,
   fun w' => (trim_calls (bs []) (bs [32]) w').mono fun e w2 ⟨h1, h2⟩ => ⟨h1.trans (by kernel_rfl), h2⟩,
   fun w' hk => (named_other (p := bs [99, 111, 110, 115, 116, 114, 117, 99, 116, 111, 114]) ((keepsCell hk (p := ⟨b', o', none⟩) k3).trans k4)).mono fun e w2 ⟨h1, h2⟩ => ⟨h1, by rw [h2]; exact Keeps.refl _⟩,
   fun w' hk => (named_other (p := bs [112, 114, 111, 116, 111, 116, 121, 112, 101]) ((keepsCell hk (p := ⟨b', o', none⟩) k3).trans k4)).mono fun e w2 ⟨h1, h2⟩ => ⟨h1, by rw [h2]; exact Keeps.refl _⟩⟩
theorem mfacts10 {w : World} {b' o' : Nat} (ht : TabsOk w tabs) (k3 : b' < w.heap.size) (k4 : w.cell? ⟨b', o', none⟩ = some (.int .i64 1)) (k6 : w.cell? ⟨b', o' + 1, none⟩ = some (.string (bs [99, 111, 110, 115, 116, 114, 117, 99, 116, 111, 114]))) : MFacts w 10 b' o' :=
  ⟨fun w' => (cut_calls (bs [115, 116, 97, 116, 105, 99, 32, 103, 101, 116]) (bs [115, 116, 97, 116, 105, 99]) w').mono fun e w2 ⟨h1, h2⟩ => ⟨h1.trans (by kernel_rfl), h2⟩,
   fun w' => (trim_calls (bs [32, 103, 101, 116]) (bs [32]) w').mono fun e w2 ⟨h1, h2⟩ => ⟨h1.trans (by kernel_rfl), h2⟩,
   fun w' hk => (named_ident (s := bs [99, 111, 110, 115, 116, 114, 117, 99, 116, 111, 114]) (p := bs [99, 111, 110, 115, 116, 114, 117, 99, 116, 111, 114]) ((keepsCell hk (p := ⟨b', o', none⟩) k3).trans k4) ((keepsCell hk (p := ⟨b', o' + 1, none⟩) k3).trans k6)).mono fun e w2 ⟨h1, h2⟩ => ⟨h1.trans (by kernel_rfl), by rw [h2]; exact Keeps.refl _⟩,
   fun w' hk => (named_ident (s := bs [99, 111, 110, 115, 116, 114, 117, 99, 116, 111, 114]) (p := bs [112, 114, 111, 116, 111, 116, 121, 112, 101]) ((keepsCell hk (p := ⟨b', o', none⟩) k3).trans k4) ((keepsCell hk (p := ⟨b', o' + 1, none⟩) k3).trans k6)).mono fun e w2 ⟨h1, h2⟩ => ⟨h1.trans (by kernel_rfl), by rw [h2]; exact Keeps.refl _⟩⟩
theorem mfacts11 {w : World} {b' o' : Nat} (ht : TabsOk w tabs) (k3 : b' < w.heap.size) (k4 : w.cell? ⟨b', o', none⟩ = some (.int .i64 1)) (k6 : w.cell? ⟨b', o' + 1, none⟩ = some (.string (bs [120]))) : MFacts w 11 b' o' :=
  ⟨fun w' => (cut_calls (bs []) (bs [115, 116, 97, 116, 105, 99]) w').mono fun e w2 ⟨h1, h2⟩ => ⟨h1.trans (by kernel_rfl), h2⟩,
   fun w' => (trim_calls (bs []) (bs [32]) w').mono fun e w2 ⟨h1, h2⟩ => ⟨h1.trans (by kernel_rfl), h2⟩,
   fun w' hk => (named_ident (s := bs [120]) (p := bs [99, 111, 110, 115, 116, 114, 117, 99, 116, 111, 114]) ((keepsCell hk (p := ⟨b', o', none⟩) k3).trans k4) ((keepsCell hk (p := ⟨b', o' + 1, none⟩) k3).trans k6)).mono fun e w2 ⟨h1, h2⟩ => ⟨h1.trans (by kernel_rfl), by rw [h2]; exact Keeps.refl _⟩,
   fun w' hk => (named_ident (s := bs [120]) (p := bs [112, 114, 111, 116, 111, 116, 121, 112, 101]) ((keepsCell hk (p := ⟨b', o', none⟩) k3).trans k4) ((keepsCell hk (p := ⟨b', o' + 1, none⟩) k3).trans k6)).mono fun e w2 ⟨h1, h2⟩ => ⟨h1.trans (by kernel_rfl), by rw [h2]; exact Keeps.refl _⟩⟩
end
set_option maxHeartbeats 0 in
set_option maxRecDepth 1000000 in
theorem members_any {w : World} {nb no cap : Nat} {a : Option Addr} {ks : List Nat} (h12 : ∀ k ∈ ks, k < 12) (hlen : ks.length ≤ 1000) (hnb : nb < w.heap.size) (hc : w.cell? ⟨nb, no + 2, none⟩ = some (.slice a ks.length cap))
    (hk : ∀ j k, ks[j]? = some k → ∃ b off, a = some ⟨b, off, none⟩ ∧ MKid w b (off + j * 5) k ∧ ∀ b' o' len cap, w.cell? ⟨b, off + j * 5 + 2, none⟩ = some (.slice (some ⟨b', o', none⟩) len cap) → MFacts w k b' o') :
    Calls Tryz.prog 66 #[.pointer (some ⟨nb, no, none⟩)] w fun e w' => Keeps w w' ∧ (okM false ks = true ∧ e = .returned (.tuple #[]) ∨
      okM false ks = false ∧ ∃ f j b off, j < ks.length ∧ a = some ⟨b, off, none⟩ ∧ w.cell? ⟨b, off + j * 5 + 3, none⟩ = some (.int .i64 f) ∧ e = .panicked [{ v := .iface 47 (.agg #[.int .i64 1211, .int .i64 f]), recovered := false }]) := by
  go_enter Tryz.func66, Tryz.ntmps66
  go_wp2
  rw [run_makeMap]
  go_wp2
  go_loopw [3, 19] (fun c i wr => ∃ (j : Nat) (one : Bool), j ≤ ks.length ∧ c = .int .i64 (if one then 1 else 0) ∧ i = .int .i64 j ∧ okM false ks = okM one (ks.drop j) ∧ Keeps w wr) (fun _ i _ => ks.length + 1 - (intm i).toNat)
  case atStart => exact ⟨0, false, Nat.zero_le _, rfl, rfl, rfl, keepsAlloc (Keeps.refl _) _⟩
  case round =>
    obtain ⟨j, one, hj, rfl, rfl, hok, hkw⟩ := hrel
    by_cases hlt : j < ks.length
    · obtain ⟨k, hkj⟩ : ∃ k, ks[j]? = some k := ⟨_, List.getElem?_eq_getElem hlt⟩
      obtain ⟨b, off, rfl, hM, hF⟩ := hk j k hkj
      obtain ⟨m1, m2, m3, ⟨b', o', ln, cp, k1, k2, k3, k4, ⟨s, k5⟩, k6⟩, f, m5⟩ := hM
      have F := hF b' o' ln cp k2
      have i1 : (j : Int) < (ks.length : Int) := by omega
      have i2 : (0 : Int) ≤ (j : Int) := by omega
      have i3 : ((j : Int)).toNat = j := by omega
      have i4 : IntKind.i64.wrap ((j : Int) + 1) = (j : Int) + 1 := IntWalk.i64_in _ (by omega)
      have hb1 : b < wr.heap.size := Nat.lt_of_lt_of_le m1 hkw.size
      have hb2 : b' < wr.heap.size := Nat.lt_of_lt_of_le k3 hkw.size
      have hb3 : nb < wr.heap.size := Nat.lt_of_lt_of_le hnb hkw.size
      have hcell : ∀ w', Keeps w w' → w'.cell? ⟨b, off + j * 5, none⟩ = some (.int .i64 (shK k)) ∧ w'.cell? ⟨b, off + j * 5 + 1, none⟩ = some (.string (bs (shT k))) ∧ w'.cell? ⟨b, off + j * 5 + 2, none⟩ = some (.slice (some ⟨b', o', none⟩) ln cp) ∧ w'.cell? ⟨b, off + j * 5 + 3, none⟩ = some (.int .i64 f) ∧ w'.cell? ⟨b', o', none⟩ = some (.int .i64 (shK0 k)) ∧ w'.cell? ⟨nb, no + 2, none⟩ = some (.slice (some ⟨b, off, none⟩) ks.length cap) := fun w' h =>
        ⟨(keepsCell h (p := ⟨b, off + j * 5, none⟩) m1).trans m2, (keepsCell h (p := ⟨b, off + j * 5 + 1, none⟩) m1).trans m3, (keepsCell h (p := ⟨b, off + j * 5 + 2, none⟩) m1).trans k2, (keepsCell h (p := ⟨b, off + j * 5 + 3, none⟩) m1).trans m5, (keepsCell h (p := ⟨b', o', none⟩) k3).trans k4, (keepsCell h (p := ⟨nb, no + 2, none⟩) hnb).trans hc⟩
      obtain ⟨f0, f1, f2, f3, f4, f5⟩ := hcell wr hkw
      clear m2 m3 k2 k4 k5 k6 hc hF hk
      have hd : ks.drop j = k :: ks.drop (j + 1) := by
        have h1 : k = ks[j] := by rw [List.getElem?_eq_getElem hlt] at hkj; exact (Option.some.inj hkj).symm
        rw [h1]; exact List.drop_eq_getElem_cons hlt
      rw [hd] at hok
      have hk12 := h12 k (List.mem_of_getElem? hkj)
      rcases kinds12 hk12 with rfl | rfl | rfl | rfl | rfl | rfl | rfl | rfl | rfl | rfl | rfl | rfl
      · cases one with
        | false =>
          as_aux_lemma =>
          simp only [shK, shT, shK0] at f0 f1 f4
          obtain ⟨F1, F2, F3, F4⟩ := F
          simp only [shT, shR, shS, shM, shC, shP] at F1 F2 F3 F4
          go_wp2_with (first
            | (go_at_call 44; refine (kid_any k1 f2).mono ?_; rintro e w1 ⟨rfl, rfl⟩)
            | (go_at_call 125; refine (F1 _).mono ?_; rintro e w1 ⟨rfl, rfl⟩)
            | (go_at_call 126; refine (F2 _).mono ?_; rintro e w1 ⟨rfl, rfl⟩)
            | (go_at_call 67; refine (F4 _ hK2).mono ?_; rintro e w3 ⟨rfl, hk3⟩; have hK3 : Keeps w w3 := hK2.trans hk3; obtain ⟨q0, q1, q2, q3, q4, q5⟩ := hcell w3 hK3; simp only [shK, shT, shK0] at q0 q1 q4)
            | (go_at_call 67; refine (F3 _ (by with_reducible first | exact keepsAlloc hkw _ | exact keepsSet (keepsAlloc hkw _) hkw.size _ | exact keepsSet (keepsSet (keepsAlloc hkw _) hkw.size _) hkw.size _)).mono ?_; rintro e w2 ⟨rfl, hk2⟩; have hK2 : Keeps w w2 := Keeps.trans (by with_reducible first | exact keepsAlloc hkw _ | exact keepsSet (keepsAlloc hkw _) hkw.size _ | exact keepsSet (keepsSet (keepsAlloc hkw _) hkw.size _) hkw.size _) hk2; obtain ⟨g0, g1, g2, g3, g4, g5⟩ := hcell w2 hK2; simp only [shK, shT, shK0] at g0 g1 g4)
            | (go_at_call 35; refine (fail_any _ _ _).mono ?_; rintro e w4 ⟨rfl, rfl⟩))
          all_goals first
            | exact ⟨⟨j + 1, true, by omega, rfl, congrArg (Value.int .i64) (by omega), hok.trans (by simp [okM]), (by first | exact hK3 | exact hK2 | exact hkw)⟩, by simp only [intm]; omega⟩
            | exact ⟨rfl, (by first | exact hK3 | exact hK2 | exact hkw), .inr ⟨hok.trans (by simp [okM]), f, j, b, off, hlt, rfl, m5, rfl⟩⟩
        | true =>
          as_aux_lemma =>
          simp only [shK, shT, shK0] at f0 f1 f4
          obtain ⟨F1, F2, F3, F4⟩ := F
          simp only [shT, shR, shS, shM, shC, shP] at F1 F2 F3 F4
          go_wp2_with (first
            | (go_at_call 44; refine (kid_any k1 f2).mono ?_; rintro e w1 ⟨rfl, rfl⟩)
            | (go_at_call 125; refine (F1 _).mono ?_; rintro e w1 ⟨rfl, rfl⟩)
            | (go_at_call 126; refine (F2 _).mono ?_; rintro e w1 ⟨rfl, rfl⟩)
            | (go_at_call 67; refine (F4 _ hK2).mono ?_; rintro e w3 ⟨rfl, hk3⟩; have hK3 : Keeps w w3 := hK2.trans hk3; obtain ⟨q0, q1, q2, q3, q4, q5⟩ := hcell w3 hK3; simp only [shK, shT, shK0] at q0 q1 q4)
            | (go_at_call 67; refine (F3 _ (by with_reducible first | exact keepsAlloc hkw _ | exact keepsSet (keepsAlloc hkw _) hkw.size _ | exact keepsSet (keepsSet (keepsAlloc hkw _) hkw.size _) hkw.size _)).mono ?_; rintro e w2 ⟨rfl, hk2⟩; have hK2 : Keeps w w2 := Keeps.trans (by with_reducible first | exact keepsAlloc hkw _ | exact keepsSet (keepsAlloc hkw _) hkw.size _ | exact keepsSet (keepsSet (keepsAlloc hkw _) hkw.size _) hkw.size _) hk2; obtain ⟨g0, g1, g2, g3, g4, g5⟩ := hcell w2 hK2; simp only [shK, shT, shK0] at g0 g1 g4)
            | (go_at_call 35; refine (fail_any _ _ _).mono ?_; rintro e w4 ⟨rfl, rfl⟩))
          all_goals first
            | exact ⟨⟨j + 1, true, by omega, rfl, congrArg (Value.int .i64) (by omega), hok.trans (by simp [okM]), (by first | exact hK3 | exact hK2 | exact hkw)⟩, by simp only [intm]; omega⟩
            | exact ⟨rfl, (by first | exact hK3 | exact hK2 | exact hkw), .inr ⟨hok.trans (by simp [okM]), f, j, b, off, hlt, rfl, m5, rfl⟩⟩
      · cases one with
        | false =>
          as_aux_lemma =>
          simp only [shK, shT, shK0] at f0 f1 f4
          obtain ⟨F1, F2, F3, F4⟩ := F
          simp only [shT, shR, shS, shM, shC, shP] at F1 F2 F3 F4
          go_wp2_with (first
            | (go_at_call 44; refine (kid_any k1 f2).mono ?_; rintro e w1 ⟨rfl, rfl⟩)
            | (go_at_call 125; refine (F1 _).mono ?_; rintro e w1 ⟨rfl, rfl⟩)
            | (go_at_call 126; refine (F2 _).mono ?_; rintro e w1 ⟨rfl, rfl⟩)
            | (go_at_call 67; refine (F4 _ hK2).mono ?_; rintro e w3 ⟨rfl, hk3⟩; have hK3 : Keeps w w3 := hK2.trans hk3; obtain ⟨q0, q1, q2, q3, q4, q5⟩ := hcell w3 hK3; simp only [shK, shT, shK0] at q0 q1 q4)
            | (go_at_call 67; refine (F3 _ (by with_reducible first | exact keepsAlloc hkw _ | exact keepsSet (keepsAlloc hkw _) hkw.size _ | exact keepsSet (keepsSet (keepsAlloc hkw _) hkw.size _) hkw.size _)).mono ?_; rintro e w2 ⟨rfl, hk2⟩; have hK2 : Keeps w w2 := Keeps.trans (by with_reducible first | exact keepsAlloc hkw _ | exact keepsSet (keepsAlloc hkw _) hkw.size _ | exact keepsSet (keepsSet (keepsAlloc hkw _) hkw.size _) hkw.size _) hk2; obtain ⟨g0, g1, g2, g3, g4, g5⟩ := hcell w2 hK2; simp only [shK, shT, shK0] at g0 g1 g4)
            | (go_at_call 35; refine (fail_any _ _ _).mono ?_; rintro e w4 ⟨rfl, rfl⟩))
          all_goals first
            | exact ⟨⟨j + 1, true, by omega, rfl, congrArg (Value.int .i64) (by omega), hok.trans (by simp [okM]), (by first | exact hK3 | exact hK2 | exact hkw)⟩, by simp only [intm]; omega⟩
            | exact ⟨rfl, (by first | exact hK3 | exact hK2 | exact hkw), .inr ⟨hok.trans (by simp [okM]), f, j, b, off, hlt, rfl, m5, rfl⟩⟩
        | true =>
          as_aux_lemma =>
          simp only [shK, shT, shK0] at f0 f1 f4
          obtain ⟨F1, F2, F3, F4⟩ := F
          simp only [shT, shR, shS, shM, shC, shP] at F1 F2 F3 F4
          go_wp2_with (first
            | (go_at_call 44; refine (kid_any k1 f2).mono ?_; rintro e w1 ⟨rfl, rfl⟩)
            | (go_at_call 125; refine (F1 _).mono ?_; rintro e w1 ⟨rfl, rfl⟩)
            | (go_at_call 126; refine (F2 _).mono ?_; rintro e w1 ⟨rfl, rfl⟩)
            | (go_at_call 67; refine (F4 _ hK2).mono ?_; rintro e w3 ⟨rfl, hk3⟩; have hK3 : Keeps w w3 := hK2.trans hk3; obtain ⟨q0, q1, q2, q3, q4, q5⟩ := hcell w3 hK3; simp only [shK, shT, shK0] at q0 q1 q4)
            | (go_at_call 67; refine (F3 _ (by with_reducible first | exact keepsAlloc hkw _ | exact keepsSet (keepsAlloc hkw _) hkw.size _ | exact keepsSet (keepsSet (keepsAlloc hkw _) hkw.size _) hkw.size _)).mono ?_; rintro e w2 ⟨rfl, hk2⟩; have hK2 : Keeps w w2 := Keeps.trans (by with_reducible first | exact keepsAlloc hkw _ | exact keepsSet (keepsAlloc hkw _) hkw.size _ | exact keepsSet (keepsSet (keepsAlloc hkw _) hkw.size _) hkw.size _) hk2; obtain ⟨g0, g1, g2, g3, g4, g5⟩ := hcell w2 hK2; simp only [shK, shT, shK0] at g0 g1 g4)
            | (go_at_call 35; refine (fail_any _ _ _).mono ?_; rintro e w4 ⟨rfl, rfl⟩))
          all_goals first
            | exact ⟨⟨j + 1, true, by omega, rfl, congrArg (Value.int .i64) (by omega), hok.trans (by simp [okM]), (by first | exact hK3 | exact hK2 | exact hkw)⟩, by simp only [intm]; omega⟩
            | exact ⟨rfl, (by first | exact hK3 | exact hK2 | exact hkw), .inr ⟨hok.trans (by simp [okM]), f, j, b, off, hlt, rfl, m5, rfl⟩⟩
      · cases one with
        | false =>
          as_aux_lemma =>
          simp only [shK, shT, shK0] at f0 f1 f4
          obtain ⟨F1, F2, F3, F4⟩ := F
          simp only [shT, shR, shS, shM, shC, shP] at F1 F2 F3 F4
          go_wp2_with (first
            | (go_at_call 44; refine (kid_any k1 f2).mono ?_; rintro e w1 ⟨rfl, rfl⟩)
            | (go_at_call 125; refine (F1 _).mono ?_; rintro e w1 ⟨rfl, rfl⟩)
            | (go_at_call 126; refine (F2 _).mono ?_; rintro e w1 ⟨rfl, rfl⟩)
            | (go_at_call 67; refine (F4 _ hK2).mono ?_; rintro e w3 ⟨rfl, hk3⟩; have hK3 : Keeps w w3 := hK2.trans hk3; obtain ⟨q0, q1, q2, q3, q4, q5⟩ := hcell w3 hK3; simp only [shK, shT, shK0] at q0 q1 q4)
            | (go_at_call 67; refine (F3 _ (by with_reducible first | exact keepsAlloc hkw _ | exact keepsSet (keepsAlloc hkw _) hkw.size _ | exact keepsSet (keepsSet (keepsAlloc hkw _) hkw.size _) hkw.size _)).mono ?_; rintro e w2 ⟨rfl, hk2⟩; have hK2 : Keeps w w2 := Keeps.trans (by with_reducible first | exact keepsAlloc hkw _ | exact keepsSet (keepsAlloc hkw _) hkw.size _ | exact keepsSet (keepsSet (keepsAlloc hkw _) hkw.size _) hkw.size _) hk2; obtain ⟨g0, g1, g2, g3, g4, g5⟩ := hcell w2 hK2; simp only [shK, shT, shK0] at g0 g1 g4)
            | (go_at_call 35; refine (fail_any _ _ _).mono ?_; rintro e w4 ⟨rfl, rfl⟩))
          all_goals first
            | exact ⟨⟨j + 1, false, by omega, rfl, congrArg (Value.int .i64) (by omega), hok.trans (by simp [okM]), (by first | exact hK3 | exact hK2 | exact hkw)⟩, by simp only [intm]; omega⟩
            | exact ⟨rfl, (by first | exact hK3 | exact hK2 | exact hkw), .inr ⟨hok.trans (by simp [okM]), f, j, b, off, hlt, rfl, m5, rfl⟩⟩
        | true =>
          as_aux_lemma =>
          simp only [shK, shT, shK0] at f0 f1 f4
          obtain ⟨F1, F2, F3, F4⟩ := F
          simp only [shT, shR, shS, shM, shC, shP] at F1 F2 F3 F4
          go_wp2_with (first
            | (go_at_call 44; refine (kid_any k1 f2).mono ?_; rintro e w1 ⟨rfl, rfl⟩)
            | (go_at_call 125; refine (F1 _).mono ?_; rintro e w1 ⟨rfl, rfl⟩)
            | (go_at_call 126; refine (F2 _).mono ?_; rintro e w1 ⟨rfl, rfl⟩)
            | (go_at_call 67; refine (F4 _ hK2).mono ?_; rintro e w3 ⟨rfl, hk3⟩; have hK3 : Keeps w w3 := hK2.trans hk3; obtain ⟨q0, q1, q2, q3, q4, q5⟩ := hcell w3 hK3; simp only [shK, shT, shK0] at q0 q1 q4)
            | (go_at_call 67; refine (F3 _ (by with_reducible first | exact keepsAlloc hkw _ | exact keepsSet (keepsAlloc hkw _) hkw.size _ | exact keepsSet (keepsSet (keepsAlloc hkw _) hkw.size _) hkw.size _)).mono ?_; rintro e w2 ⟨rfl, hk2⟩; have hK2 : Keeps w w2 := Keeps.trans (by with_reducible first | exact keepsAlloc hkw _ | exact keepsSet (keepsAlloc hkw _) hkw.size _ | exact keepsSet (keepsSet (keepsAlloc hkw _) hkw.size _) hkw.size _) hk2; obtain ⟨g0, g1, g2, g3, g4, g5⟩ := hcell w2 hK2; simp only [shK, shT, shK0] at g0 g1 g4)
            | (go_at_call 35; refine (fail_any _ _ _).mono ?_; rintro e w4 ⟨rfl, rfl⟩))
          all_goals first
            | exact ⟨⟨j + 1, true, by omega, rfl, congrArg (Value.int .i64) (by omega), hok.trans (by simp [okM]), (by first | exact hK3 | exact hK2 | exact hkw)⟩, by simp only [intm]; omega⟩
            | exact ⟨rfl, (by first | exact hK3 | exact hK2 | exact hkw), .inr ⟨hok.trans (by simp [okM]), f, j, b, off, hlt, rfl, m5, rfl⟩⟩
      · cases one with
        | false =>
          as_aux_lemma =>
          simp only [shK, shT, shK0] at f0 f1 f4
          obtain ⟨F1, F2, F3, F4⟩ := F
          simp only [shT, shR, shS, shM, shC, shP] at F1 F2 F3 F4
          go_wp2_with (first
            | (go_at_call 44; refine (kid_any k1 f2).mono ?_; rintro e w1 ⟨rfl, rfl⟩)
            | (go_at_call 125; refine (F1 _).mono ?_; rintro e w1 ⟨rfl, rfl⟩)
            | (go_at_call 126; refine (F2 _).mono ?_; rintro e w1 ⟨rfl, rfl⟩)
            | (go_at_call 67; refine (F4 _ hK2).mono ?_; rintro e w3 ⟨rfl, hk3⟩; have hK3 : Keeps w w3 := hK2.trans hk3; obtain ⟨q0, q1, q2, q3, q4, q5⟩ := hcell w3 hK3; simp only [shK, shT, shK0] at q0 q1 q4)
            | (go_at_call 67; refine (F3 _ (by with_reducible first | exact keepsAlloc hkw _ | exact keepsSet (keepsAlloc hkw _) hkw.size _ | exact keepsSet (keepsSet (keepsAlloc hkw _) hkw.size _) hkw.size _)).mono ?_; rintro e w2 ⟨rfl, hk2⟩; have hK2 : Keeps w w2 := Keeps.trans (by with_reducible first | exact keepsAlloc hkw _ | exact keepsSet (keepsAlloc hkw _) hkw.size _ | exact keepsSet (keepsSet (keepsAlloc hkw _) hkw.size _) hkw.size _) hk2; obtain ⟨g0, g1, g2, g3, g4, g5⟩ := hcell w2 hK2; simp only [shK, shT, shK0] at g0 g1 g4)
            | (go_at_call 35; refine (fail_any _ _ _).mono ?_; rintro e w4 ⟨rfl, rfl⟩))
          all_goals first
            | exact ⟨⟨j + 1, false, by omega, rfl, congrArg (Value.int .i64) (by omega), hok.trans (by simp [okM]), (by first | exact hK3 | exact hK2 | exact hkw)⟩, by simp only [intm]; omega⟩
            | exact ⟨rfl, (by first | exact hK3 | exact hK2 | exact hkw), .inr ⟨hok.trans (by simp [okM]), f, j, b, off, hlt, rfl, m5, rfl⟩⟩
        | true =>
          as_aux_lemma =>
          simp only [shK, shT, shK0] at f0 f1 f4
          obtain ⟨F1, F2, F3, F4⟩ := F
          simp only [shT, shR, shS, shM, shC, shP] at F1 F2 F3 F4
          go_wp2_with (first
            | (go_at_call 44; refine (kid_any k1 f2).mono ?_; rintro e w1 ⟨rfl, rfl⟩)
            | (go_at_call 125; refine (F1 _).mono ?_; rintro e w1 ⟨rfl, rfl⟩)
            | (go_at_call 126; refine (F2 _).mono ?_; rintro e w1 ⟨rfl, rfl⟩)
            | (go_at_call 67; refine (F4 _ hK2).mono ?_; rintro e w3 ⟨rfl, hk3⟩; have hK3 : Keeps w w3 := hK2.trans hk3; obtain ⟨q0, q1, q2, q3, q4, q5⟩ := hcell w3 hK3; simp only [shK, shT, shK0] at q0 q1 q4)
            | (go_at_call 67; refine (F3 _ (by with_reducible first | exact keepsAlloc hkw _ | exact keepsSet (keepsAlloc hkw _) hkw.size _ | exact keepsSet (keepsSet (keepsAlloc hkw _) hkw.size _) hkw.size _)).mono ?_; rintro e w2 ⟨rfl, hk2⟩; have hK2 : Keeps w w2 := Keeps.trans (by with_reducible first | exact keepsAlloc hkw _ | exact keepsSet (keepsAlloc hkw _) hkw.size _ | exact keepsSet (keepsSet (keepsAlloc hkw _) hkw.size _) hkw.size _) hk2; obtain ⟨g0, g1, g2, g3, g4, g5⟩ := hcell w2 hK2; simp only [shK, shT, shK0] at g0 g1 g4)
            | (go_at_call 35; refine (fail_any _ _ _).mono ?_; rintro e w4 ⟨rfl, rfl⟩))
          all_goals first
            | exact ⟨⟨j + 1, true, by omega, rfl, congrArg (Value.int .i64) (by omega), hok.trans (by simp [okM]), (by first | exact hK3 | exact hK2 | exact hkw)⟩, by simp only [intm]; omega⟩
            | exact ⟨rfl, (by first | exact hK3 | exact hK2 | exact hkw), .inr ⟨hok.trans (by simp [okM]), f, j, b, off, hlt, rfl, m5, rfl⟩⟩
      · cases one with
        | false =>
          as_aux_lemma =>
          simp only [shK, shT, shK0] at f0 f1 f4
          obtain ⟨F1, F2, F3, F4⟩ := F
          simp only [shT, shR, shS, shM, shC, shP] at F1 F2 F3 F4
          go_wp2_with (first
            | (go_at_call 44; refine (kid_any k1 f2).mono ?_; rintro e w1 ⟨rfl, rfl⟩)
            | (go_at_call 125; refine (F1 _).mono ?_; rintro e w1 ⟨rfl, rfl⟩)
            | (go_at_call 126; refine (F2 _).mono ?_; rintro e w1 ⟨rfl, rfl⟩)
            | (go_at_call 67; refine (F4 _ hK2).mono ?_; rintro e w3 ⟨rfl, hk3⟩; have hK3 : Keeps w w3 := hK2.trans hk3; obtain ⟨q0, q1, q2, q3, q4, q5⟩ := hcell w3 hK3; simp only [shK, shT, shK0] at q0 q1 q4)
            | (go_at_call 67; refine (F3 _ (by with_reducible first | exact keepsAlloc hkw _ | exact keepsSet (keepsAlloc hkw _) hkw.size _ | exact keepsSet (keepsSet (keepsAlloc hkw _) hkw.size _) hkw.size _)).mono ?_; rintro e w2 ⟨rfl, hk2⟩; have hK2 : Keeps w w2 := Keeps.trans (by with_reducible first | exact keepsAlloc hkw _ | exact keepsSet (keepsAlloc hkw _) hkw.size _ | exact keepsSet (keepsSet (keepsAlloc hkw _) hkw.size _) hkw.size _) hk2; obtain ⟨g0, g1, g2, g3, g4, g5⟩ := hcell w2 hK2; simp only [shK, shT, shK0] at g0 g1 g4)
            | (go_at_call 35; refine (fail_any _ _ _).mono ?_; rintro e w4 ⟨rfl, rfl⟩))
          all_goals first
            | exact ⟨⟨j + 1, false, by omega, rfl, congrArg (Value.int .i64) (by omega), hok.trans (by simp [okM]), (by first | exact hK3 | exact hK2 | exact hkw)⟩, by simp only [intm]; omega⟩
            | exact ⟨rfl, (by first | exact hK3 | exact hK2 | exact hkw), .inr ⟨hok.trans (by simp [okM]), f, j, b, off, hlt, rfl, m5, rfl⟩⟩
        | true =>
          as_aux_lemma =>
          simp only [shK, shT, shK0] at f0 f1 f4
          obtain ⟨F1, F2, F3, F4⟩ := F
          simp only [shT, shR, shS, shM, shC, shP] at F1 F2 F3 F4
          go_wp2_with (first
            | (go_at_call 44; refine (kid_any k1 f2).mono ?_; rintro e w1 ⟨rfl, rfl⟩)
            | (go_at_call 125; refine (F1 _).mono ?_; rintro e w1 ⟨rfl, rfl⟩)
            | (go_at_call 126; refine (F2 _).mono ?_; rintro e w1 ⟨rfl, rfl⟩)
            | (go_at_call 67; refine (F4 _ hK2).mono ?_; rintro e w3 ⟨rfl, hk3⟩; have hK3 : Keeps w w3 := hK2.trans hk3; obtain ⟨q0, q1, q2, q3, q4, q5⟩ := hcell w3 hK3; simp only [shK, shT, shK0] at q0 q1 q4)
            | (go_at_call 67; refine (F3 _ (by with_reducible first | exact keepsAlloc hkw _ | exact keepsSet (keepsAlloc hkw _) hkw.size _ | exact keepsSet (keepsSet (keepsAlloc hkw _) hkw.size _) hkw.size _)).mono ?_; rintro e w2 ⟨rfl, hk2⟩; have hK2 : Keeps w w2 := Keeps.trans (by with_reducible first | exact keepsAlloc hkw _ | exact keepsSet (keepsAlloc hkw _) hkw.size _ | exact keepsSet (keepsSet (keepsAlloc hkw _) hkw.size _) hkw.size _) hk2; obtain ⟨g0, g1, g2, g3, g4, g5⟩ := hcell w2 hK2; simp only [shK, shT, shK0] at g0 g1 g4)
            | (go_at_call 35; refine (fail_any _ _ _).mono ?_; rintro e w4 ⟨rfl, rfl⟩))
          all_goals first
            | exact ⟨⟨j + 1, true, by omega, rfl, congrArg (Value.int .i64) (by omega), hok.trans (by simp [okM]), (by first | exact hK3 | exact hK2 | exact hkw)⟩, by simp only [intm]; omega⟩
            | exact ⟨rfl, (by first | exact hK3 | exact hK2 | exact hkw), .inr ⟨hok.trans (by simp [okM]), f, j, b, off, hlt, rfl, m5, rfl⟩⟩
      · cases one with
        | false =>
          as_aux_lemma =>
          simp only [shK, shT, shK0] at f0 f1 f4
          obtain ⟨F1, F2, F3, F4⟩ := F
          simp only [shT, shR, shS, shM, shC, shP] at F1 F2 F3 F4
          go_wp2_with (first
            | (go_at_call 44; refine (kid_any k1 f2).mono ?_; rintro e w1 ⟨rfl, rfl⟩)
            | (go_at_call 125; refine (F1 _).mono ?_; rintro e w1 ⟨rfl, rfl⟩)
            | (go_at_call 126; refine (F2 _).mono ?_; rintro e w1 ⟨rfl, rfl⟩)
            | (go_at_call 67; refine (F4 _ hK2).mono ?_; rintro e w3 ⟨rfl, hk3⟩; have hK3 : Keeps w w3 := hK2.trans hk3; obtain ⟨q0, q1, q2, q3, q4, q5⟩ := hcell w3 hK3; simp only [shK, shT, shK0] at q0 q1 q4)
            | (go_at_call 67; refine (F3 _ (by with_reducible first | exact keepsAlloc hkw _ | exact keepsSet (keepsAlloc hkw _) hkw.size _ | exact keepsSet (keepsSet (keepsAlloc hkw _) hkw.size _) hkw.size _)).mono ?_; rintro e w2 ⟨rfl, hk2⟩; have hK2 : Keeps w w2 := Keeps.trans (by with_reducible first | exact keepsAlloc hkw _ | exact keepsSet (keepsAlloc hkw _) hkw.size _ | exact keepsSet (keepsSet (keepsAlloc hkw _) hkw.size _) hkw.size _) hk2; obtain ⟨g0, g1, g2, g3, g4, g5⟩ := hcell w2 hK2; simp only [shK, shT, shK0] at g0 g1 g4)
            | (go_at_call 35; refine (fail_any _ _ _).mono ?_; rintro e w4 ⟨rfl, rfl⟩))
          all_goals first
            | exact ⟨⟨j + 1, false, by omega, rfl, congrArg (Value.int .i64) (by omega), hok.trans (by simp [okM]), (by first | exact hK3 | exact hK2 | exact hkw)⟩, by simp only [intm]; omega⟩
            | exact ⟨rfl, (by first | exact hK3 | exact hK2 | exact hkw), .inr ⟨hok.trans (by simp [okM]), f, j, b, off, hlt, rfl, m5, rfl⟩⟩
        | true =>
          as_aux_lemma =>
          simp only [shK, shT, shK0] at f0 f1 f4
          obtain ⟨F1, F2, F3, F4⟩ := F
          simp only [shT, shR, shS, shM, shC, shP] at F1 F2 F3 F4
          go_wp2_with (first
            | (go_at_call 44; refine (kid_any k1 f2).mono ?_; rintro e w1 ⟨rfl, rfl⟩)
            | (go_at_call 125; refine (F1 _).mono ?_; rintro e w1 ⟨rfl, rfl⟩)
            | (go_at_call 126; refine (F2 _).mono ?_; rintro e w1 ⟨rfl, rfl⟩)
            | (go_at_call 67; refine (F4 _ hK2).mono ?_; rintro e w3 ⟨rfl, hk3⟩; have hK3 : Keeps w w3 := hK2.trans hk3; obtain ⟨q0, q1, q2, q3, q4, q5⟩ := hcell w3 hK3; simp only [shK, shT, shK0] at q0 q1 q4)
            | (go_at_call 67; refine (F3 _ (by with_reducible first | exact keepsAlloc hkw _ | exact keepsSet (keepsAlloc hkw _) hkw.size _ | exact keepsSet (keepsSet (keepsAlloc hkw _) hkw.size _) hkw.size _)).mono ?_; rintro e w2 ⟨rfl, hk2⟩; have hK2 : Keeps w w2 := Keeps.trans (by with_reducible first | exact keepsAlloc hkw _ | exact keepsSet (keepsAlloc hkw _) hkw.size _ | exact keepsSet (keepsSet (keepsAlloc hkw _) hkw.size _) hkw.size _) hk2; obtain ⟨g0, g1, g2, g3, g4, g5⟩ := hcell w2 hK2; simp only [shK, shT, shK0] at g0 g1 g4)
            | (go_at_call 35; refine (fail_any _ _ _).mono ?_; rintro e w4 ⟨rfl, rfl⟩))
          all_goals first
            | exact ⟨⟨j + 1, true, by omega, rfl, congrArg (Value.int .i64) (by omega), hok.trans (by simp [okM]), (by first | exact hK3 | exact hK2 | exact hkw)⟩, by simp only [intm]; omega⟩
            | exact ⟨rfl, (by first | exact hK3 | exact hK2 | exact hkw), .inr ⟨hok.trans (by simp [okM]), f, j, b, off, hlt, rfl, m5, rfl⟩⟩
      · cases one with
        | false =>
          as_aux_lemma =>
          simp only [shK, shT, shK0] at f0 f1 f4
          obtain ⟨F1, F2, F3, F4⟩ := F
          simp only [shT, shR, shS, shM, shC, shP] at F1 F2 F3 F4
          go_wp2_with (first
            | (go_at_call 44; refine (kid_any k1 f2).mono ?_; rintro e w1 ⟨rfl, rfl⟩)
            | (go_at_call 125; refine (F1 _).mono ?_; rintro e w1 ⟨rfl, rfl⟩)
            | (go_at_call 126; refine (F2 _).mono ?_; rintro e w1 ⟨rfl, rfl⟩)
            | (go_at_call 67; refine (F4 _ hK2).mono ?_; rintro e w3 ⟨rfl, hk3⟩; have hK3 : Keeps w w3 := hK2.trans hk3; obtain ⟨q0, q1, q2, q3, q4, q5⟩ := hcell w3 hK3; simp only [shK, shT, shK0] at q0 q1 q4)
            | (go_at_call 67; refine (F3 _ (by with_reducible first | exact keepsAlloc hkw _ | exact keepsSet (keepsAlloc hkw _) hkw.size _ | exact keepsSet (keepsSet (keepsAlloc hkw _) hkw.size _) hkw.size _)).mono ?_; rintro e w2 ⟨rfl, hk2⟩; have hK2 : Keeps w w2 := Keeps.trans (by with_reducible first | exact keepsAlloc hkw _ | exact keepsSet (keepsAlloc hkw _) hkw.size _ | exact keepsSet (keepsSet (keepsAlloc hkw _) hkw.size _) hkw.size _) hk2; obtain ⟨g0, g1, g2, g3, g4, g5⟩ := hcell w2 hK2; simp only [shK, shT, shK0] at g0 g1 g4)
            | (go_at_call 35; refine (fail_any _ _ _).mono ?_; rintro e w4 ⟨rfl, rfl⟩))
          all_goals first
            | exact ⟨⟨j + 1, false, by omega, rfl, congrArg (Value.int .i64) (by omega), hok.trans (by simp [okM]), (by first | exact hK3 | exact hK2 | exact hkw)⟩, by simp only [intm]; omega⟩
            | exact ⟨rfl, (by first | exact hK3 | exact hK2 | exact hkw), .inr ⟨hok.trans (by simp [okM]), f, j, b, off, hlt, rfl, m5, rfl⟩⟩
        | true =>
          as_aux_lemma =>
          simp only [shK, shT, shK0] at f0 f1 f4
          obtain ⟨F1, F2, F3, F4⟩ := F
          simp only [shT, shR, shS, shM, shC, shP] at F1 F2 F3 F4
          go_wp2_with (first
            | (go_at_call 44; refine (kid_any k1 f2).mono ?_; rintro e w1 ⟨rfl, rfl⟩)
            | (go_at_call 125; refine (F1 _).mono ?_; rintro e w1 ⟨rfl, rfl⟩)
            | (go_at_call 126; refine (F2 _).mono ?_; rintro e w1 ⟨rfl, rfl⟩)
            | (go_at_call 67; refine (F4 _ hK2).mono ?_; rintro e w3 ⟨rfl, hk3⟩; have hK3 : Keeps w w3 := hK2.trans hk3; obtain ⟨q0, q1, q2, q3, q4, q5⟩ := hcell w3 hK3; simp only [shK, shT, shK0] at q0 q1 q4)
            | (go_at_call 67; refine (F3 _ (by with_reducible first | exact keepsAlloc hkw _ | exact keepsSet (keepsAlloc hkw _) hkw.size _ | exact keepsSet (keepsSet (keepsAlloc hkw _) hkw.size _) hkw.size _)).mono ?_; rintro e w2 ⟨rfl, hk2⟩; have hK2 : Keeps w w2 := Keeps.trans (by with_reducible first | exact keepsAlloc hkw _ | exact keepsSet (keepsAlloc hkw _) hkw.size _ | exact keepsSet (keepsSet (keepsAlloc hkw _) hkw.size _) hkw.size _) hk2; obtain ⟨g0, g1, g2, g3, g4, g5⟩ := hcell w2 hK2; simp only [shK, shT, shK0] at g0 g1 g4)
            | (go_at_call 35; refine (fail_any _ _ _).mono ?_; rintro e w4 ⟨rfl, rfl⟩))
          all_goals first
            | exact ⟨⟨j + 1, true, by omega, rfl, congrArg (Value.int .i64) (by omega), hok.trans (by simp [okM]), (by first | exact hK3 | exact hK2 | exact hkw)⟩, by simp only [intm]; omega⟩
            | exact ⟨rfl, (by first | exact hK3 | exact hK2 | exact hkw), .inr ⟨hok.trans (by simp [okM]), f, j, b, off, hlt, rfl, m5, rfl⟩⟩
      · cases one with
        | false =>
          as_aux_lemma =>
          simp only [shK, shT, shK0] at f0 f1 f4
          obtain ⟨F1, F2, F3, F4⟩ := F
          simp only [shT, shR, shS, shM, shC, shP] at F1 F2 F3 F4
          go_wp2_with (first
            | (go_at_call 44; refine (kid_any k1 f2).mono ?_; rintro e w1 ⟨rfl, rfl⟩)
            | (go_at_call 125; refine (F1 _).mono ?_; rintro e w1 ⟨rfl, rfl⟩)
            | (go_at_call 126; refine (F2 _).mono ?_; rintro e w1 ⟨rfl, rfl⟩)
            | (go_at_call 67; refine (F4 _ hK2).mono ?_; rintro e w3 ⟨rfl, hk3⟩; have hK3 : Keeps w w3 := hK2.trans hk3; obtain ⟨q0, q1, q2, q3, q4, q5⟩ := hcell w3 hK3; simp only [shK, shT, shK0] at q0 q1 q4)
            | (go_at_call 67; refine (F3 _ (by with_reducible first | exact keepsAlloc hkw _ | exact keepsSet (keepsAlloc hkw _) hkw.size _ | exact keepsSet (keepsSet (keepsAlloc hkw _) hkw.size _) hkw.size _)).mono ?_; rintro e w2 ⟨rfl, hk2⟩; have hK2 : Keeps w w2 := Keeps.trans (by with_reducible first | exact keepsAlloc hkw _ | exact keepsSet (keepsAlloc hkw _) hkw.size _ | exact keepsSet (keepsSet (keepsAlloc hkw _) hkw.size _) hkw.size _) hk2; obtain ⟨g0, g1, g2, g3, g4, g5⟩ := hcell w2 hK2; simp only [shK, shT, shK0] at g0 g1 g4)
            | (go_at_call 35; refine (fail_any _ _ _).mono ?_; rintro e w4 ⟨rfl, rfl⟩))
          all_goals first
            | exact ⟨⟨j + 1, false, by omega, rfl, congrArg (Value.int .i64) (by omega), hok.trans (by simp [okM]), (by first | exact hK3 | exact hK2 | exact hkw)⟩, by simp only [intm]; omega⟩
            | exact ⟨rfl, (by first | exact hK3 | exact hK2 | exact hkw), .inr ⟨hok.trans (by simp [okM]), f, j, b, off, hlt, rfl, m5, rfl⟩⟩
        | true =>
          as_aux_lemma =>
          simp only [shK, shT, shK0] at f0 f1 f4
          obtain ⟨F1, F2, F3, F4⟩ := F
          simp only [shT, shR, shS, shM, shC, shP] at F1 F2 F3 F4
          go_wp2_with (first
            | (go_at_call 44; refine (kid_any k1 f2).mono ?_; rintro e w1 ⟨rfl, rfl⟩)
            | (go_at_call 125; refine (F1 _).mono ?_; rintro e w1 ⟨rfl, rfl⟩)
            | (go_at_call 126; refine (F2 _).mono ?_; rintro e w1 ⟨rfl, rfl⟩)
            | (go_at_call 67; refine (F4 _ hK2).mono ?_; rintro e w3 ⟨rfl, hk3⟩; have hK3 : Keeps w w3 := hK2.trans hk3; obtain ⟨q0, q1, q2, q3, q4, q5⟩ := hcell w3 hK3; simp only [shK, shT, shK0] at q0 q1 q4)
            | (go_at_call 67; refine (F3 _ (by with_reducible first | exact keepsAlloc hkw _ | exact keepsSet (keepsAlloc hkw _) hkw.size _ | exact keepsSet (keepsSet (keepsAlloc hkw _) hkw.size _) hkw.size _)).mono ?_; rintro e w2 ⟨rfl, hk2⟩; have hK2 : Keeps w w2 := Keeps.trans (by with_reducible first | exact keepsAlloc hkw _ | exact keepsSet (keepsAlloc hkw _) hkw.size _ | exact keepsSet (keepsSet (keepsAlloc hkw _) hkw.size _) hkw.size _) hk2; obtain ⟨g0, g1, g2, g3, g4, g5⟩ := hcell w2 hK2; simp only [shK, shT, shK0] at g0 g1 g4)
            | (go_at_call 35; refine (fail_any _ _ _).mono ?_; rintro e w4 ⟨rfl, rfl⟩))
          all_goals first
            | exact ⟨⟨j + 1, true, by omega, rfl, congrArg (Value.int .i64) (by omega), hok.trans (by simp [okM]), (by first | exact hK3 | exact hK2 | exact hkw)⟩, by simp only [intm]; omega⟩
            | exact ⟨rfl, (by first | exact hK3 | exact hK2 | exact hkw), .inr ⟨hok.trans (by simp [okM]), f, j, b, off, hlt, rfl, m5, rfl⟩⟩
      · cases one with
        | false =>
          as_aux_lemma =>
          simp only [shK, shT, shK0] at f0 f1 f4
          obtain ⟨F1, F2, F3, F4⟩ := F
          simp only [shT, shR, shS, shM, shC, shP] at F1 F2 F3 F4
          go_wp2_with (first
            | (go_at_call 44; refine (kid_any k1 f2).mono ?_; rintro e w1 ⟨rfl, rfl⟩)
            | (go_at_call 125; refine (F1 _).mono ?_; rintro e w1 ⟨rfl, rfl⟩)
            | (go_at_call 126; refine (F2 _).mono ?_; rintro e w1 ⟨rfl, rfl⟩)
            | (go_at_call 67; refine (F4 _ hK2).mono ?_; rintro e w3 ⟨rfl, hk3⟩; have hK3 : Keeps w w3 := hK2.trans hk3; obtain ⟨q0, q1, q2, q3, q4, q5⟩ := hcell w3 hK3; simp only [shK, shT, shK0] at q0 q1 q4)
            | (go_at_call 67; refine (F3 _ (by with_reducible first | exact keepsAlloc hkw _ | exact keepsSet (keepsAlloc hkw _) hkw.size _ | exact keepsSet (keepsSet (keepsAlloc hkw _) hkw.size _) hkw.size _)).mono ?_; rintro e w2 ⟨rfl, hk2⟩; have hK2 : Keeps w w2 := Keeps.trans (by with_reducible first | exact keepsAlloc hkw _ | exact keepsSet (keepsAlloc hkw _) hkw.size _ | exact keepsSet (keepsSet (keepsAlloc hkw _) hkw.size _) hkw.size _) hk2; obtain ⟨g0, g1, g2, g3, g4, g5⟩ := hcell w2 hK2; simp only [shK, shT, shK0] at g0 g1 g4)
            | (go_at_call 35; refine (fail_any _ _ _).mono ?_; rintro e w4 ⟨rfl, rfl⟩))
          all_goals first
            | exact ⟨⟨j + 1, false, by omega, rfl, congrArg (Value.int .i64) (by omega), hok.trans (by simp [okM]), (by first | exact hK3 | exact hK2 | exact hkw)⟩, by simp only [intm]; omega⟩
            | exact ⟨rfl, (by first | exact hK3 | exact hK2 | exact hkw), .inr ⟨hok.trans (by simp [okM]), f, j, b, off, hlt, rfl, m5, rfl⟩⟩
        | true =>
          as_aux_lemma =>
          simp only [shK, shT, shK0] at f0 f1 f4
          obtain ⟨F1, F2, F3, F4⟩ := F
          simp only [shT, shR, shS, shM, shC, shP] at F1 F2 F3 F4
          go_wp2_with (first
            | (go_at_call 44; refine (kid_any k1 f2).mono ?_; rintro e w1 ⟨rfl, rfl⟩)
            | (go_at_call 125; refine (F1 _).mono ?_; rintro e w1 ⟨rfl, rfl⟩)
            | (go_at_call 126; refine (F2 _).mono ?_; rintro e w1 ⟨rfl, rfl⟩)
            | (go_at_call 67; refine (F4 _ hK2).mono ?_; rintro e w3 ⟨rfl, hk3⟩; have hK3 : Keeps w w3 := hK2.trans hk3; obtain ⟨q0, q1, q2, q3, q4, q5⟩ := hcell w3 hK3; simp only [shK, shT, shK0] at q0 q1 q4)
            | (go_at_call 67; refine (F3 _ (by with_reducible first | exact keepsAlloc hkw _ | exact keepsSet (keepsAlloc hkw _) hkw.size _ | exact keepsSet (keepsSet (keepsAlloc hkw _) hkw.size _) hkw.size _)).mono ?_; rintro e w2 ⟨rfl, hk2⟩; have hK2 : Keeps w w2 := Keeps.trans (by with_reducible first | exact keepsAlloc hkw _ | exact keepsSet (keepsAlloc hkw _) hkw.size _ | exact keepsSet (keepsSet (keepsAlloc hkw _) hkw.size _) hkw.size _) hk2; obtain ⟨g0, g1, g2, g3, g4, g5⟩ := hcell w2 hK2; simp only [shK, shT, shK0] at g0 g1 g4)
            | (go_at_call 35; refine (fail_any _ _ _).mono ?_; rintro e w4 ⟨rfl, rfl⟩))
          all_goals first
            | exact ⟨⟨j + 1, true, by omega, rfl, congrArg (Value.int .i64) (by omega), hok.trans (by simp [okM]), (by first | exact hK3 | exact hK2 | exact hkw)⟩, by simp only [intm]; omega⟩
            | exact ⟨rfl, (by first | exact hK3 | exact hK2 | exact hkw), .inr ⟨hok.trans (by simp [okM]), f, j, b, off, hlt, rfl, m5, rfl⟩⟩
      · cases one with
        | false =>
          as_aux_lemma =>
          simp only [shK, shT, shK0] at f0 f1 f4
          obtain ⟨F1, F2, F3, F4⟩ := F
          simp only [shT, shR, shS, shM, shC, shP] at F1 F2 F3 F4
          go_wp2_with (first
            | (go_at_call 44; refine (kid_any k1 f2).mono ?_; rintro e w1 ⟨rfl, rfl⟩)
            | (go_at_call 125; refine (F1 _).mono ?_; rintro e w1 ⟨rfl, rfl⟩)
            | (go_at_call 126; refine (F2 _).mono ?_; rintro e w1 ⟨rfl, rfl⟩)
            | (go_at_call 67; refine (F4 _ hK2).mono ?_; rintro e w3 ⟨rfl, hk3⟩; have hK3 : Keeps w w3 := hK2.trans hk3; obtain ⟨q0, q1, q2, q3, q4, q5⟩ := hcell w3 hK3; simp only [shK, shT, shK0] at q0 q1 q4)
            | (go_at_call 67; refine (F3 _ (by with_reducible first | exact keepsAlloc hkw _ | exact keepsSet (keepsAlloc hkw _) hkw.size _ | exact keepsSet (keepsSet (keepsAlloc hkw _) hkw.size _) hkw.size _)).mono ?_; rintro e w2 ⟨rfl, hk2⟩; have hK2 : Keeps w w2 := Keeps.trans (by with_reducible first | exact keepsAlloc hkw _ | exact keepsSet (keepsAlloc hkw _) hkw.size _ | exact keepsSet (keepsSet (keepsAlloc hkw _) hkw.size _) hkw.size _) hk2; obtain ⟨g0, g1, g2, g3, g4, g5⟩ := hcell w2 hK2; simp only [shK, shT, shK0] at g0 g1 g4)
            | (go_at_call 35; refine (fail_any _ _ _).mono ?_; rintro e w4 ⟨rfl, rfl⟩))
          all_goals first
            | exact ⟨⟨j + 1, false, by omega, rfl, congrArg (Value.int .i64) (by omega), hok.trans (by simp [okM]), (by first | exact hK3 | exact hK2 | exact hkw)⟩, by simp only [intm]; omega⟩
            | exact ⟨rfl, (by first | exact hK3 | exact hK2 | exact hkw), .inr ⟨hok.trans (by simp [okM]), f, j, b, off, hlt, rfl, m5, rfl⟩⟩
        | true =>
          as_aux_lemma =>
          simp only [shK, shT, shK0] at f0 f1 f4
          obtain ⟨F1, F2, F3, F4⟩ := F
          simp only [shT, shR, shS, shM, shC, shP] at F1 F2 F3 F4
          go_wp2_with (first
            | (go_at_call 44; refine (kid_any k1 f2).mono ?_; rintro e w1 ⟨rfl, rfl⟩)
            | (go_at_call 125; refine (F1 _).mono ?_; rintro e w1 ⟨rfl, rfl⟩)
            | (go_at_call 126; refine (F2 _).mono ?_; rintro e w1 ⟨rfl, rfl⟩)
            | (go_at_call 67; refine (F4 _ hK2).mono ?_; rintro e w3 ⟨rfl, hk3⟩; have hK3 : Keeps w w3 := hK2.trans hk3; obtain ⟨q0, q1, q2, q3, q4, q5⟩ := hcell w3 hK3; simp only [shK, shT, shK0] at q0 q1 q4)
            | (go_at_call 67; refine (F3 _ (by with_reducible first | exact keepsAlloc hkw _ | exact keepsSet (keepsAlloc hkw _) hkw.size _ | exact keepsSet (keepsSet (keepsAlloc hkw _) hkw.size _) hkw.size _)).mono ?_; rintro e w2 ⟨rfl, hk2⟩; have hK2 : Keeps w w2 := Keeps.trans (by with_reducible first | exact keepsAlloc hkw _ | exact keepsSet (keepsAlloc hkw _) hkw.size _ | exact keepsSet (keepsSet (keepsAlloc hkw _) hkw.size _) hkw.size _) hk2; obtain ⟨g0, g1, g2, g3, g4, g5⟩ := hcell w2 hK2; simp only [shK, shT, shK0] at g0 g1 g4)
            | (go_at_call 35; refine (fail_any _ _ _).mono ?_; rintro e w4 ⟨rfl, rfl⟩))
          all_goals first
            | exact ⟨⟨j + 1, true, by omega, rfl, congrArg (Value.int .i64) (by omega), hok.trans (by simp [okM]), (by first | exact hK3 | exact hK2 | exact hkw)⟩, by simp only [intm]; omega⟩
            | exact ⟨rfl, (by first | exact hK3 | exact hK2 | exact hkw), .inr ⟨hok.trans (by simp [okM]), f, j, b, off, hlt, rfl, m5, rfl⟩⟩
      · cases one with
        | false =>
          as_aux_lemma =>
          simp only [shK, shT, shK0] at f0 f1 f4
          obtain ⟨F1, F2, F3, F4⟩ := F
          simp only [shT, shR, shS, shM, shC, shP] at F1 F2 F3 F4
          go_wp2_with (first
            | (go_at_call 44; refine (kid_any k1 f2).mono ?_; rintro e w1 ⟨rfl, rfl⟩)
            | (go_at_call 125; refine (F1 _).mono ?_; rintro e w1 ⟨rfl, rfl⟩)
            | (go_at_call 126; refine (F2 _).mono ?_; rintro e w1 ⟨rfl, rfl⟩)
            | (go_at_call 67; refine (F4 _ hK2).mono ?_; rintro e w3 ⟨rfl, hk3⟩; have hK3 : Keeps w w3 := hK2.trans hk3; obtain ⟨q0, q1, q2, q3, q4, q5⟩ := hcell w3 hK3; simp only [shK, shT, shK0] at q0 q1 q4)
            | (go_at_call 67; refine (F3 _ (by with_reducible first | exact keepsAlloc hkw _ | exact keepsSet (keepsAlloc hkw _) hkw.size _ | exact keepsSet (keepsSet (keepsAlloc hkw _) hkw.size _) hkw.size _)).mono ?_; rintro e w2 ⟨rfl, hk2⟩; have hK2 : Keeps w w2 := Keeps.trans (by with_reducible first | exact keepsAlloc hkw _ | exact keepsSet (keepsAlloc hkw _) hkw.size _ | exact keepsSet (keepsSet (keepsAlloc hkw _) hkw.size _) hkw.size _) hk2; obtain ⟨g0, g1, g2, g3, g4, g5⟩ := hcell w2 hK2; simp only [shK, shT, shK0] at g0 g1 g4)
            | (go_at_call 35; refine (fail_any _ _ _).mono ?_; rintro e w4 ⟨rfl, rfl⟩))
          all_goals first
            | exact ⟨⟨j + 1, false, by omega, rfl, congrArg (Value.int .i64) (by omega), hok.trans (by simp [okM]), (by first | exact hK3 | exact hK2 | exact hkw)⟩, by simp only [intm]; omega⟩
            | exact ⟨rfl, (by first | exact hK3 | exact hK2 | exact hkw), .inr ⟨hok.trans (by simp [okM]), f, j, b, off, hlt, rfl, m5, rfl⟩⟩
        | true =>
          as_aux_lemma =>
          simp only [shK, shT, shK0] at f0 f1 f4
          obtain ⟨F1, F2, F3, F4⟩ := F
          simp only [shT, shR, shS, shM, shC, shP] at F1 F2 F3 F4
          go_wp2_with (first
            | (go_at_call 44; refine (kid_any k1 f2).mono ?_; rintro e w1 ⟨rfl, rfl⟩)
            | (go_at_call 125; refine (F1 _).mono ?_; rintro e w1 ⟨rfl, rfl⟩)
            | (go_at_call 126; refine (F2 _).mono ?_; rintro e w1 ⟨rfl, rfl⟩)
            | (go_at_call 67; refine (F4 _ hK2).mono ?_; rintro e w3 ⟨rfl, hk3⟩; have hK3 : Keeps w w3 := hK2.trans hk3; obtain ⟨q0, q1, q2, q3, q4, q5⟩ := hcell w3 hK3; simp only [shK, shT, shK0] at q0 q1 q4)
            | (go_at_call 67; refine (F3 _ (by with_reducible first | exact keepsAlloc hkw _ | exact keepsSet (keepsAlloc hkw _) hkw.size _ | exact keepsSet (keepsSet (keepsAlloc hkw _) hkw.size _) hkw.size _)).mono ?_; rintro e w2 ⟨rfl, hk2⟩; have hK2 : Keeps w w2 := Keeps.trans (by with_reducible first | exact keepsAlloc hkw _ | exact keepsSet (keepsAlloc hkw _) hkw.size _ | exact keepsSet (keepsSet (keepsAlloc hkw _) hkw.size _) hkw.size _) hk2; obtain ⟨g0, g1, g2, g3, g4, g5⟩ := hcell w2 hK2; simp only [shK, shT, shK0] at g0 g1 g4)
            | (go_at_call 35; refine (fail_any _ _ _).mono ?_; rintro e w4 ⟨rfl, rfl⟩))
          all_goals first
            | exact ⟨⟨j + 1, true, by omega, rfl, congrArg (Value.int .i64) (by omega), hok.trans (by simp [okM]), (by first | exact hK3 | exact hK2 | exact hkw)⟩, by simp only [intm]; omega⟩
            | exact ⟨rfl, (by first | exact hK3 | exact hK2 | exact hkw), .inr ⟨hok.trans (by simp [okM]), f, j, b, off, hlt, rfl, m5, rfl⟩⟩
      · cases one with
        | false =>
          as_aux_lemma =>
          simp only [shK, shT, shK0] at f0 f1 f4
          obtain ⟨F1, F2, F3, F4⟩ := F
          simp only [shT, shR, shS, shM, shC, shP] at F1 F2 F3 F4
          go_wp2_with (first
            | (go_at_call 44; refine (kid_any k1 f2).mono ?_; rintro e w1 ⟨rfl, rfl⟩)
            | (go_at_call 125; refine (F1 _).mono ?_; rintro e w1 ⟨rfl, rfl⟩)
            | (go_at_call 126; refine (F2 _).mono ?_; rintro e w1 ⟨rfl, rfl⟩)
            | (go_at_call 67; refine (F4 _ hK2).mono ?_; rintro e w3 ⟨rfl, hk3⟩; have hK3 : Keeps w w3 := hK2.trans hk3; obtain ⟨q0, q1, q2, q3, q4, q5⟩ := hcell w3 hK3; simp only [shK, shT, shK0] at q0 q1 q4)
            | (go_at_call 67; refine (F3 _ (by with_reducible first | exact keepsAlloc hkw _ | exact keepsSet (keepsAlloc hkw _) hkw.size _ | exact keepsSet (keepsSet (keepsAlloc hkw _) hkw.size _) hkw.size _)).mono ?_; rintro e w2 ⟨rfl, hk2⟩; have hK2 : Keeps w w2 := Keeps.trans (by with_reducible first | exact keepsAlloc hkw _ | exact keepsSet (keepsAlloc hkw _) hkw.size _ | exact keepsSet (keepsSet (keepsAlloc hkw _) hkw.size _) hkw.size _) hk2; obtain ⟨g0, g1, g2, g3, g4, g5⟩ := hcell w2 hK2; simp only [shK, shT, shK0] at g0 g1 g4)
            | (go_at_call 35; refine (fail_any _ _ _).mono ?_; rintro e w4 ⟨rfl, rfl⟩))
          all_goals first
            | exact ⟨⟨j + 1, false, by omega, rfl, congrArg (Value.int .i64) (by omega), hok.trans (by simp [okM]), (by first | exact hK3 | exact hK2 | exact hkw)⟩, by simp only [intm]; omega⟩
            | exact ⟨rfl, (by first | exact hK3 | exact hK2 | exact hkw), .inr ⟨hok.trans (by simp [okM]), f, j, b, off, hlt, rfl, m5, rfl⟩⟩
        | true =>
          as_aux_lemma =>
          simp only [shK, shT, shK0] at f0 f1 f4
          obtain ⟨F1, F2, F3, F4⟩ := F
          simp only [shT, shR, shS, shM, shC, shP] at F1 F2 F3 F4
          go_wp2_with (first
            | (go_at_call 44; refine (kid_any k1 f2).mono ?_; rintro e w1 ⟨rfl, rfl⟩)
            | (go_at_call 125; refine (F1 _).mono ?_; rintro e w1 ⟨rfl, rfl⟩)
            | (go_at_call 126; refine (F2 _).mono ?_; rintro e w1 ⟨rfl, rfl⟩)
            | (go_at_call 67; refine (F4 _ hK2).mono ?_; rintro e w3 ⟨rfl, hk3⟩; have hK3 : Keeps w w3 := hK2.trans hk3; obtain ⟨q0, q1, q2, q3, q4, q5⟩ := hcell w3 hK3; simp only [shK, shT, shK0] at q0 q1 q4)
            | (go_at_call 67; refine (F3 _ (by with_reducible first | exact keepsAlloc hkw _ | exact keepsSet (keepsAlloc hkw _) hkw.size _ | exact keepsSet (keepsSet (keepsAlloc hkw _) hkw.size _) hkw.size _)).mono ?_; rintro e w2 ⟨rfl, hk2⟩; have hK2 : Keeps w w2 := Keeps.trans (by with_reducible first | exact keepsAlloc hkw _ | exact keepsSet (keepsAlloc hkw _) hkw.size _ | exact keepsSet (keepsSet (keepsAlloc hkw _) hkw.size _) hkw.size _) hk2; obtain ⟨g0, g1, g2, g3, g4, g5⟩ := hcell w2 hK2; simp only [shK, shT, shK0] at g0 g1 g4)
            | (go_at_call 35; refine (fail_any _ _ _).mono ?_; rintro e w4 ⟨rfl, rfl⟩))
          all_goals first
            | exact ⟨⟨j + 1, true, by omega, rfl, congrArg (Value.int .i64) (by omega), hok.trans (by simp [okM]), (by first | exact hK3 | exact hK2 | exact hkw)⟩, by simp only [intm]; omega⟩
            | exact ⟨rfl, (by first | exact hK3 | exact hK2 | exact hkw), .inr ⟨hok.trans (by simp [okM]), f, j, b, off, hlt, rfl, m5, rfl⟩⟩
    · have i1 : ¬ ((j : Int) < (ks.length : Int)) := by omega
      have hok2 : okM false ks = true := hok.trans (by rw [List.drop_of_length_le (by omega)]; simp [okM])
      clear hk hok
      go_wp2
      all_goals go_end0
      all_goals first | exact ⟨hkw, rfl⟩ | exact ⟨hkw, .inl ⟨hok2, rfl⟩⟩ | exact ⟨hkw, .inl ⟨trivial, rfl⟩⟩ | exact ⟨hkw, .inl ⟨rfl, rfl⟩⟩
end Go.Proofs.YtmlhldohlfghaaaGreatDoor
