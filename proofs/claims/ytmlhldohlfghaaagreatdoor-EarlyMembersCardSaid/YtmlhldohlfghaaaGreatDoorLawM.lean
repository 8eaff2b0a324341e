/- The walk of the law EarlyMembers: it builds the text out of the picks and asks whether that text is taken as it should be. What the two calls answer is asked for. -/
import Derived.Test.YtmlhldohlfghaaaGreatDoorProg
import Derived.Test.YtmlhldohlfghaaaGreatDoorEvTmG
import Derived.Below
import Derived.WalkKit
import Derived.WalkSmall
import Derived.Laws.Cells
import Derived.ChangeArms
import Derived.DataReads
import Derived.ChangeOld
import Derived.IntWalk
import Derived.Laws.Bits64
namespace Go.Proofs.YtmlhldohlfghaaaGreatDoor
open Go Go.Ev Go.RowKit Go.Proofs
set_option linter.unusedVariables false
set_option linter.unusedSimpArgs false
theorem Keeps.cell' {w w' : World} (h : Keeps w w') {p : Addr} (hp : p.block < w.heap.size) : w'.cell? p = w.cell? p := World.cell?_of_block (w := w) (h.block p.block hp)

/-- the text of an item -/
def altM : Nat → List UInt8
  | 0 => [99, 111, 110, 115, 116, 114, 117, 99, 116, 111, 114, 40, 41, 32, 123, 125]
  | 1 => [39, 99, 111, 110, 115, 116, 114, 117, 99, 116, 111, 114, 39, 40, 41, 32, 123, 125]
  | 2 => [103, 101, 116, 32, 99, 111, 110, 115, 116, 114, 117, 99, 116, 111, 114, 40, 41, 32, 123, 125]
  | 3 => [42, 99, 111, 110, 115, 116, 114, 117, 99, 116, 111, 114, 40, 41, 32, 123, 125]
  | 4 => [99, 111, 110, 115, 116, 114, 117, 99, 116, 111, 114, 32, 61, 32, 49, 59]
  | 5 => [115, 116, 97, 116, 105, 99, 32, 99, 111, 110, 115, 116, 114, 117, 99, 116, 111, 114, 40, 41, 32, 123, 125]
  | 6 => [115, 116, 97, 116, 105, 99, 32, 112, 114, 111, 116, 111, 116, 121, 112, 101, 40, 41, 32, 123, 125]
  | 7 => [115, 116, 97, 116, 105, 99, 32, 39, 112, 114, 111, 116, 111, 116, 121, 112, 101, 39, 32, 61, 32, 49, 59]
  | 8 => [112, 114, 111, 116, 111, 116, 121, 112, 101, 40, 41, 32, 123, 125]
  | 9 => [91, 39, 99, 111, 110, 115, 116, 114, 117, 99, 116, 111, 114, 39, 93, 40, 41, 32, 123, 125]
  | 10 => [115, 116, 97, 116, 105, 99, 32, 103, 101, 116, 32, 99, 111, 110, 115, 116, 114, 117, 99, 116, 111, 114, 40, 41, 32, 123, 125]
  | _ => [120, 59]
def bodyM : List Nat → List UInt8
  | [] => []
  | k :: ks => altM k ++ bodyM ks
theorem bodyM_app (l : List Nat) (k : Nat) : bodyM (l ++ [k]) = bodyM l ++ altM k := by
  induction l with
  | nil => simp [bodyM]
  | cons x l ih => simp only [List.cons_append, bodyM, ih, List.append_assoc]
def intM : Value → Int
  | .int _ n => n
  | _ => 0
def manyM : List Nat → Nat
  | [] => 0
  | k :: ks => (if k < 2 then 1 else 0) + manyM ks
theorem manyM_app (l : List Nat) (k : Nat) : manyM (l ++ [k]) = manyM l + (if k < 2 then 1 else 0) := by
  induction l with
  | nil => simp [manyM]
  | cons x l ih => simp only [List.cons_append, manyM, ih]; omega
theorem manyM_le (l : List Nat) : manyM l ≤ l.length := by
  induction l with
  | nil => simp [manyM]
  | cons x l ih => simp only [manyM, List.length_cons]; split <;> omega
def badM : Nat → Bool
  | 2 => true
  | 3 => true
  | 4 => true
  | 6 => true
  | 7 => true
  | _ => false
def goodM : List Nat → Bool
  | [] => true
  | k :: ks => !badM k && goodM ks
theorem goodM_app (l : List Nat) (k : Nat) : goodM (l ++ [k]) = (goodM l && !badM k) := by
  induction l with
  | nil => simp [goodM]
  | cons x l ih => simp only [List.cons_append, goodM, ih, Bool.and_assoc]
/-- an item's kind -/
def kindM (z : Int) : Nat := (IntKind.u64.wrap z % 12).toNat
def picksM (z : Nat → Int) : Nat → List Nat
  | 0 => []
  | n + 1 => picksM z n ++ [kindM (z n)]
theorem u64_nonneg (z : Int) : 0 ≤ IntKind.u64.wrap z ∧ IntKind.u64.wrap z < 18446744073709551616 := by
  rw [IntKind.wrap_u64]; omega
theorem kindM_lt (z : Int) : kindM z < 12 := by
  unfold kindM; have := (u64_nonneg z).1; omega
theorem kindM_tmod (z : Int) : (IntKind.u64.wrap z).tmod 12 = (kindM z : Int) := by
  unfold kindM
  have := (u64_nonneg z).1
  rw [Int.tmod_eq_emod_of_nonneg this]
  omega
theorem picksM_len (z : Nat → Int) (n : Nat) : (picksM z n).length = n := by
  induction n with
  | zero => rfl
  | succ n ih => simp [picksM, ih]
theorem altM_le (k : Nat) : (altM k).length ≤ 27 := by
  unfold altM; split <;> decide
theorem bodyM_le (z : Nat → Int) (n : Nat) : (bodyM (picksM z n)).length ≤ 27 * n := by
  induction n with
  | zero => simp [picksM, bodyM]
  | succ n ih =>
    rw [picksM, bodyM_app]
    have := altM_le (kindM (z n))
    simp only [List.length_append]
    omega
theorem cell_lt {w : World} {a : Addr} {v : Value} (h : w.cell? a = some v) : a.block < w.heap.size := by
  unfold World.cell? at h
  split at h
  · rename_i hb; exact (Array.getElem?_eq_some_iff.1 hb).1
  · cases h
/-- the text so far -/
def TxtM (s : Value) (l : List Nat) : Prop := ∃ S : ByteArray, s = .string S ∧ S.data.toList = 99 :: 108 :: 97 :: 115 :: 115 :: 32 :: 65 :: 32 :: 123 :: bodyM l
theorem TxtM.more {S A : ByteArray} {l : List Nat} {k : Nat} (h : S.data.toList = 99 :: 108 :: 97 :: 115 :: 115 :: 32 :: 65 :: 32 :: 123 :: bodyM l) (ha : A.data.toList = altM k) : TxtM (.string (S ++ A)) (l ++ [k]) := by
  refine ⟨_, rfl, ?_⟩
  simp [ByteArray.data_append, h, ha, bodyM_app]
set_option maxHeartbeats 8000000 in
set_option maxRecDepth 1000000 in
theorem members_walk (a : Option Addr) (len cap : Nat) (z : Nat → Int) (W : World) (hlen : len ≤ maxLen) (hz : ∀ i, i < len → ∃ b off, a = some ⟨b, off, none⟩ ∧ W.cell? ⟨b, off + i, none⟩ = some (.int .i64 (z i)))
    (hAw : ∀ w, Keeps W w → Calls Tryz.prog 5 #[] w fun e w' => e = .returned (.bool true) ∧ Keeps w w')
    (hJ : ∀ w, Keeps W w → Calls Tryz.prog 6 #[.string ⟨(99 :: 108 :: 97 :: 115 :: 115 :: 32 :: 65 :: 32 :: 123 :: bodyM (picksM z (min len 12)) ++ [125]).toArray⟩, .bool false, .bool (goodM (picksM z (min len 12)) && decide (manyM (picksM z (min len 12)) < 2)), .int .i64 1211] w fun e w' => e = .returned (.bool true) ∧ Keeps w w') :
    Calls Tryz.prog 4 #[.slice a len cap] W fun e w' => e = .returned (.bool true) ∧ Keeps W w' := by
  go_enter Tryz.func4, Tryz.ntmps4
  go_wp2_with (first
      | (go_at_call 5; refine (hAw _ (Keeps.refl _)).mono ?_; rintro e w1 ⟨rfl, hk1⟩))
  go_loopw [3, 4, 5, 6] (fun s m f i wr => ∃ j : Nat, j ≤ min len 12 ∧ TxtM s (picksM z j) ∧ m = .int .i64 (manyM (picksM z j) : Nat) ∧ f = .bool (goodM (picksM z j)) ∧ i = .int .i64 (j : Nat) ∧ Keeps W wr) (fun _ _ _ i _ => 12 - (intM i).toNat)
  case atStart =>
    exact ⟨0, Nat.zero_le _, ⟨_, rfl, rfl⟩, rfl, rfl, rfl, hk1⟩
  case round =>
    obtain ⟨j, hj, ⟨S, rfl, hS⟩, rfl, rfl, rfl, hk⟩ := hrel
    have hSz : S.size ≤ 9 + 27 * j := by
      have := congrArg List.length hS
      have h2 := bodyM_le z j
      simp only [List.length_cons, Array.length_toList] at this
      show S.data.size ≤ _
      omega
    have hcap : len < 9223372036854775808 := by unfold maxLen at hlen; omega
    by_cases hlt : j < len
    · by_cases h12 : j < 12
      · obtain ⟨b, off, rfl, hcell⟩ := hz j hlt
        have hblk : b < W.heap.size := cell_lt hcell
        have hc2 : wr.cell? ⟨b, off + j, none⟩ = some (.int .i64 (z j)) := (Keeps.cell' hk (p := ⟨b, off + j, none⟩) hblk).trans hcell
        have i1 : (j : Int) < (len : Int) := by omega
        have i2 : (j : Int) < 12 := by omega
        have i3 : (0 : Int) ≤ (j : Int) := by omega
        have i4 : ((j : Int)).toNat = j := by omega
        have i5 : IntKind.i64.wrap ((j : Int) + 1) = (j : Int) + 1 := IntWalk.i64_in _ (by omega)
        have hk7 : kindM (z j) < 12 := kindM_lt _
        have hmod : (IntKind.u64.wrap (z j)).tmod 12 = (kindM (z j) : Int) := kindM_tmod _
        obtain ⟨c, hc⟩ : ∃ c, kindM (z j) = c := ⟨_, rfl⟩
        rw [hc] at hmod hk7
        have hcs : c = 0 ∨ c = 1 ∨ c = 2 ∨ c = 3 ∨ c = 4 ∨ c = 5 ∨ c = 6 ∨ c = 7 ∨ c = 8 ∨ c = 9 ∨ c = 10 ∨ c = 11 := by omega
        clear hz hJ hAw
        have hmy := manyM_le (picksM z j)
        rw [picksM_len] at hmy
        have hfb : goodM (picksM z j) = true ∨ goodM (picksM z j) = false := by cases goodM (picksM z j) <;> simp
        rcases hcs with rfl | rfl | rfl | rfl | rfl | rfl | rfl | rfl | rfl | rfl | rfl | rfl
        · rcases hfb with hf | hf <;> rw [hf]
          · have hm0 : (IntKind.u64.wrap (z j)).tmod 12 = 0 := hmod
            go_wp2
            refine ⟨⟨j + 1, by omega, ?_, ?_, ?_, ?_, hk.trans (Keeps.alloc _ _)⟩, by simp only [intM]; omega⟩
            · exact TxtM.more hS (by rw [hc]; rfl)
            · rw [picksM, manyM_app, hc]; exact congrArg (Value.int .i64) (by simp)
            · rw [picksM, goodM_app, hc, hf]; rfl
            · exact congrArg (Value.int .i64) (by omega)
          · have hm0 : (IntKind.u64.wrap (z j)).tmod 12 = 0 := hmod
            go_wp2
            refine ⟨⟨j + 1, by omega, ?_, ?_, ?_, ?_, hk.trans (Keeps.alloc _ _)⟩, by simp only [intM]; omega⟩
            · exact TxtM.more hS (by rw [hc]; rfl)
            · rw [picksM, manyM_app, hc]; exact congrArg (Value.int .i64) (by simp)
            · rw [picksM, goodM_app, hc, hf]; rfl
            · exact congrArg (Value.int .i64) (by omega)
        · rcases hfb with hf | hf <;> rw [hf]
          · have hm0 : (IntKind.u64.wrap (z j)).tmod 12 = 1 := hmod
            go_wp2
            refine ⟨⟨j + 1, by omega, ?_, ?_, ?_, ?_, hk.trans (Keeps.alloc _ _)⟩, by simp only [intM]; omega⟩
            · exact TxtM.more hS (by rw [hc]; rfl)
            · rw [picksM, manyM_app, hc]; exact congrArg (Value.int .i64) (by simp)
            · rw [picksM, goodM_app, hc, hf]; rfl
            · exact congrArg (Value.int .i64) (by omega)
          · have hm0 : (IntKind.u64.wrap (z j)).tmod 12 = 1 := hmod
            go_wp2
            refine ⟨⟨j + 1, by omega, ?_, ?_, ?_, ?_, hk.trans (Keeps.alloc _ _)⟩, by simp only [intM]; omega⟩
            · exact TxtM.more hS (by rw [hc]; rfl)
            · rw [picksM, manyM_app, hc]; exact congrArg (Value.int .i64) (by simp)
            · rw [picksM, goodM_app, hc, hf]; rfl
            · exact congrArg (Value.int .i64) (by omega)
        · rcases hfb with hf | hf <;> rw [hf]
          · have hm0 : (IntKind.u64.wrap (z j)).tmod 12 = 2 := hmod
            go_wp2
            refine ⟨⟨j + 1, by omega, ?_, ?_, ?_, ?_, hk.trans (Keeps.alloc _ _)⟩, by simp only [intM]; omega⟩
            · exact TxtM.more hS (by rw [hc]; rfl)
            · rw [picksM, manyM_app, hc]; rfl
            · rw [picksM, goodM_app, hc, hf]; rfl
            · exact congrArg (Value.int .i64) (by omega)
          · have hm0 : (IntKind.u64.wrap (z j)).tmod 12 = 2 := hmod
            go_wp2
            refine ⟨⟨j + 1, by omega, ?_, ?_, ?_, ?_, hk.trans (Keeps.alloc _ _)⟩, by simp only [intM]; omega⟩
            · exact TxtM.more hS (by rw [hc]; rfl)
            · rw [picksM, manyM_app, hc]; rfl
            · rw [picksM, goodM_app, hc, hf]; rfl
            · exact congrArg (Value.int .i64) (by omega)
        · rcases hfb with hf | hf <;> rw [hf]
          · have hm0 : (IntKind.u64.wrap (z j)).tmod 12 = 3 := hmod
            go_wp2
            refine ⟨⟨j + 1, by omega, ?_, ?_, ?_, ?_, hk.trans (Keeps.alloc _ _)⟩, by simp only [intM]; omega⟩
            · exact TxtM.more hS (by rw [hc]; rfl)
            · rw [picksM, manyM_app, hc]; rfl
            · rw [picksM, goodM_app, hc, hf]; rfl
            · exact congrArg (Value.int .i64) (by omega)
          · have hm0 : (IntKind.u64.wrap (z j)).tmod 12 = 3 := hmod
            go_wp2
            refine ⟨⟨j + 1, by omega, ?_, ?_, ?_, ?_, hk.trans (Keeps.alloc _ _)⟩, by simp only [intM]; omega⟩
            · exact TxtM.more hS (by rw [hc]; rfl)
            · rw [picksM, manyM_app, hc]; rfl
            · rw [picksM, goodM_app, hc, hf]; rfl
            · exact congrArg (Value.int .i64) (by omega)
        · rcases hfb with hf | hf <;> rw [hf]
          · have hm0 : (IntKind.u64.wrap (z j)).tmod 12 = 4 := hmod
            go_wp2
            refine ⟨⟨j + 1, by omega, ?_, ?_, ?_, ?_, hk.trans (Keeps.alloc _ _)⟩, by simp only [intM]; omega⟩
            · exact TxtM.more hS (by rw [hc]; rfl)
            · rw [picksM, manyM_app, hc]; rfl
            · rw [picksM, goodM_app, hc, hf]; rfl
            · exact congrArg (Value.int .i64) (by omega)
          · have hm0 : (IntKind.u64.wrap (z j)).tmod 12 = 4 := hmod
            go_wp2
            refine ⟨⟨j + 1, by omega, ?_, ?_, ?_, ?_, hk.trans (Keeps.alloc _ _)⟩, by simp only [intM]; omega⟩
            · exact TxtM.more hS (by rw [hc]; rfl)
            · rw [picksM, manyM_app, hc]; rfl
            · rw [picksM, goodM_app, hc, hf]; rfl
            · exact congrArg (Value.int .i64) (by omega)
        · rcases hfb with hf | hf <;> rw [hf]
          · have hm0 : (IntKind.u64.wrap (z j)).tmod 12 = 5 := hmod
            go_wp2
            refine ⟨⟨j + 1, by omega, ?_, ?_, ?_, ?_, hk.trans (Keeps.alloc _ _)⟩, by simp only [intM]; omega⟩
            · exact TxtM.more hS (by rw [hc]; rfl)
            · rw [picksM, manyM_app, hc]; rfl
            · rw [picksM, goodM_app, hc, hf]; rfl
            · exact congrArg (Value.int .i64) (by omega)
          · have hm0 : (IntKind.u64.wrap (z j)).tmod 12 = 5 := hmod
            go_wp2
            refine ⟨⟨j + 1, by omega, ?_, ?_, ?_, ?_, hk.trans (Keeps.alloc _ _)⟩, by simp only [intM]; omega⟩
            · exact TxtM.more hS (by rw [hc]; rfl)
            · rw [picksM, manyM_app, hc]; rfl
            · rw [picksM, goodM_app, hc, hf]; rfl
            · exact congrArg (Value.int .i64) (by omega)
        · rcases hfb with hf | hf <;> rw [hf]
          · have hm0 : (IntKind.u64.wrap (z j)).tmod 12 = 6 := hmod
            go_wp2
            refine ⟨⟨j + 1, by omega, ?_, ?_, ?_, ?_, hk.trans (Keeps.alloc _ _)⟩, by simp only [intM]; omega⟩
            · exact TxtM.more hS (by rw [hc]; rfl)
            · rw [picksM, manyM_app, hc]; rfl
            · rw [picksM, goodM_app, hc, hf]; rfl
            · exact congrArg (Value.int .i64) (by omega)
          · have hm0 : (IntKind.u64.wrap (z j)).tmod 12 = 6 := hmod
            go_wp2
            refine ⟨⟨j + 1, by omega, ?_, ?_, ?_, ?_, hk.trans (Keeps.alloc _ _)⟩, by simp only [intM]; omega⟩
            · exact TxtM.more hS (by rw [hc]; rfl)
            · rw [picksM, manyM_app, hc]; rfl
            · rw [picksM, goodM_app, hc, hf]; rfl
            · exact congrArg (Value.int .i64) (by omega)
        · rcases hfb with hf | hf <;> rw [hf]
          · have hm0 : (IntKind.u64.wrap (z j)).tmod 12 = 7 := hmod
            go_wp2
            refine ⟨⟨j + 1, by omega, ?_, ?_, ?_, ?_, hk.trans (Keeps.alloc _ _)⟩, by simp only [intM]; omega⟩
            · exact TxtM.more hS (by rw [hc]; rfl)
            · rw [picksM, manyM_app, hc]; rfl
            · rw [picksM, goodM_app, hc, hf]; rfl
            · exact congrArg (Value.int .i64) (by omega)
          · have hm0 : (IntKind.u64.wrap (z j)).tmod 12 = 7 := hmod
            go_wp2
            refine ⟨⟨j + 1, by omega, ?_, ?_, ?_, ?_, hk.trans (Keeps.alloc _ _)⟩, by simp only [intM]; omega⟩
            · exact TxtM.more hS (by rw [hc]; rfl)
            · rw [picksM, manyM_app, hc]; rfl
            · rw [picksM, goodM_app, hc, hf]; rfl
            · exact congrArg (Value.int .i64) (by omega)
        · rcases hfb with hf | hf <;> rw [hf]
          · have hm0 : (IntKind.u64.wrap (z j)).tmod 12 = 8 := hmod
            go_wp2
            refine ⟨⟨j + 1, by omega, ?_, ?_, ?_, ?_, hk.trans (Keeps.alloc _ _)⟩, by simp only [intM]; omega⟩
            · exact TxtM.more hS (by rw [hc]; rfl)
            · rw [picksM, manyM_app, hc]; rfl
            · rw [picksM, goodM_app, hc, hf]; rfl
            · exact congrArg (Value.int .i64) (by omega)
          · have hm0 : (IntKind.u64.wrap (z j)).tmod 12 = 8 := hmod
            go_wp2
            refine ⟨⟨j + 1, by omega, ?_, ?_, ?_, ?_, hk.trans (Keeps.alloc _ _)⟩, by simp only [intM]; omega⟩
            · exact TxtM.more hS (by rw [hc]; rfl)
            · rw [picksM, manyM_app, hc]; rfl
            · rw [picksM, goodM_app, hc, hf]; rfl
            · exact congrArg (Value.int .i64) (by omega)
        · rcases hfb with hf | hf <;> rw [hf]
          · have hm0 : (IntKind.u64.wrap (z j)).tmod 12 = 9 := hmod
            go_wp2
            refine ⟨⟨j + 1, by omega, ?_, ?_, ?_, ?_, hk.trans (Keeps.alloc _ _)⟩, by simp only [intM]; omega⟩
            · exact TxtM.more hS (by rw [hc]; rfl)
            · rw [picksM, manyM_app, hc]; rfl
            · rw [picksM, goodM_app, hc, hf]; rfl
            · exact congrArg (Value.int .i64) (by omega)
          · have hm0 : (IntKind.u64.wrap (z j)).tmod 12 = 9 := hmod
            go_wp2
            refine ⟨⟨j + 1, by omega, ?_, ?_, ?_, ?_, hk.trans (Keeps.alloc _ _)⟩, by simp only [intM]; omega⟩
            · exact TxtM.more hS (by rw [hc]; rfl)
            · rw [picksM, manyM_app, hc]; rfl
            · rw [picksM, goodM_app, hc, hf]; rfl
            · exact congrArg (Value.int .i64) (by omega)
        · rcases hfb with hf | hf <;> rw [hf]
          · have hm0 : (IntKind.u64.wrap (z j)).tmod 12 = 10 := hmod
            go_wp2
            refine ⟨⟨j + 1, by omega, ?_, ?_, ?_, ?_, hk.trans (Keeps.alloc _ _)⟩, by simp only [intM]; omega⟩
            · exact TxtM.more hS (by rw [hc]; rfl)
            · rw [picksM, manyM_app, hc]; rfl
            · rw [picksM, goodM_app, hc, hf]; rfl
            · exact congrArg (Value.int .i64) (by omega)
          · have hm0 : (IntKind.u64.wrap (z j)).tmod 12 = 10 := hmod
            go_wp2
            refine ⟨⟨j + 1, by omega, ?_, ?_, ?_, ?_, hk.trans (Keeps.alloc _ _)⟩, by simp only [intM]; omega⟩
            · exact TxtM.more hS (by rw [hc]; rfl)
            · rw [picksM, manyM_app, hc]; rfl
            · rw [picksM, goodM_app, hc, hf]; rfl
            · exact congrArg (Value.int .i64) (by omega)
        · rcases hfb with hf | hf <;> rw [hf]
          · have hm0 : (IntKind.u64.wrap (z j)).tmod 12 = 11 := hmod
            go_wp2
            refine ⟨⟨j + 1, by omega, ?_, ?_, ?_, ?_, hk.trans (Keeps.alloc _ _)⟩, by simp only [intM]; omega⟩
            · exact TxtM.more hS (by rw [hc]; rfl)
            · rw [picksM, manyM_app, hc]; rfl
            · rw [picksM, goodM_app, hc, hf]; rfl
            · exact congrArg (Value.int .i64) (by omega)
          · have hm0 : (IntKind.u64.wrap (z j)).tmod 12 = 11 := hmod
            go_wp2
            refine ⟨⟨j + 1, by omega, ?_, ?_, ?_, ?_, hk.trans (Keeps.alloc _ _)⟩, by simp only [intM]; omega⟩
            · exact TxtM.more hS (by rw [hc]; rfl)
            · rw [picksM, manyM_app, hc]; rfl
            · rw [picksM, goodM_app, hc, hf]; rfl
            · exact congrArg (Value.int .i64) (by omega)
      · have i2 : ¬ ((j : Int) < 12) := by omega
        have i1 : (j : Int) < (len : Int) := by omega
        have hmin : min len 12 = j := by omega
        rw [hmin] at hJ
        generalize picksM z j = L at hS hJ
        clear hz hAw
        have hJ' : ∀ w S' b, Keeps W w → S'.data.toList = 99 :: 108 :: 97 :: 115 :: 115 :: 32 :: 65 :: 32 :: 123 :: bodyM L ++ [125] → b = (goodM L && decide ((manyM L : Int) < 2)) → Calls Tryz.prog 6 #[.string S', .bool false, .bool b, .int .i64 1211] w fun e w' => e = .returned (.bool true) ∧ Keeps w w' := fun w S' b hw hS' hb => by
          have e : S' = ⟨(99 :: 108 :: 97 :: 115 :: 115 :: 32 :: 65 :: 32 :: 123 :: bodyM L ++ [125]).toArray⟩ := by
            rcases S' with ⟨l⟩; simp only at hS'; rw [← hS']
          have e2 : b = (goodM L && decide (manyM L < 2)) := by rw [hb]; exact congrArg (goodM L && ·) (decide_eq_decide.2 (by omega))
          rw [e, e2]; exact hJ w hw
        rcases (show goodM L = true ∨ goodM L = false by cases goodM L <;> simp) with hf | hf <;> rw [hf] at hJ' ⊢
        all_goals
          go_wp2_with (first
            | (go_at_call 6; refine (hJ' _ _ _ hk (by simp [ByteArray.data_append, hS]) (by first | rfl | simp)).mono ?_; rintro e w2 ⟨rfl, hk2⟩))
          all_goals go_ret
          all_goals exact ⟨rfl, hk.trans hk2⟩
    · have i1 : ¬ ((j : Int) < (len : Int)) := by omega
      have hmin : min len 12 = j := by omega
      rw [hmin] at hJ
      generalize picksM z j = L at hS hJ
      clear hz hAw
      have hJ' : ∀ w S' b, Keeps W w → S'.data.toList = 99 :: 108 :: 97 :: 115 :: 115 :: 32 :: 65 :: 32 :: 123 :: bodyM L ++ [125] → b = (goodM L && decide ((manyM L : Int) < 2)) → Calls Tryz.prog 6 #[.string S', .bool false, .bool b, .int .i64 1211] w fun e w' => e = .returned (.bool true) ∧ Keeps w w' := fun w S' b hw hS' hb => by
        have e : S' = ⟨(99 :: 108 :: 97 :: 115 :: 115 :: 32 :: 65 :: 32 :: 123 :: bodyM L ++ [125]).toArray⟩ := by
          rcases S' with ⟨l⟩; simp only at hS'; rw [← hS']
        have e2 : b = (goodM L && decide (manyM L < 2)) := by rw [hb]; exact congrArg (goodM L && ·) (decide_eq_decide.2 (by omega))
        rw [e, e2]; exact hJ w hw
      rcases (show goodM L = true ∨ goodM L = false by cases goodM L <;> simp) with hf | hf <;> rw [hf] at hJ' ⊢
      all_goals
        go_wp2_with (first
          | (go_at_call 6; refine (hJ' _ _ _ hk (by simp [ByteArray.data_append, hS]) (by first | rfl | simp)).mono ?_; rintro e w2 ⟨rfl, hk2⟩))
        all_goals go_ret
        all_goals exact ⟨rfl, hk.trans hk2⟩
end Go.Proofs.YtmlhldohlfghaaaGreatDoor
