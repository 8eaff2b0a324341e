/- The walk of the law CoverTexts: it builds the text out of the picks; what the calls of the parser and of the look at a pattern answer is asked for. -/
import Derived.Test.YtgpibpkplhlihaaGreatDoorProg
import Derived.Test.YtgpibpkplhlihaaGreatDoorEvTmG
import Derived.Below
import Derived.WalkKit
import Derived.WalkSmall
import Derived.Laws.Cells
import Derived.ChangeArms
import Derived.DataReads
import Derived.ChangeOld
import Derived.IntWalk
import Derived.Laws.Bits64
namespace Go.Proofs.YtgpibpkplhlihaaGreatDoor
open Go Go.Ev Go.RowKit Go.Proofs
set_option linter.unusedVariables false
set_option linter.unusedSimpArgs false
theorem Keeps.cell' {w w' : World} (h : Keeps w w') {p : Addr} (hp : p.block < w.heap.size) : w'.cell? p = w.cell? p := World.cell?_of_block (w := w) (h.block p.block hp)
def altM : Nat → List UInt8
 | 0 => [97, 44]
 | 1 => [44]
 | 2 => [98, 46, 99, 44]
 | 3 => [40, 100, 41, 44]
 | 4 => [91, 101, 93, 44]
 | 5 => [123, 102, 125, 44]
 | 6 => [103, 32, 61, 32, 49, 44]
 | 7 => [123, 104, 58, 32, 105, 91, 48, 93, 32, 61, 32, 50, 125, 44]
 | 8 => [49, 44]
 | 9 => [106, 40, 41, 44]
 | 10 => [40, 91, 107, 93, 41, 44]
 | _ => [101, 118, 97, 108, 44]
def bodyM : List Nat → List UInt8
 | [] => []
 | k :: ks => altM k ++ bodyM ks
theorem bodyM_app (l : List Nat) (k : Nat) : bodyM (l ++ [k]) = bodyM l ++ altM k := by
 induction l with
 | nil => simp [bodyM]
 | cons x l ih => simp only [List.cons_append, bodyM, ih, List.append_assoc]
def intM : Value → Int
 | .int _ n => n
 | _ => 0
def badM (k : Nat) : Bool := !(decide (k < 8))
def goodM : List Nat → Bool
 | [] => true
 | k :: ks => !badM k && goodM ks
theorem goodM_app (l : List Nat) (k : Nat) : goodM (l ++ [k]) = (goodM l && !badM k) := by
 induction l with
 | nil => simp [goodM]
 | cons x l ih => simp only [List.cons_append, goodM, ih, Bool.and_assoc]
def kindM (z : Int) : Nat := (IntKind.u64.wrap z % 12).toNat
def picksM (z : Nat → Int) : Nat → List Nat
 | 0 => []
 | n + 1 => picksM z n ++ [kindM (z n)]
theorem u64_nonneg (z : Int) : 0 ≤ IntKind.u64.wrap z ∧ IntKind.u64.wrap z < 18446744073709551616 := by
 rw [IntKind.wrap_u64]; omega
theorem kindM_lt (z : Int) : kindM z < 12 := by
 unfold kindM; have := (u64_nonneg z).1; omega
theorem kindM_tmod (z : Int) : (IntKind.u64.wrap z).tmod 12 = (kindM z : Int) := by
 unfold kindM
 have := (u64_nonneg z).1
 rw [Int.tmod_eq_emod_of_nonneg this]
 omega
theorem picksM_len (z : Nat → Int) (n : Nat) : (picksM z n).length = n := by
 induction n with
 | zero => rfl
 | succ n ih => simp [picksM, ih]
theorem altM_le (k : Nat) : (altM k).length ≤ 14 := by
 unfold altM; split <;> decide
theorem bodyM_le (z : Nat → Int) (n : Nat) : (bodyM (picksM z n)).length ≤ 14 * n := by
 induction n with
 | zero => simp [picksM, bodyM]
 | succ n ih =>
  rw [picksM, bodyM_app]
  have := altM_le (kindM (z n))
  simp only [List.length_append]
  omega
theorem cell_lt {w : World} {a : Addr} {v : Value} (h : w.cell? a = some v) : a.block < w.heap.size := by
 unfold World.cell? at h
 split at h
 ·rename_i hb; exact (Array.getElem?_eq_some_iff.1 hb).1
 ·cases h
def TxtM (s : Value) (l : List Nat) : Prop := ∃ S : ByteArray, s = .string S ∧ S.data.toList = 91 :: bodyM l
theorem TxtM.more {S A : ByteArray} {l : List Nat} {k : Nat} (h : S.data.toList = 91 :: bodyM l) (ha : A.data.toList ++ [44] = altM k) : TxtM (.string ((S ++ A) ++ ⟨#[44]⟩)) (l ++ [k]) := by
 refine ⟨_, rfl, ?_⟩
 simp [ByteArray.data_append, h, ← ha, bodyM_app]
theorem num_calls (n : Int) (w : World) : Calls Tryz.prog 9 #[.int .i64 n] w fun e w' => e = .returned (.int .i64 n) ∧ w' = w := by
 go_enter Tryz.func9, Tryz.ntmps9
 go_wp2
 go_ret
 exact ⟨rfl, rfl⟩
def ExprC (W w : World) (S : ByteArray) (good : Bool) : Prop := Calls Tryz.prog 7 #[.string S, .bool false] w fun e w' => Keeps W w' ∧ ∃ (k : Int) (t : ByteArray) (a : Option Addr) (l c : Nat) (f o : Int) (A : Int),
  e = .returned (.tuple #[.agg #[.int .i64 k, .string t, .slice a l c, .int .i64 f, .int .i64 o], .int .i64 A, .int .i64 0]) ∧
  ∀ w2, Keeps w' w2 → Calls Tryz.prog 8 #[.agg #[.int .i64 k, .string t, .slice a l c, .int .i64 f, .int .i64 o]] w2 fun e w3 => Keeps W w3 ∧ ∃ (k : Int) (t : ByteArray) (a : Option Addr) (l c : Nat) (f o : Int) (B : Int),
   e = .returned (.tuple #[.agg #[.int .i64 k, .string t, .slice a l c, .int .i64 f, .int .i64 o], .int .i64 B, .int .i64 (if good = true then 0 else 900)])
def ExprG (W w : World) (S : ByteArray) (good : Bool) : Prop := Calls Tryz.prog 7 #[.string S, .bool false] w fun e w' => Keeps W w' ∧ ∃ (k : Int) (t : ByteArray) (a : Option Addr) (l c : Nat) (f o : Int) (A : Int),
  e = .returned (.tuple #[.agg #[.int .i64 k, .string t, .slice a l c, .int .i64 f, .int .i64 o], .int .i64 A, .int .i64 (if good = true then 0 else 1003)])
set_option maxHeartbeats 8000000 in
set_option maxRecDepth 1000000 in
theorem cover_walk (a : Option Addr) (len cap : Nat) (z : Nat → Int) (W : World) (hlen : len ≤ maxLen) (hz : ∀ i, i < len → ∃ b off, a = some ⟨b, off, none⟩ ∧ W.cell? ⟨b, off + i, none⟩ = some (.int .i64 (z i)))
  (hAw : ∀ w, Keeps W w → Calls Tryz.prog 6 #[] w fun e w' => e = .returned (.bool true) ∧ Keeps w w')
  (hX : ∀ w, Keeps W w → ExprC W w ⟨(91 :: bodyM (picksM z (min len 12)) ++ [93]).toArray⟩ (goodM (picksM z (min len 12))))
  (hG : ∀ w, Keeps W w → ExprG W w ⟨(91 :: bodyM (picksM z (min len 12)) ++ [93, 32, 61, 32, 122]).toArray⟩ (goodM (picksM z (min len 12)))) :
  Calls Tryz.prog 3 #[.slice a len cap] W fun e w' => e = .returned (.bool true) ∧ Keeps W w' := by
 go_enter Tryz.func3, Tryz.ntmps3
 go_wp2_with (first
   | (go_at_call 6; refine (hAw _ (Keeps.refl _)).mono ?_; rintro e w1 ⟨rfl, hk1⟩))
 go_loopw [3, 4, 5] (fun s f i wr => ∃ j : Nat, j ≤ min len 12 ∧ TxtM s (picksM z j) ∧ f = .bool (goodM (picksM z j)) ∧ i = .int .i64 (j : Nat) ∧ Keeps W wr) (fun _ _ i _ => 12 - (intM i).toNat)
 case atStart =>
  exact ⟨0, Nat.zero_le _, ⟨_, rfl, rfl⟩, rfl, rfl, hk1⟩
 case round =>
  obtain ⟨j, hj, ⟨S, rfl, hS⟩, rfl, rfl, hk⟩ := hrel
  have hSz : S.size ≤ 1 + 14 * j := by
   have := congrArg List.length hS
   have h2 := bodyM_le z j
   simp only [List.length_cons, Array.length_toList] at this
   show S.data.size ≤ _
   omega
  have hcap : len < 9223372036854775808 := by unfold maxLen at hlen; omega
  by_cases hlt : j < len
  ·by_cases h12 : j < 12
   ·obtain ⟨b, off, rfl, hcell⟩ := hz j hlt
    have hblk : b < W.heap.size := cell_lt hcell
    have hc2 : wr.cell? ⟨b, off + j, none⟩ = some (.int .i64 (z j)) := (Keeps.cell' hk (p := ⟨b, off + j, none⟩) hblk).trans hcell
    have i1 : (j : Int) < (len : Int) := by omega
    have i2 : (j : Int) < 12 := by omega
    have i3 : (0 : Int) ≤ (j : Int) := by omega
    have i4 : ((j : Int)).toNat = j := by omega
    have i5 : IntKind.i64.wrap ((j : Int) + 1) = (j : Int) + 1 := IntWalk.i64_in _ (by omega)
    have hk7 : kindM (z j) < 12 := kindM_lt _
    have hmod : (IntKind.u64.wrap (z j)).tmod 12 = (kindM (z j) : Int) := kindM_tmod _
    obtain ⟨c, hc⟩ : ∃ c, kindM (z j) = c := ⟨_, rfl⟩
    rw [hc] at hmod hk7
    have hcs : c = 0 ∨ c = 1 ∨ c = 2 ∨ c = 3 ∨ c = 4 ∨ c = 5 ∨ c = 6 ∨ c = 7 ∨ c = 8 ∨ c = 9 ∨ c = 10 ∨ c = 11 := by omega
    clear hz hX hG hAw
    have hfb : goodM (picksM z j) = true ∨ goodM (picksM z j) = false := by cases goodM (picksM z j) <;> simp
    rcases hcs with rfl | rfl | rfl | rfl | rfl | rfl | rfl | rfl | rfl | rfl | rfl | rfl
    ·rcases hfb with hf | hf <;> rw [hf]
     ·have hm0 : (IntKind.u64.wrap (z j)).tmod 12 = 0 := hmod
      go_wp2
      refine ⟨⟨j + 1, by omega, ?_, ?_, ?_, hk.trans (Keeps.alloc _ _)⟩, by simp only [intM]; omega⟩
      ·exact TxtM.more hS (by rw [hc]; rfl)
      ·rw [picksM, goodM_app, hc, hf]; rfl
      ·exact congrArg (Value.int .i64) (by omega)
     ·have hm0 : (IntKind.u64.wrap (z j)).tmod 12 = 0 := hmod
      go_wp2
      refine ⟨⟨j + 1, by omega, ?_, ?_, ?_, hk.trans (Keeps.alloc _ _)⟩, by simp only [intM]; omega⟩
      ·exact TxtM.more hS (by rw [hc]; rfl)
      ·rw [picksM, goodM_app, hc, hf]; rfl
      ·exact congrArg (Value.int .i64) (by omega)
    ·rcases hfb with hf | hf <;> rw [hf]
     ·have hm0 : (IntKind.u64.wrap (z j)).tmod 12 = 1 := hmod
      go_wp2
      refine ⟨⟨j + 1, by omega, ?_, ?_, ?_, hk.trans (Keeps.alloc _ _)⟩, by simp only [intM]; omega⟩
      ·exact TxtM.more hS (by rw [hc]; rfl)
      ·rw [picksM, goodM_app, hc, hf]; rfl
      ·exact congrArg (Value.int .i64) (by omega)
     ·have hm0 : (IntKind.u64.wrap (z j)).tmod 12 = 1 := hmod
      go_wp2
      refine ⟨⟨j + 1, by omega, ?_, ?_, ?_, hk.trans (Keeps.alloc _ _)⟩, by simp only [intM]; omega⟩
      ·exact TxtM.more hS (by rw [hc]; rfl)
      ·rw [picksM, goodM_app, hc, hf]; rfl
      ·exact congrArg (Value.int .i64) (by omega)
    ·rcases hfb with hf | hf <;> rw [hf]
     ·have hm0 : (IntKind.u64.wrap (z j)).tmod 12 = 2 := hmod
      go_wp2
      refine ⟨⟨j + 1, by omega, ?_, ?_, ?_, hk.trans (Keeps.alloc _ _)⟩, by simp only [intM]; omega⟩
      ·exact TxtM.more hS (by rw [hc]; rfl)
      ·rw [picksM, goodM_app, hc, hf]; rfl
      ·exact congrArg (Value.int .i64) (by omega)
     ·have hm0 : (IntKind.u64.wrap (z j)).tmod 12 = 2 := hmod
      go_wp2
      refine ⟨⟨j + 1, by omega, ?_, ?_, ?_, hk.trans (Keeps.alloc _ _)⟩, by simp only [intM]; omega⟩
      ·exact TxtM.more hS (by rw [hc]; rfl)
      ·rw [picksM, goodM_app, hc, hf]; rfl
      ·exact congrArg (Value.int .i64) (by omega)
    ·rcases hfb with hf | hf <;> rw [hf]
     ·have hm0 : (IntKind.u64.wrap (z j)).tmod 12 = 3 := hmod
      go_wp2
      refine ⟨⟨j + 1, by omega, ?_, ?_, ?_, hk.trans (Keeps.alloc _ _)⟩, by simp only [intM]; omega⟩
      ·exact TxtM.more hS (by rw [hc]; rfl)
      ·rw [picksM, goodM_app, hc, hf]; rfl
      ·exact congrArg (Value.int .i64) (by omega)
     ·have hm0 : (IntKind.u64.wrap (z j)).tmod 12 = 3 := hmod
      go_wp2
      refine ⟨⟨j + 1, by omega, ?_, ?_, ?_, hk.trans (Keeps.alloc _ _)⟩, by simp only [intM]; omega⟩
      ·exact TxtM.more hS (by rw [hc]; rfl)
      ·rw [picksM, goodM_app, hc, hf]; rfl
      ·exact congrArg (Value.int .i64) (by omega)
    ·rcases hfb with hf | hf <;> rw [hf]
     ·have hm0 : (IntKind.u64.wrap (z j)).tmod 12 = 4 := hmod
      go_wp2
      refine ⟨⟨j + 1, by omega, ?_, ?_, ?_, hk.trans (Keeps.alloc _ _)⟩, by simp only [intM]; omega⟩
      ·exact TxtM.more hS (by rw [hc]; rfl)
      ·rw [picksM, goodM_app, hc, hf]; rfl
      ·exact congrArg (Value.int .i64) (by omega)
     ·have hm0 : (IntKind.u64.wrap (z j)).tmod 12 = 4 := hmod
      go_wp2
      refine ⟨⟨j + 1, by omega, ?_, ?_, ?_, hk.trans (Keeps.alloc _ _)⟩, by simp only [intM]; omega⟩
      ·exact TxtM.more hS (by rw [hc]; rfl)
      ·rw [picksM, goodM_app, hc, hf]; rfl
      ·exact congrArg (Value.int .i64) (by omega)
    ·rcases hfb with hf | hf <;> rw [hf]
     ·have hm0 : (IntKind.u64.wrap (z j)).tmod 12 = 5 := hmod
      go_wp2
      refine ⟨⟨j + 1, by omega, ?_, ?_, ?_, hk.trans (Keeps.alloc _ _)⟩, by simp only [intM]; omega⟩
      ·exact TxtM.more hS (by rw [hc]; rfl)
      ·rw [picksM, goodM_app, hc, hf]; rfl
      ·exact congrArg (Value.int .i64) (by omega)
     ·have hm0 : (IntKind.u64.wrap (z j)).tmod 12 = 5 := hmod
      go_wp2
      refine ⟨⟨j + 1, by omega, ?_, ?_, ?_, hk.trans (Keeps.alloc _ _)⟩, by simp only [intM]; omega⟩
      ·exact TxtM.more hS (by rw [hc]; rfl)
      ·rw [picksM, goodM_app, hc, hf]; rfl
      ·exact congrArg (Value.int .i64) (by omega)
    ·rcases hfb with hf | hf <;> rw [hf]
     ·have hm0 : (IntKind.u64.wrap (z j)).tmod 12 = 6 := hmod
      go_wp2
      refine ⟨⟨j + 1, by omega, ?_, ?_, ?_, hk.trans (Keeps.alloc _ _)⟩, by simp only [intM]; omega⟩
      ·exact TxtM.more hS (by rw [hc]; rfl)
      ·rw [picksM, goodM_app, hc, hf]; rfl
      ·exact congrArg (Value.int .i64) (by omega)
     ·have hm0 : (IntKind.u64.wrap (z j)).tmod 12 = 6 := hmod
      go_wp2
      refine ⟨⟨j + 1, by omega, ?_, ?_, ?_, hk.trans (Keeps.alloc _ _)⟩, by simp only [intM]; omega⟩
      ·exact TxtM.more hS (by rw [hc]; rfl)
      ·rw [picksM, goodM_app, hc, hf]; rfl
      ·exact congrArg (Value.int .i64) (by omega)
    ·rcases hfb with hf | hf <;> rw [hf]
     ·have hm0 : (IntKind.u64.wrap (z j)).tmod 12 = 7 := hmod
      go_wp2
      refine ⟨⟨j + 1, by omega, ?_, ?_, ?_, hk.trans (Keeps.alloc _ _)⟩, by simp only [intM]; omega⟩
      ·exact TxtM.more hS (by rw [hc]; rfl)
      ·rw [picksM, goodM_app, hc, hf]; rfl
      ·exact congrArg (Value.int .i64) (by omega)
     ·have hm0 : (IntKind.u64.wrap (z j)).tmod 12 = 7 := hmod
      go_wp2
      refine ⟨⟨j + 1, by omega, ?_, ?_, ?_, hk.trans (Keeps.alloc _ _)⟩, by simp only [intM]; omega⟩
      ·exact TxtM.more hS (by rw [hc]; rfl)
      ·rw [picksM, goodM_app, hc, hf]; rfl
      ·exact congrArg (Value.int .i64) (by omega)
    ·rcases hfb with hf | hf <;> rw [hf]
     ·have hm0 : (IntKind.u64.wrap (z j)).tmod 12 = 8 := hmod
      go_wp2
      refine ⟨⟨j + 1, by omega, ?_, ?_, ?_, hk.trans (Keeps.alloc _ _)⟩, by simp only [intM]; omega⟩
      ·exact TxtM.more hS (by rw [hc]; rfl)
      ·rw [picksM, goodM_app, hc, hf]; rfl
      ·exact congrArg (Value.int .i64) (by omega)
     ·have hm0 : (IntKind.u64.wrap (z j)).tmod 12 = 8 := hmod
      go_wp2
      refine ⟨⟨j + 1, by omega, ?_, ?_, ?_, hk.trans (Keeps.alloc _ _)⟩, by simp only [intM]; omega⟩
      ·exact TxtM.more hS (by rw [hc]; rfl)
      ·rw [picksM, goodM_app, hc, hf]; rfl
      ·exact congrArg (Value.int .i64) (by omega)
    ·rcases hfb with hf | hf <;> rw [hf]
     ·have hm0 : (IntKind.u64.wrap (z j)).tmod 12 = 9 := hmod
      go_wp2
      refine ⟨⟨j + 1, by omega, ?_, ?_, ?_, hk.trans (Keeps.alloc _ _)⟩, by simp only [intM]; omega⟩
      ·exact TxtM.more hS (by rw [hc]; rfl)
      ·rw [picksM, goodM_app, hc, hf]; rfl
      ·exact congrArg (Value.int .i64) (by omega)
     ·have hm0 : (IntKind.u64.wrap (z j)).tmod 12 = 9 := hmod
      go_wp2
      refine ⟨⟨j + 1, by omega, ?_, ?_, ?_, hk.trans (Keeps.alloc _ _)⟩, by simp only [intM]; omega⟩
      ·exact TxtM.more hS (by rw [hc]; rfl)
      ·rw [picksM, goodM_app, hc, hf]; rfl
      ·exact congrArg (Value.int .i64) (by omega)
    ·rcases hfb with hf | hf <;> rw [hf]
     ·have hm0 : (IntKind.u64.wrap (z j)).tmod 12 = 10 := hmod
      go_wp2
      refine ⟨⟨j + 1, by omega, ?_, ?_, ?_, hk.trans (Keeps.alloc _ _)⟩, by simp only [intM]; omega⟩
      ·exact TxtM.more hS (by rw [hc]; rfl)
      ·rw [picksM, goodM_app, hc, hf]; rfl
      ·exact congrArg (Value.int .i64) (by omega)
     ·have hm0 : (IntKind.u64.wrap (z j)).tmod 12 = 10 := hmod
      go_wp2
      refine ⟨⟨j + 1, by omega, ?_, ?_, ?_, hk.trans (Keeps.alloc _ _)⟩, by simp only [intM]; omega⟩
      ·exact TxtM.more hS (by rw [hc]; rfl)
      ·rw [picksM, goodM_app, hc, hf]; rfl
      ·exact congrArg (Value.int .i64) (by omega)
    ·rcases hfb with hf | hf <;> rw [hf]
     ·have hm0 : (IntKind.u64.wrap (z j)).tmod 12 = 11 := hmod
      go_wp2
      refine ⟨⟨j + 1, by omega, ?_, ?_, ?_, hk.trans (Keeps.alloc _ _)⟩, by simp only [intM]; omega⟩
      ·exact TxtM.more hS (by rw [hc]; rfl)
      ·rw [picksM, goodM_app, hc, hf]; rfl
      ·exact congrArg (Value.int .i64) (by omega)
     ·have hm0 : (IntKind.u64.wrap (z j)).tmod 12 = 11 := hmod
      go_wp2
      refine ⟨⟨j + 1, by omega, ?_, ?_, ?_, hk.trans (Keeps.alloc _ _)⟩, by simp only [intM]; omega⟩
      ·exact TxtM.more hS (by rw [hc]; rfl)
      ·rw [picksM, goodM_app, hc, hf]; rfl
      ·exact congrArg (Value.int .i64) (by omega)
   ·have i2 : ¬ ((j : Int) < 12) := by omega
    have i1 : (j : Int) < (len : Int) := by omega
    have hmin : min len 12 = j := by omega
    rw [hmin] at hX hG
    generalize picksM z j = L at hS hX hG
    clear hz hAw
    have hX' : ∀ w S', Keeps W w → S'.data.toList = 91 :: bodyM L ++ [93] → ExprC W w S' (goodM L) := fun w S' hw hS' => by
     have e : S' = ⟨(91 :: bodyM L ++ [93]).toArray⟩ := by
      rcases S' with ⟨l⟩; simp only at hS'; rw [← hS']
     rw [e]; exact hX w hw
    have hG' : ∀ w S', Keeps W w → S'.data.toList = 91 :: bodyM L ++ [93, 32, 61, 32, 122] → ExprG W w S' (goodM L) := fun w S' hw hS' => by
     have e : S' = ⟨(91 :: bodyM L ++ [93, 32, 61, 32, 122]).toArray⟩ := by
      rcases S' with ⟨l⟩; simp only at hS'; rw [← hS']
     rw [e]; exact hG w hw
    clear hX hG
    rcases (show goodM L = true ∨ goodM L = false by cases goodM L <;> simp) with hf | hf <;> rw [hf] at hX' hG' ⊢
    all_goals
     simp only [ExprC, ExprG, if_true, if_false, Bool.false_eq_true] at hX' hG'
     go_wp2_with (first
      | (go_at_call 9; refine (num_calls _ _).mono ?_; rintro e w9 ⟨rfl, rfl⟩)
      | (go_at_call 8; refine (hP _ (Keeps.alloc _ _)).mono ?_; rintro e w3 ⟨hk3, y1, y2, y3, y4, y5, y6, y7, B, rfl⟩)
      | (go_at_call 7; refine (hX' _ _ hk (by simp [ByteArray.data_append, hS])).mono ?_; rintro e w2 ⟨hk2, x1, x2, x3, x4, x5, x6, x7, A, rfl, hP⟩)
      | (go_at_call 7; refine (hG' _ _ (hk3.trans (Keeps.alloc _ _)) (by simp [ByteArray.data_append, hS])).mono ?_; rintro e w4 ⟨hk4, z1, z2, z3, z4, z5, z6, z7, C, rfl⟩))
     all_goals go_ret
     all_goals exact ⟨rfl, hk4.trans (Keeps.alloc _ _)⟩
  ·have i1 : ¬ ((j : Int) < (len : Int)) := by omega
   have hmin : min len 12 = j := by omega
   rw [hmin] at hX hG
   generalize picksM z j = L at hS hX hG
   clear hz hAw
   have hX' : ∀ w S', Keeps W w → S'.data.toList = 91 :: bodyM L ++ [93] → ExprC W w S' (goodM L) := fun w S' hw hS' => by
    have e : S' = ⟨(91 :: bodyM L ++ [93]).toArray⟩ := by
     rcases S' with ⟨l⟩; simp only at hS'; rw [← hS']
    rw [e]; exact hX w hw
   have hG' : ∀ w S', Keeps W w → S'.data.toList = 91 :: bodyM L ++ [93, 32, 61, 32, 122] → ExprG W w S' (goodM L) := fun w S' hw hS' => by
    have e : S' = ⟨(91 :: bodyM L ++ [93, 32, 61, 32, 122]).toArray⟩ := by
     rcases S' with ⟨l⟩; simp only at hS'; rw [← hS']
    rw [e]; exact hG w hw
   clear hX hG
   rcases (show goodM L = true ∨ goodM L = false by cases goodM L <;> simp) with hf | hf <;> rw [hf] at hX' hG' ⊢
   all_goals
    simp only [ExprC, ExprG, if_true, if_false, Bool.false_eq_true] at hX' hG'
    go_wp2_with (first
     | (go_at_call 9; refine (num_calls _ _).mono ?_; rintro e w9 ⟨rfl, rfl⟩)
     | (go_at_call 8; refine (hP _ (Keeps.alloc _ _)).mono ?_; rintro e w3 ⟨hk3, y1, y2, y3, y4, y5, y6, y7, B, rfl⟩)
     | (go_at_call 7; refine (hX' _ _ hk (by simp [ByteArray.data_append, hS])).mono ?_; rintro e w2 ⟨hk2, x1, x2, x3, x4, x5, x6, x7, A, rfl, hP⟩)
     | (go_at_call 7; refine (hG' _ _ (hk3.trans (Keeps.alloc _ _)) (by simp [ByteArray.data_append, hS])).mono ?_; rintro e w4 ⟨hk4, z1, z2, z3, z4, z5, z6, z7, C, rfl⟩))
    all_goals go_ret
    all_goals exact ⟨rfl, hk4.trans (Keeps.alloc _ _)⟩
end Go.Proofs.YtgpibpkplhlihaaGreatDoor
