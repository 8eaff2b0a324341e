/- The walk of the law ScopeVars: it builds the text and the names that are wanted out of the picks; what the calls of the parser and of Vars answer is asked for. -/
import Derived.Test.YtgpibpkplhlihaaGreatDoorScopeD
import Derived.Test.YtgpibpkplhlihaaGreatDoorEvTmG
import Derived.Below
import Derived.WalkKit
import Derived.WalkSmall
import Derived.Laws.Cells
import Derived.ChangeArms
import Derived.DataReads
import Derived.ChangeOld
import Derived.IntWalk
import Derived.Laws.Bits64
namespace Go.Proofs.YtgpibpkplhlihaaGreatDoor
open Go Go.Ev Go.RowKit Go.Proofs
set_option linter.unusedVariables false
set_option linter.unusedSimpArgs false
theorem Keeps.cell' {w w' : World} (h : Keeps w w') {p : Addr} (hp : p.block < w.heap.size) : w'.cell? p = w.cell? p := World.cell?_of_block (w := w) (h.block p.block hp)
def digB (j : Nat) : List UInt8 := if j < 10 then [UInt8.ofNat (48 + j)] else [49, UInt8.ofNat (38 + j)]
def dB (j : Nat) : ByteArray := ⟨(digB j).toArray⟩
def vB (j : Nat) : ByteArray := ⟨#[118]⟩ ++ dB j
def nmB (j : Nat) : List UInt8 := 118 :: digB j
theorem vB_list (j : Nat) : (vB j).data.toList = nmB j := by simp [vB, dB, nmB, ByteArray.data_append]
theorem digB_len (j : Nat) : (digB j).length ≤ 2 := by unfold digB; split <;> simp
theorem dB_size (j : Nat) : (dB j).size ≤ 2 := digB_len j
def altV (nm : List UInt8) : Nat → List UInt8
 | 0 => [118, 97, 114, 32] ++ nm ++ [59]
 | 1 => [123, 32, 118, 97, 114, 32] ++ nm ++ [32, 125]
 | 2 => [105, 102, 32, 40, 97, 41, 32, 118, 97, 114, 32] ++ nm ++ [59, 32, 101, 108, 115, 101, 32, 98, 59]
 | 3 => [102, 111, 114, 32, 40, 118, 97, 114, 32] ++ nm ++ [32, 105, 110, 32, 97, 41, 59]
 | 4 => [119, 104, 105, 108, 101, 32, 40, 97, 41, 32, 123, 32, 123, 32, 118, 97, 114, 32] ++ nm ++ [32, 125, 32, 125]
 | 5 => [116, 114, 121, 32, 123, 32, 125, 32, 99, 97, 116, 99, 104, 32, 123, 32, 118, 97, 114, 32] ++ nm ++ [32, 125]
 | 6 => [115, 119, 105, 116, 99, 104, 32, 40, 97, 41, 32, 123, 32, 99, 97, 115, 101, 32, 49, 58, 32, 118, 97, 114, 32] ++ nm ++ [32, 125]
 | 7 => [108, 58, 32, 118, 97, 114, 32] ++ nm ++ [59]
 | 8 => [102, 117, 110, 99, 116, 105, 111, 110, 32, 102] ++ nm ++ [40, 41, 32, 123, 32, 118, 97, 114, 32] ++ nm ++ [32, 125]
 | 9 => [40, 40, 41, 32, 61, 62, 32, 123, 32, 118, 97, 114, 32] ++ nm ++ [32, 125, 41, 59]
 | _ => [108, 101, 116, 32] ++ nm ++ [59]
def bodyV : Nat → List Nat → List UInt8
 | _, [] => []
 | j, k :: ks => altV (nmB j) k ++ bodyV (j + 1) ks
theorem bodyV_app (k : Nat) : ∀ (l : List Nat) (j : Nat), bodyV j (l ++ [k]) = bodyV j l ++ altV (nmB (j + l.length)) k
 | [], j => by simp [bodyV]
 | x :: l, j => by
  simp only [List.cons_append, bodyV, bodyV_app k l (j + 1), List.append_assoc, List.length_cons]
  rw [show j + 1 + l.length = j + (l.length + 1) by omega]
def wantV : Nat → List Nat → List ByteArray
 | _, [] => []
 | j, k :: ks => (if k < 8 then [vB j] else []) ++ wantV (j + 1) ks
theorem wantV_app (k : Nat) : ∀ (l : List Nat) (j : Nat), wantV j (l ++ [k]) = wantV j l ++ (if k < 8 then [vB (j + l.length)] else [])
 | [], j => by simp [wantV]
 | x :: l, j => by
  simp only [List.cons_append, wantV, wantV_app k l (j + 1), List.append_assoc, List.length_cons]
  rw [show j + 1 + l.length = j + (l.length + 1) by omega]
theorem wantV_len : ∀ (l : List Nat) (j : Nat), (wantV j l).length ≤ l.length
 | [], _ => Nat.le_refl _
 | k :: l, j => by
  have := wantV_len l (j + 1)
  rw [wantV, List.length_append, List.length_cons]
  split <;> simp <;> omega
def intW : Value → Int
 | .int _ n => n
 | _ => 0
def kindV (z : Int) : Nat := (IntKind.u64.wrap z % 11).toNat
def picksV (z : Nat → Int) : Nat → List Nat
 | 0 => []
 | n + 1 => picksV z n ++ [kindV (z n)]
theorem u64_nonneg (z : Int) : 0 ≤ IntKind.u64.wrap z ∧ IntKind.u64.wrap z < 18446744073709551616 := by
 rw [IntKind.wrap_u64]; omega
theorem kindV_lt (z : Int) : kindV z < 11 := by
 unfold kindV; have := (u64_nonneg z).1; omega
theorem kindV_tmod (z : Int) : (IntKind.u64.wrap z).tmod 11 = (kindV z : Int) := by
 unfold kindV
 have := (u64_nonneg z).1
 rw [Int.tmod_eq_emod_of_nonneg this]
 omega
theorem kindV_all (z : Int) (h : kindV z < 11) : (kindV z = 0 ∧ (IntKind.u64.wrap z).tmod 11 = 0 ∨ kindV z = 1 ∧ (IntKind.u64.wrap z).tmod 11 = 1 ∨ kindV z = 2 ∧ (IntKind.u64.wrap z).tmod 11 = 2 ∨ kindV z = 3 ∧ (IntKind.u64.wrap z).tmod 11 = 3 ∨ kindV z = 4 ∧ (IntKind.u64.wrap z).tmod 11 = 4 ∨ kindV z = 5 ∧ (IntKind.u64.wrap z).tmod 11 = 5 ∨ kindV z = 6 ∧ (IntKind.u64.wrap z).tmod 11 = 6 ∨ kindV z = 7 ∧ (IntKind.u64.wrap z).tmod 11 = 7) ∨ (kindV z = 8 ∧ (IntKind.u64.wrap z).tmod 11 = 8 ∨ kindV z = 9 ∧ (IntKind.u64.wrap z).tmod 11 = 9 ∨ kindV z = 10 ∧ (IntKind.u64.wrap z).tmod 11 = 10) := by
 have ht := kindV_tmod z
 generalize kindV z = c at h ht ⊢
 have hc : c = 0 ∨ c = 1 ∨ c = 2 ∨ c = 3 ∨ c = 4 ∨ c = 5 ∨ c = 6 ∨ c = 7 ∨ c = 8 ∨ c = 9 ∨ c = 10 := by omega
 rcases hc with rfl | rfl | rfl | rfl | rfl | rfl | rfl | rfl | rfl | rfl | rfl <;> simpa using ht
theorem picksV_len (z : Nat → Int) (n : Nat) : (picksV z n).length = n := by
 induction n with
 | zero => rfl
 | succ n ih => simp [picksV, ih]
theorem altV_le (j k : Nat) : (altV (nmB j) k).length ≤ 40 := by
 have := digB_len j
 unfold altV nmB
 split <;> simp <;> omega
theorem bodyV_le : ∀ (l : List Nat) (j : Nat), (bodyV j l).length ≤ 40 * l.length
 | [], _ => by simp [bodyV]
 | k :: l, j => by
  have h1 := bodyV_le l (j + 1)
  have h2 := altV_le j k
  rw [bodyV, List.length_append, List.length_cons]
  omega
theorem cell_lt {w : World} {a : Addr} {v : Value} (h : w.cell? a = some v) : a.block < w.heap.size := by
 unfold World.cell? at h
 split at h
 ·rename_i hb; exact (Array.getElem?_eq_some_iff.1 hb).1
 ·cases h
def TxtV (s : Value) (l : List Nat) : Prop := ∃ S : ByteArray, s = .string S ∧ S.data.toList = bodyV 0 l
theorem TxtV.more {z : Nat → Int} {j c : Nat} {S A T : ByteArray} (h : S.data.toList = bodyV 0 (picksV z j)) (hc : kindV (z j) = c) (ha : A.data.toList = altV (nmB j) c) (hT : T = S ++ A) : TxtV (.string T) (picksV z (j + 1)) := by
 subst hT
 refine ⟨_, rfl, ?_⟩
 rw [picksV, bodyV_app, picksV_len, hc, Nat.zero_add, ← h, ← ha]
 simp [ByteArray.data_append]
theorem altV_0 (j : Nat) : (((⟨#[118, 97, 114, 32]⟩ ++ vB j) ++ ⟨#[59]⟩) : ByteArray).data.toList = altV (nmB j) 0 := by simp [ByteArray.data_append, altV, ← vB_list]
theorem altV_1 (j : Nat) : (((⟨#[123, 32, 118, 97, 114, 32]⟩ ++ vB j) ++ ⟨#[32, 125]⟩) : ByteArray).data.toList = altV (nmB j) 1 := by simp [ByteArray.data_append, altV, ← vB_list]
theorem altV_2 (j : Nat) : (((⟨#[105, 102, 32, 40, 97, 41, 32, 118, 97, 114, 32]⟩ ++ vB j) ++ ⟨#[59, 32, 101, 108, 115, 101, 32, 98, 59]⟩) : ByteArray).data.toList = altV (nmB j) 2 := by simp [ByteArray.data_append, altV, ← vB_list]
theorem altV_3 (j : Nat) : (((⟨#[102, 111, 114, 32, 40, 118, 97, 114, 32]⟩ ++ vB j) ++ ⟨#[32, 105, 110, 32, 97, 41, 59]⟩) : ByteArray).data.toList = altV (nmB j) 3 := by simp [ByteArray.data_append, altV, ← vB_list]
theorem altV_4 (j : Nat) : (((⟨#[119, 104, 105, 108, 101, 32, 40, 97, 41, 32, 123, 32, 123, 32, 118, 97, 114, 32]⟩ ++ vB j) ++ ⟨#[32, 125, 32, 125]⟩) : ByteArray).data.toList = altV (nmB j) 4 := by simp [ByteArray.data_append, altV, ← vB_list]
theorem altV_5 (j : Nat) : (((⟨#[116, 114, 121, 32, 123, 32, 125, 32, 99, 97, 116, 99, 104, 32, 123, 32, 118, 97, 114, 32]⟩ ++ vB j) ++ ⟨#[32, 125]⟩) : ByteArray).data.toList = altV (nmB j) 5 := by simp [ByteArray.data_append, altV, ← vB_list]
theorem altV_6 (j : Nat) : (((⟨#[115, 119, 105, 116, 99, 104, 32, 40, 97, 41, 32, 123, 32, 99, 97, 115, 101, 32, 49, 58, 32, 118, 97, 114, 32]⟩ ++ vB j) ++ ⟨#[32, 125]⟩) : ByteArray).data.toList = altV (nmB j) 6 := by simp [ByteArray.data_append, altV, ← vB_list]
theorem altV_7 (j : Nat) : (((⟨#[108, 58, 32, 118, 97, 114, 32]⟩ ++ vB j) ++ ⟨#[59]⟩) : ByteArray).data.toList = altV (nmB j) 7 := by simp [ByteArray.data_append, altV, ← vB_list]
theorem altV_8 (j : Nat) : (((((⟨#[102, 117, 110, 99, 116, 105, 111, 110, 32, 102]⟩ ++ vB j) ++ ⟨#[40, 41, 32, 123, 32, 118, 97, 114, 32]⟩) ++ vB j) ++ ⟨#[32, 125]⟩) : ByteArray).data.toList = altV (nmB j) 8 := by simp [ByteArray.data_append, altV, ← vB_list]
theorem altV_9 (j : Nat) : (((⟨#[40, 40, 41, 32, 61, 62, 32, 123, 32, 118, 97, 114, 32]⟩ ++ vB j) ++ ⟨#[32, 125, 41, 59]⟩) : ByteArray).data.toList = altV (nmB j) 9 := by simp [ByteArray.data_append, altV, ← vB_list]
theorem altV_10 (j : Nat) : (((⟨#[108, 101, 116, 32]⟩ ++ vB j) ++ ⟨#[59]⟩) : ByteArray).data.toList = altV (nmB j) 10 := by simp [ByteArray.data_append, altV, ← vB_list]
def OwnS (base : Nat) (v : Value) (l : List ByteArray) (w : World) : Prop := w.ownsRow base 9 1 v l.length (l.map .string)
theorem own_keeps {w w' : World} {base e size n : Nat} {v : Value} {xs : List Value} (h : w.ownsRow base e size v n xs) (hk : Keeps w w') : w'.ownsRow base e size v n xs :=
 own_same h fun k hk2 => hk.block k (own_at h hk2).2
theorem ownS_more {base k c j : Nat} {z : Nat → Int} {v : Value} {w : World} (hk : k = (wantV 0 (picksV z j)).length) (hc : kindV (z j) = c) (h8 : c < 8) (h : w.ownsRow base 9 1 v (k + 1) ((wantV 0 (picksV z j)).map Value.string ++ [.string (vB j)])) : OwnS base v (wantV 0 (picksV z (j + 1))) w := by
 have e : wantV 0 (picksV z (j + 1)) = wantV 0 (picksV z j) ++ [vB j] := by rw [picksV, wantV_app, hc, if_pos h8, picksV_len, Nat.zero_add]
 unfold OwnS
 rw [e, List.length_append, List.map_append, ← hk]
 exact h
theorem ownS_same {base k c j : Nat} {z : Nat → Int} {v : Value} {w : World} (hk : k = (wantV 0 (picksV z j)).length) (hc : kindV (z j) = c) (h8 : ¬ c < 8) (h : w.ownsRow base 9 1 v k ((wantV 0 (picksV z j)).map Value.string)) : OwnS base v (wantV 0 (picksV z (j + 1))) w := by
 have e : wantV 0 (picksV z (j + 1)) = wantV 0 (picksV z j) := by rw [picksV, wantV_app, hc, if_neg h8, List.append_nil]
 unfold OwnS
 rw [e, ← hk]
 exact h
theorem own_k {base k : Nat} {v : Value} {l : List ByteArray} {w : World} (hk : k = l.length) (h : OwnS base v l w) : w.ownsRow base 9 1 v k (l.map .string) := by subst hk; exact h
theorem news_str (w1 : World) (o : Obj) (s : ByteArray) (t : TypeId) : ∀ j u, [Value.string s][j]? = some u → ((w1.alloc o).alloc (.cells #[.string s] t)).cell? ((⟨w1.heap.size + 1, 0, none⟩ : Addr).add j) = some u := by
 have := cell_one_new (w1.alloc o) (.string s) t
 rwa [World.size_alloc] at this
theorem keeps_grown {W w1 w2 : World} {o o' : Obj} {row : Option Nat} (h : Keeps W w1) (hg : ((w1.alloc o).alloc o').grownBy w2 row) (hr : ∀ k, row = some k → W.heap.size ≤ k) : Keeps W w2 := by
 refine ⟨hg.os.trans h.os, hg.output.trans h.out, ?_, fun k hk => ?_⟩
 ·have := hg.size
  have := h.size
  simp at *
  omega
 ·have hs := h.size
  refine (hg.block k (by simp; omega) fun e => by have := hr k e.symm; omega).trans ?_
  refine ((World.grownBy_alloc (w1.alloc o) o' none).block k (by simp; omega) (by simp)).trans ?_
  exact ((World.grownBy_alloc w1 o none).block k (by omega) (by simp)).trans (h.block k hk)
theorem ownS_shape {base : Nat} {v : Value} {l : List ByteArray} {w : World} (h : OwnS base v l w) : ∃ a cap, v = .slice a l.length cap ∧ ∀ i s, l[i]? = some s → ∃ b off, a = some ⟨b, off, none⟩ ∧ w.cell? ⟨b, off + i, none⟩ = some (.string s) := by
 rcases h.2 with ⟨rfl, h0⟩ | ⟨g, cap, cur, rfl, hb, hg, h1, h2, h3, h4⟩
 ·exact ⟨none, 0, by rw [h0], fun j x hx => by
   have := (List.getElem?_eq_some_iff.1 hx).1
   omega⟩
 ·refine ⟨some ⟨g, 0, none⟩, cap, rfl, fun j x hx => ⟨g, 0, rfl, ?_⟩⟩
  have hj := (List.getElem?_eq_some_iff.1 hx).1
  simp only [World.cell?, hg, Nat.zero_add]
  have : (cur.toList.take (l.length * 1))[j]? = some (.string x) := by rw [h4, List.getElem?_map, hx]; rfl
  rw [List.getElem?_take, if_pos (by omega)] at this
  simpa using this
theorem named_ok2 (w : World) (base : Nat) (v : Value) (L : List BN) (a : Option Addr) (n cap : Nat) (hown : Owned base v L w) (hn : n = L.length) (hw : ∀ j x, L[j]? = some x → ∃ b off, a = some ⟨b, off, none⟩ ∧ w.cell? ⟨b, off + j, none⟩ = some (.string x.1))
  (hinc : ∀ j x y, L[j]? = some x → L[j + 1]? = some y → x.2 < y.2) (hlen : L.length ≤ 1000) :
  Calls Tryz.prog 13 #[v, .slice a n cap] w fun e w' => e = .returned (.bool true) ∧ ∃ q, w' = w.drewN q := by
 subst hn
 exact named_ok w base v L a cap hown hw hinc hlen
theorem infoStr : (Tryz.prog.info? 9).map (fun i => (i.zero, i.size, i.bytes)) = some (some (.string ⟨#[]⟩), 1, 16) := by kernel_rfl
theorem numV_calls (n : Int) (w : World) : Calls Tryz.prog 9 #[.int .i64 n] w fun e w' => e = .returned (.int .i64 n) ∧ w' = w := by
 go_enter Tryz.func9, Tryz.ntmps9
 go_wp2
 go_ret
 exact ⟨rfl, rfl⟩
def ProgV (w : World) (S : ByteArray) (want : List ByteArray) : Prop := Calls Tryz.prog 12 #[.string S, .bool false] w fun e w' => Keeps w w' ∧ ∃ (t : ByteArray) (a : Option Addr) (l c : Nat) (f o : Int) (u : Value),
  e = .returned (.tuple #[.agg #[.int .i64 86, .string t, .slice a l c, .int .i64 f, .int .i64 o], u, .int .i64 0, .int .i64 0]) ∧
  ∀ w2, Keeps w' w2 → Calls Tryz.prog 16 #[.slice a l c] w2 fun e w3 => Keeps w2 w3 ∧ ∃ (v : Value) (L : List BN), e = .returned v ∧ Owned w2.heap.size v L w3 ∧ L.map (·.1) = want ∧ (∀ j x y, L[j]? = some x → L[j + 1]? = some y → x.2 < y.2)
set_option maxHeartbeats 8000000 in
set_option maxRecDepth 1000000 in
theorem vars_walk (a : Option Addr) (len cap : Nat) (z : Nat → Int) (W : World) (hlen : len ≤ maxLen) (hz : ∀ i, i < len → ∃ b off, a = some ⟨b, off, none⟩ ∧ W.cell? ⟨b, off + i, none⟩ = some (.int .i64 (z i)))
  (hAw : ∀ w, Keeps W w → Calls Tryz.prog 10 #[] w fun e w' => e = .returned (.bool true) ∧ Keeps w w')
  (hDec : ∀ j : Nat, j < 20 → ∀ w, Keeps W w → Calls Tryz.prog 11 #[.int .i64 (j : Int)] w fun e w' => e = .returned (.string (dB j)) ∧ Keeps w w')
  (hX : ∀ w, Keeps W w → ProgV w ⟨(bodyV 0 (picksV z (min len 20))).toArray⟩ (wantV 0 (picksV z (min len 20)))) :
  Calls Tryz.prog 5 #[.slice a len cap] W fun e w' => e = .returned (.bool true) ∧ Keeps W w' := by
 obtain ⟨i0, hi0, q0, q1, q2⟩ := info_parts infoStr
 go_enter Tryz.func5, Tryz.ntmps5
 go_wp2_with (first
   | (go_at_call 10; refine (hAw _ (Keeps.refl _)).mono ?_; rintro e w1 ⟨rfl, hk1⟩))
 go_loopw [3, 4, 5] (fun s v i wr => ∃ j : Nat, j ≤ min len 20 ∧ TxtV s (picksV z j) ∧ OwnS W.heap.size v (wantV 0 (picksV z j)) wr ∧ i = .int .i64 (j : Nat) ∧ Keeps W wr) (fun _ _ i _ => 20 - (intW i).toNat)
 case atStart =>
  exact ⟨0, Nat.zero_le _, ⟨_, rfl, rfl⟩, ⟨rfl, .inl ⟨rfl, rfl⟩⟩, rfl, hk1⟩
 case round =>
  obtain ⟨j, hj, ⟨S, rfl, hS⟩, ho, rfl, hk⟩ := hrel
  have hSz : S.size ≤ 40 * j := by
   have := congrArg List.length hS
   have h2 := bodyV_le (picksV z j) 0
   rw [picksV_len] at h2
   simp only [Array.length_toList] at this
   show S.data.size ≤ _
   omega
  have hcap : len < 9223372036854775808 := by unfold maxLen at hlen; omega
  by_cases hlt : j < len
  ·by_cases h12 : j < 20
   ·obtain ⟨b, off, rfl, hcell⟩ := hz j hlt
    have hblk : b < W.heap.size := cell_lt hcell
    have hbr : b < wr.heap.size := Nat.lt_of_lt_of_le hblk hk.size
    have hc2 : wr.cell? ⟨b, off + j, none⟩ = some (.int .i64 (z j)) := (Keeps.cell' hk (p := ⟨b, off + j, none⟩) hblk).trans hcell
    have i1 : (j : Int) < (len : Int) := by omega
    have i2 : (j : Int) < 20 := by omega
    have i3 : (0 : Int) ≤ (j : Int) := by omega
    have i4 : ((j : Int)).toNat = j := by omega
    have i5 : IntKind.i64.wrap ((j : Int) + 1) = (j : Int) + 1 := IntWalk.i64_in _ (by omega)
    have hk7 : kindV (z j) < 11 := kindV_lt _
    have hds := dB_size j
    have hwl := wantV_len (picksV z j) 0
    rw [picksV_len] at hwl
    obtain ⟨k, hkl⟩ : ∃ k, Hid (k = (wantV 0 (picksV z j)).length) := ⟨_, ⟨rfl⟩⟩
    have hk20 : k ≤ 20 := by rw [hkl.h]; omega
    have ho := own_k hkl.h ho
    clear hz hX hAw
    rcases kindV_all (z j) hk7 with hlo | hhi
    ·rcases hlo with ⟨hc, hm0⟩ | ⟨hc, hm0⟩ | ⟨hc, hm0⟩ | ⟨hc, hm0⟩ | ⟨hc, hm0⟩ | ⟨hc, hm0⟩ | ⟨hc, hm0⟩ | ⟨hc, hm0⟩
     all_goals
      go_wp2_with (first
       | (go_at_call 11; refine (hDec j h12 _ hk).mono ?_; rintro e w1 ⟨rfl, hk1⟩; have hc3 := (Keeps.cell' hk1 (p := ⟨b, off + j, none⟩) hbr).trans hc2; have ho1 := own_keeps ho hk1; have hb1 : b < w1.heap.size := Nat.lt_of_lt_of_le hbr hk1.size)
       | (at_builtin; refine wpList_append_own_at _ rfl _ _ _ rfl W.heap.size 9 i0 _ 1 16 Tryz.underlying25 hi0 q0 q1 q2 rfl (by decide) _ k _ rfl (World.ownsRow.alloc (World.ownsRow.alloc ho1 _) _) ⟨w1.heap.size + 1, 0, none⟩ 1 1 [.string (vB j)] rfl rfl (news_str w1 _ _ _) (by simp [Value.oneCell']) (by have : maxLen = 9223372036854775807 := rfl; omega) (by omega) (by have := hk.size; have := hk1.size; simp; omega) ?_; intro v' w2 hown' hgrow _ hat))
      have hkw := keeps_grown (hk.trans hk1) hgrow fun k hk2 => (own_at ho1 hk2).1
      refine ⟨⟨j + 1, by omega, ?_, ?_, ?_, hkw⟩, by simp only [intW]; omega⟩
      ·first | exact TxtV.more hS hc (altV_0 j) rfl | exact TxtV.more hS hc (altV_1 j) rfl | exact TxtV.more hS hc (altV_2 j) rfl | exact TxtV.more hS hc (altV_3 j) rfl | exact TxtV.more hS hc (altV_4 j) rfl | exact TxtV.more hS hc (altV_5 j) rfl | exact TxtV.more hS hc (altV_6 j) rfl | exact TxtV.more hS hc (altV_7 j) rfl
      ·exact ownS_more hkl.h hc (by decide) hown'
      ·exact congrArg (Value.int .i64) (by omega)
    ·rcases hhi with ⟨hc, hm0⟩ | ⟨hc, hm0⟩ | ⟨hc, hm0⟩
     all_goals
      go_wp2_with (go_at_call 11; refine (hDec j h12 _ hk).mono ?_; rintro e w1 ⟨rfl, hk1⟩; have hc3 := (Keeps.cell' hk1 (p := ⟨b, off + j, none⟩) hbr).trans hc2; have ho1 := own_keeps ho hk1; have hb1 : b < w1.heap.size := Nat.lt_of_lt_of_le hbr hk1.size)
      refine ⟨⟨j + 1, by omega, ?_, ?_, ?_, (hk.trans hk1).trans (Keeps.alloc _ _)⟩, by simp only [intW]; omega⟩
      ·first | exact TxtV.more hS hc (altV_8 j) rfl | exact TxtV.more hS hc (altV_9 j) rfl | exact TxtV.more hS hc (altV_10 j) rfl
      ·exact ownS_same hkl.h hc (by decide) (World.ownsRow.alloc ho1 _)
      ·exact congrArg (Value.int .i64) (by omega)
   ·have i1 : (j : Int) < (len : Int) := by omega
    have i2 : ¬ (j : Int) < 20 := by omega
    have hmin : min len 20 = j := by omega
    rw [hmin] at hX
    have hj20 : j ≤ 20 := by omega
    have hwl := wantV_len (picksV z j) 0
    rw [picksV_len] at hwl
    obtain ⟨a4, c4, rfl, hw4⟩ := ownS_shape ho
    have hS' : S = ⟨(bodyV 0 (picksV z j)).toArray⟩ := by
     rcases S with ⟨l⟩; simp only at hS; rw [← hS]
    subst hS'
    have hX' := hX _ hk
    generalize picksV z j = Lk at hX' hw4 hwl
    clear hX hz hAw hDec ho hS hSz
    generalize wantV 0 Lk = want at hX' hw4 hwl
    generalize (⟨(bodyV 0 Lk).toArray⟩ : ByteArray) = S at hX'
    go_wp2_with (first
     | (go_at_call 12; refine hX'.mono ?_; rintro e w2 ⟨hk2, x1, x2, x3, x4, x5, x6, x7, rfl, hV⟩)
     | (go_at_call 9; refine (numV_calls _ _).mono ?_; rintro e w9 ⟨rfl, rfl⟩)
     | (go_at_call 16; refine (hV _ (Keeps.alloc _ _)).mono ?_; rintro e w3 ⟨hk3, v, L, rfl, hown, hmap, hinc⟩)
     | (go_at_call 13; refine (named_ok2 w3 _ v L a4 _ c4 hown (by rw [← hmap, List.length_map]) (fun q x hx => (hw4 q x.1 (by rw [← hmap, List.getElem?_map, hx]; rfl)).imp fun b hb => hb.imp fun off hb => ⟨hb.1, ((Keeps.cell' ((hk2.trans (Keeps.alloc _ _)).trans hk3) (p := ⟨b, off + q, none⟩) (cell_lt hb.2)).trans hb.2)⟩) hinc (by rw [← hmap, List.length_map] at hwl; omega)).mono ?_; rintro e w4 ⟨rfl, q, rfl⟩))
    go_ret
    exact ⟨rfl, hk.trans (hk2.trans ((Keeps.alloc _ _).trans (hk3.trans ⟨rfl, rfl, Nat.le_refl _, fun _ _ => rfl⟩)))⟩
  ·have i1 : ¬ (j : Int) < (len : Int) := by omega
   have hmin : min len 20 = j := by omega
   rw [hmin] at hX
   have hj20 : j ≤ 20 := by omega
   have hwl := wantV_len (picksV z j) 0
   rw [picksV_len] at hwl
   obtain ⟨a4, c4, rfl, hw4⟩ := ownS_shape ho
   have hS' : S = ⟨(bodyV 0 (picksV z j)).toArray⟩ := by
    rcases S with ⟨l⟩; simp only at hS; rw [← hS]
   subst hS'
   have hX' := hX _ hk
   generalize picksV z j = Lk at hX' hw4 hwl
   clear hX hz hAw hDec ho hS hSz
   generalize wantV 0 Lk = want at hX' hw4 hwl
   generalize (⟨(bodyV 0 Lk).toArray⟩ : ByteArray) = S at hX'
   go_wp2_with (first
    | (go_at_call 12; refine hX'.mono ?_; rintro e w2 ⟨hk2, x1, x2, x3, x4, x5, x6, x7, rfl, hV⟩)
    | (go_at_call 9; refine (numV_calls _ _).mono ?_; rintro e w9 ⟨rfl, rfl⟩)
    | (go_at_call 16; refine (hV _ (Keeps.alloc _ _)).mono ?_; rintro e w3 ⟨hk3, v, L, rfl, hown, hmap, hinc⟩)
    | (go_at_call 13; refine (named_ok2 w3 _ v L a4 _ c4 hown (by rw [← hmap, List.length_map]) (fun q x hx => (hw4 q x.1 (by rw [← hmap, List.getElem?_map, hx]; rfl)).imp fun b hb => hb.imp fun off hb => ⟨hb.1, ((Keeps.cell' ((hk2.trans (Keeps.alloc _ _)).trans hk3) (p := ⟨b, off + q, none⟩) (cell_lt hb.2)).trans hb.2)⟩) hinc (by rw [← hmap, List.length_map] at hwl; omega)).mono ?_; rintro e w4 ⟨rfl, q, rfl⟩))
   go_ret
   exact ⟨rfl, hk.trans (hk2.trans ((Keeps.alloc _ _).trans (hk3.trans ⟨rfl, rfl, Nat.le_refl _, fun _ _ => rfl⟩)))⟩
end Go.Proofs.YtgpibpkplhlihaaGreatDoor
