/- The walk of the law ScopePatterns: it builds the text and the names that are wanted out of the picks; what the calls of the parser and of scope answer is asked for. -/
import Derived.Test.YtgpibpkplhlihaaGreatDoorScopeP
import Derived.Test.YtgpibpkplhlihaaGreatDoorEvTmG
import Derived.Below
import Derived.WalkKit
import Derived.WalkSmall
import Derived.Laws.Cells
import Derived.ChangeArms
import Derived.DataReads
import Derived.ChangeOld
import Derived.IntWalk
import Derived.Laws.Bits64
namespace Go.Proofs.YtgpibpkplhlihaaGreatDoor
open Go Go.Ev Go.RowKit Go.Proofs
set_option linter.unusedVariables false
set_option linter.unusedSimpArgs false
theorem Keeps.cell' {w w' : World} (h : Keeps w w') {p : Addr} (hp : p.block < w.heap.size) : w'.cell? p = w.cell? p := World.cell?_of_block (w := w) (h.block p.block hp)
def digB (j : Nat) : List UInt8 := if j < 10 then [UInt8.ofNat (48 + j)] else [49, UInt8.ofNat (38 + j)]
def dB (j : Nat) : ByteArray := ⟨(digB j).toArray⟩
def vB (j : Nat) : ByteArray := ⟨#[118]⟩ ++ dB j
def nmB (j : Nat) : List UInt8 := 118 :: digB j
theorem vB_list (j : Nat) : (vB j).data.toList = nmB j := by simp [vB, dB, nmB, ByteArray.data_append]
theorem digB_len (j : Nat) : (digB j).length ≤ 2 := by unfold digB; split <;> simp
theorem dB_size (j : Nat) : (dB j).size ≤ 2 := digB_len j
def altPt (nm : List UInt8) : Nat → List UInt8
 | 0 => [] ++ nm ++ [44]
 | 1 => [44]
 | 2 => [123] ++ nm ++ [125, 44]
 | 3 => [123, 97, 58, 32] ++ nm ++ [32, 61, 32, 98, 125, 44]
 | 4 => [91, 91] ++ nm ++ [93, 93, 44]
 | 5 => [] ++ nm ++ [32, 61, 32, 99, 44]
 | _ => [123, 91, 100, 93, 58, 32, 91] ++ nm ++ [93, 44, 32, 46, 46, 46, 101] ++ nm ++ [125, 44]
def bodyP : Nat → List Nat → List UInt8
 | _, [] => []
 | j, k :: ks => altPt (nmB j) k ++ bodyP (j + 1) ks
theorem bodyP_app (k : Nat) : ∀ (l : List Nat) (j : Nat), bodyP j (l ++ [k]) = bodyP j l ++ altPt (nmB (j + l.length)) k
 | [], j => by simp [bodyP]
 | x :: l, j => by
  simp only [List.cons_append, bodyP, bodyP_app k l (j + 1), List.append_assoc, List.length_cons]
  rw [show j + 1 + l.length = j + (l.length + 1) by omega]
def wantI (j k : Nat) : List ByteArray := if k = 1 then [] else if k = 6 then [vB j, ⟨#[101]⟩ ++ vB j] else [vB j]
def wantP : Nat → List Nat → List ByteArray
 | _, [] => []
 | j, k :: ks => wantI j k ++ wantP (j + 1) ks
theorem wantP_app (k : Nat) : ∀ (l : List Nat) (j : Nat), wantP j (l ++ [k]) = wantP j l ++ wantI (j + l.length) k
 | [], j => by simp [wantP]
 | x :: l, j => by
  simp only [List.cons_append, wantP, wantP_app k l (j + 1), List.append_assoc, List.length_cons]
  rw [show j + 1 + l.length = j + (l.length + 1) by omega]
theorem wantI_len (j k : Nat) : (wantI j k).length ≤ 2 := by
 unfold wantI
 split
 ·simp
 ·split <;> simp
theorem wantP_len : ∀ (l : List Nat) (j : Nat), (wantP j l).length ≤ 2 * l.length
 | [], _ => Nat.le_refl _
 | k :: l, j => by
  have := wantP_len l (j + 1)
  have := wantI_len j k
  rw [wantP, List.length_append, List.length_cons]
  omega
def textP (l : List Nat) : ByteArray := ⟨([108, 101, 116, 32, 91] ++ bodyP 0 l ++ [46, 46, 46, 122, 93, 32, 61, 32, 121]).toArray⟩
def wantZ (l : List Nat) : List ByteArray := wantP 0 l ++ [⟨#[122]⟩]
def intW : Value → Int
 | .int _ n => n
 | _ => 0
def kindP (z : Int) : Nat := (IntKind.u64.wrap z % 7).toNat
def picksP (z : Nat → Int) : Nat → List Nat
 | 0 => []
 | n + 1 => picksP z n ++ [kindP (z n)]
theorem u64_nonneg (z : Int) : 0 ≤ IntKind.u64.wrap z ∧ IntKind.u64.wrap z < 18446744073709551616 := by
 rw [IntKind.wrap_u64]; omega
theorem kindP_lt (z : Int) : kindP z < 7 := by
 unfold kindP; have := (u64_nonneg z).1; omega
theorem kindP_tmod (z : Int) : (IntKind.u64.wrap z).tmod 7 = (kindP z : Int) := by
 unfold kindP
 have := (u64_nonneg z).1
 rw [Int.tmod_eq_emod_of_nonneg this]
 omega
theorem kindP_all (z : Int) (h : kindP z < 7) : kindP z = 0 ∧ (IntKind.u64.wrap z).tmod 7 = 0 ∨ kindP z = 1 ∧ (IntKind.u64.wrap z).tmod 7 = 1 ∨ kindP z = 2 ∧ (IntKind.u64.wrap z).tmod 7 = 2 ∨ kindP z = 3 ∧ (IntKind.u64.wrap z).tmod 7 = 3 ∨ kindP z = 4 ∧ (IntKind.u64.wrap z).tmod 7 = 4 ∨ kindP z = 5 ∧ (IntKind.u64.wrap z).tmod 7 = 5 ∨ kindP z = 6 ∧ (IntKind.u64.wrap z).tmod 7 = 6 := by
 have ht := kindP_tmod z
 generalize kindP z = c at h ht ⊢
 have hc : c = 0 ∨ c = 1 ∨ c = 2 ∨ c = 3 ∨ c = 4 ∨ c = 5 ∨ c = 6 := by omega
 rcases hc with rfl | rfl | rfl | rfl | rfl | rfl | rfl <;> simpa using ht
theorem picksP_len (z : Nat → Int) (n : Nat) : (picksP z n).length = n := by
 induction n with
 | zero => rfl
 | succ n ih => simp [picksP, ih]
theorem altPt_le (j k : Nat) : (altPt (nmB j) k).length ≤ 40 := by
 have := digB_len j
 unfold altPt nmB
 split <;> simp <;> omega
theorem bodyP_le : ∀ (l : List Nat) (j : Nat), (bodyP j l).length ≤ 40 * l.length
 | [], _ => by simp [bodyP]
 | k :: l, j => by
  have h1 := bodyP_le l (j + 1)
  have h2 := altPt_le j k
  rw [bodyP, List.length_append, List.length_cons]
  omega
theorem cell_lt {w : World} {a : Addr} {v : Value} (h : w.cell? a = some v) : a.block < w.heap.size := by
 unfold World.cell? at h
 split at h
 ·rename_i hb; exact (Array.getElem?_eq_some_iff.1 hb).1
 ·cases h
def TxtP (s : Value) (l : List Nat) : Prop := ∃ S : ByteArray, s = .string S ∧ S.data.toList = 91 :: bodyP 0 l
theorem TxtP.more {z : Nat → Int} {j c : Nat} {S A T : ByteArray} (h : S.data.toList = 91 :: bodyP 0 (picksP z j)) (hc : kindP (z j) = c) (ha : A.data.toList ++ [44] = altPt (nmB j) c) (hT : T = S ++ A ++ ⟨#[44]⟩) : TxtP (.string T) (picksP z (j + 1)) := by
 subst hT
 refine ⟨_, rfl, ?_⟩
 rw [picksP, bodyP_app, picksP_len, hc, Nat.zero_add, ← ha]
 have : (S ++ A ++ ⟨#[44]⟩ : ByteArray).data.toList = S.data.toList ++ (A.data.toList ++ [44]) := by simp [ByteArray.data_append]
 rw [this, h]
 rfl
theorem altP_0 (j : Nat) : ((vB j) : ByteArray).data.toList ++ [44] = altPt (nmB j) 0 := by simp [ByteArray.data_append, altPt, ← vB_list]
theorem altP_1 (j : Nat) : ((⟨#[]⟩) : ByteArray).data.toList ++ [44] = altPt (nmB j) 1 := by simp [ByteArray.data_append, altPt, ← vB_list]
theorem altP_2 (j : Nat) : (((⟨#[123]⟩ ++ vB j) ++ ⟨#[125]⟩) : ByteArray).data.toList ++ [44] = altPt (nmB j) 2 := by simp [ByteArray.data_append, altPt, ← vB_list]
theorem altP_3 (j : Nat) : (((⟨#[123, 97, 58, 32]⟩ ++ vB j) ++ ⟨#[32, 61, 32, 98, 125]⟩) : ByteArray).data.toList ++ [44] = altPt (nmB j) 3 := by simp [ByteArray.data_append, altPt, ← vB_list]
theorem altP_4 (j : Nat) : (((⟨#[91, 91]⟩ ++ vB j) ++ ⟨#[93, 93]⟩) : ByteArray).data.toList ++ [44] = altPt (nmB j) 4 := by simp [ByteArray.data_append, altPt, ← vB_list]
theorem altP_5 (j : Nat) : (((vB j) ++ ⟨#[32, 61, 32, 99]⟩) : ByteArray).data.toList ++ [44] = altPt (nmB j) 5 := by simp [ByteArray.data_append, altPt, ← vB_list]
theorem altP_6 (j : Nat) : (((((⟨#[123, 91, 100, 93, 58, 32, 91]⟩ ++ vB j) ++ ⟨#[93, 44, 32, 46, 46, 46, 101]⟩) ++ vB j) ++ ⟨#[125]⟩) : ByteArray).data.toList ++ [44] = altPt (nmB j) 6 := by simp [ByteArray.data_append, altPt, ← vB_list]
def OwnS (base : Nat) (v : Value) (l : List ByteArray) (w : World) : Prop := w.ownsRow base 9 1 v l.length (l.map .string)
theorem own_keeps {w w' : World} {base e size n : Nat} {v : Value} {xs : List Value} (h : w.ownsRow base e size v n xs) (hk : Keeps w w') : w'.ownsRow base e size v n xs :=
 own_same h fun k hk2 => hk.block k (own_at h hk2).2
theorem ownS_more1 {base k c j : Nat} {z : Nat → Int} {v : Value} {w : World} (hk : k = (wantP 0 (picksP z j)).length) (hc : kindP (z j) = c) (h8 : c ≠ 1 ∧ c ≠ 6) (h : w.ownsRow base 9 1 v (k + 1) ((wantP 0 (picksP z j)).map Value.string ++ [.string (vB j)])) : OwnS base v (wantP 0 (picksP z (j + 1))) w := by
 have e : wantP 0 (picksP z (j + 1)) = wantP 0 (picksP z j) ++ [vB j] := by rw [picksP, wantP_app, hc, picksP_len, Nat.zero_add, wantI, if_neg h8.1, if_neg h8.2]
 unfold OwnS
 rw [e, List.length_append, List.map_append, ← hk]
 exact h
theorem ownS_more2 {base k j : Nat} {z : Nat → Int} {v : Value} {w : World} (hk : k = (wantP 0 (picksP z j)).length) (hc : kindP (z j) = 6) (h : w.ownsRow base 9 1 v (k + 1 + 1) ((wantP 0 (picksP z j)).map Value.string ++ [.string (vB j), .string (⟨#[101]⟩ ++ vB j)])) : OwnS base v (wantP 0 (picksP z (j + 1))) w := by
 have e : wantP 0 (picksP z (j + 1)) = wantP 0 (picksP z j) ++ [vB j, ⟨#[101]⟩ ++ vB j] := by rw [picksP, wantP_app, hc, picksP_len, Nat.zero_add]; rfl
 unfold OwnS
 rw [e, List.length_append, List.map_append, ← hk]
 exact h
theorem ownS_more0 {base k j : Nat} {z : Nat → Int} {v : Value} {w : World} (hk : k = (wantP 0 (picksP z j)).length) (hc : kindP (z j) = 1) (h : w.ownsRow base 9 1 v k ((wantP 0 (picksP z j)).map Value.string)) : OwnS base v (wantP 0 (picksP z (j + 1))) w := by
 have e : wantP 0 (picksP z (j + 1)) = wantP 0 (picksP z j) := by rw [picksP, wantP_app, hc, wantI, if_pos rfl, List.append_nil]
 unfold OwnS
 rw [e, ← hk]
 exact h
theorem own_k {base k : Nat} {v : Value} {l : List ByteArray} {w : World} (hk : k = l.length) (h : OwnS base v l w) : w.ownsRow base 9 1 v k (l.map .string) := by subst hk; exact h
theorem news_str (w1 : World) (o : Obj) (s : ByteArray) (t : TypeId) : ∀ j u, [Value.string s][j]? = some u → ((w1.alloc o).alloc (.cells #[.string s] t)).cell? ((⟨w1.heap.size + 1, 0, none⟩ : Addr).add j) = some u := by
 have := cell_one_new (w1.alloc o) (.string s) t
 rwa [World.size_alloc] at this
theorem keeps_grown {W w1 w2 : World} {o o' : Obj} {row : Option Nat} (h : Keeps W w1) (hg : ((w1.alloc o).alloc o').grownBy w2 row) (hr : ∀ k, row = some k → W.heap.size ≤ k) : Keeps W w2 := by
 refine ⟨hg.os.trans h.os, hg.output.trans h.out, ?_, fun k hk => ?_⟩
 ·have := hg.size
  have := h.size
  simp at *
  omega
 ·have hs := h.size
  refine (hg.block k (by simp; omega) fun e => by have := hr k e.symm; omega).trans ?_
  refine ((World.grownBy_alloc (w1.alloc o) o' none).block k (by simp; omega) (by simp)).trans ?_
  exact ((World.grownBy_alloc w1 o none).block k (by omega) (by simp)).trans (h.block k hk)
theorem ownS_shape {base : Nat} {v : Value} {l : List ByteArray} {w : World} (h : OwnS base v l w) : ∃ a cap, v = .slice a l.length cap ∧ ∀ i s, l[i]? = some s → ∃ b off, a = some ⟨b, off, none⟩ ∧ w.cell? ⟨b, off + i, none⟩ = some (.string s) := by
 rcases h.2 with ⟨rfl, h0⟩ | ⟨g, cap, cur, rfl, hb, hg, h1, h2, h3, h4⟩
 ·exact ⟨none, 0, by rw [h0], fun j x hx => by
   have := (List.getElem?_eq_some_iff.1 hx).1
   omega⟩
 ·refine ⟨some ⟨g, 0, none⟩, cap, rfl, fun j x hx => ⟨g, 0, rfl, ?_⟩⟩
  have hj := (List.getElem?_eq_some_iff.1 hx).1
  simp only [World.cell?, hg, Nat.zero_add]
  have : (cur.toList.take (l.length * 1))[j]? = some (.string x) := by rw [h4, List.getElem?_map, hx]; rfl
  rw [List.getElem?_take, if_pos (by omega)] at this
  simpa using this
theorem keeps_grown1 {W w1 w2 : World} {o : Obj} {row : Option Nat} (h : Keeps W w1) (hg : (w1.alloc o).grownBy w2 row) (hr : ∀ k, row = some k → W.heap.size ≤ k) : Keeps W w2 := by
 refine ⟨hg.os.trans h.os, hg.output.trans h.out, ?_, fun k hk => ?_⟩
 ·have := hg.size
  have := h.size
  simp at *
  omega
 ·have hs := h.size
  refine (hg.block k (by simp; omega) fun e => by have := hr k e.symm; omega).trans ?_
  exact ((World.grownBy_alloc w1 o none).block k (by omega) (by simp)).trans (h.block k hk)
theorem named_ok2 (w : World) (base : Nat) (v : Value) (L : List BN) (a : Option Addr) (n cap : Nat) (hown : Owned base v L w) (hn : n = L.length) (hw : ∀ j x, L[j]? = some x → ∃ b off, a = some ⟨b, off, none⟩ ∧ w.cell? ⟨b, off + j, none⟩ = some (.string x.1))
  (hinc : ∀ j x y, L[j]? = some x → L[j + 1]? = some y → x.2 < y.2) (hlen : L.length ≤ 1000) :
  Calls Tryz.prog 13 #[v, .slice a n cap] w fun e w' => e = .returned (.bool true) ∧ ∃ q, w' = w.drewN q := by
 subst hn
 exact named_ok w base v L a cap hown hw hinc hlen
theorem infoStr : (Tryz.prog.info? 9).map (fun i => (i.zero, i.size, i.bytes)) = some (some (.string ⟨#[]⟩), 1, 16) := by kernel_rfl
theorem numP_calls (n : Int) (w : World) : Calls Tryz.prog 9 #[.int .i64 n] w fun e w' => e = .returned (.int .i64 n) ∧ w' = w := by
 go_enter Tryz.func9, Tryz.ntmps9
 go_wp2
 go_ret
 exact ⟨rfl, rfl⟩
structure After (n : Nat) (w w' : World) : Prop where
 size : w.heap.size ≤ w'.heap.size
 block : ∀ k, n ≤ k → k < w.heap.size → w'.heap[k]? = w.heap[k]?
theorem After.cell {n : Nat} {w w' : World} (h : After n w w') {b o : Nat} {v : Value} (h1 : n ≤ b) (h2 : b < w.heap.size) (hc : w.cell? ⟨b, o, none⟩ = some v) : w'.cell? ⟨b, o, none⟩ = some v :=
 (World.cell?_of_block (w := w) (h.block b h1 h2)).trans hc
theorem After.keeps {n : Nat} {w w' w2 : World} (h : After n w w') (hk : Keeps w' w2) : After n w w2 :=
 ⟨Nat.le_trans h.size hk.size, fun k h1 h2 => (hk.block k (Nat.lt_of_lt_of_le h2 h.size)).trans (h.block k h1 h2)⟩
theorem after_row {W wr w2 w3 : World} {o o' : Obj} {row : Option Nat} (hk : Keeps W wr) (hk2 : Keeps wr w2) (hg : ((w2.alloc o).alloc o').grownBy w3 row) (hr : ∀ k, row = some k → W.heap.size ≤ k ∧ k < wr.heap.size) : After wr.heap.size w2 w3 ∧ Keeps W w3 := by
 refine ⟨⟨by have := hg.size; simp at this; omega, fun k h1 h2 => ?_⟩, keeps_grown (hk.trans hk2) hg fun k he => (hr k he).1⟩
 refine (hg.block k (by simp; omega) fun e => by have := (hr k e.symm).2; omega).trans ?_
 refine ((World.grownBy_alloc (w2.alloc o) o' none).block k (by simp; omega) (by simp)).trans ?_
 exact (World.grownBy_alloc w2 o none).block k (by omega) (by simp)
theorem after_new {w2 w3 : World} {o o' : Obj} {row : Option Nat} (hg : ((w2.alloc o).alloc o').grownBy w3 row) (hr : row = some w2.heap.size → False) : w3.heap[w2.heap.size]? = some o := by
 refine (hg.block w2.heap.size (by simp; omega) fun e => hr e.symm).trans ?_
 refine ((World.grownBy_alloc (w2.alloc o) o' none).block w2.heap.size (by simp) (by simp)).trans ?_
 exact World.alloc_heap_new w2 o
theorem cell_of_heap {w : World} {b o : Nat} {cs : Array Value} {t : TypeId} {v : Value} (h : w.heap[b]? = some (.cells cs t)) (hv : cs[o]? = some v) : w.cell? ⟨b, o, none⟩ = some v := by
 simp [World.cell?, h, hv]
theorem ownS_z {base k : Nat} {v : Value} {w : World} {want WZ : List ByteArray} (hw : WZ = want ++ [⟨#[122]⟩]) (hk : k = want.length) (h : w.ownsRow base 9 1 v (k + 1) (want.map Value.string ++ [.string ⟨#[122]⟩])) : OwnS base v WZ w := by
 unfold OwnS
 rw [hw, List.length_append, List.map_append, ← hk]
 exact h
def ResP (w : World) (want : List ByteArray) (e : Ending) (w' : World) : Prop := Keeps w w' ∧ ∃ (v : Value) (L : List BN), e = .returned v ∧ Owned w.heap.size v L w' ∧ L.map (·.1) = want ∧ (∀ j x y, L[j]? = some x → L[j + 1]? = some y → x.2 < y.2)
def ProgP (w : World) (S : ByteArray) (want : List ByteArray) : Prop := Calls Tryz.prog 12 #[.string S, .bool false] w fun e w' => Keeps w w' ∧ ∃ (t : ByteArray) (b off c : Nat) (f o : Int) (u : Value) (nt : ByteArray) (na : Option Addr) (nl nc : Nat) (nf no : Int),
  e = .returned (.tuple #[.agg #[.int .i64 86, .string t, .slice (some ⟨b, off, none⟩) 1 c, .int .i64 f, .int .i64 o], u, .int .i64 0, .int .i64 0]) ∧ w.heap.size ≤ b ∧ b < w'.heap.size ∧
  w'.cell? ⟨b, off, none⟩ = some (.int .i64 60) ∧ w'.cell? ⟨b, off + 1, none⟩ = some (.string nt) ∧ w'.cell? ⟨b, off + 2, none⟩ = some (.slice na nl nc) ∧ w'.cell? ⟨b, off + 3, none⟩ = some (.int .i64 nf) ∧ w'.cell? ⟨b, off + 4, none⟩ = some (.int .i64 no) ∧
  (∀ w2, After w.heap.size w' w2 → Calls Tryz.prog 14 #[.agg #[.int .i64 60, .string nt, .slice na nl nc, .int .i64 nf, .int .i64 no]] w2 (ResP w2 want)) ∧
  (∀ w2, After w.heap.size w' w2 → Calls Tryz.prog 15 #[.slice (some ⟨b, off, none⟩) 1 c] w2 (ResP w2 want)) ∧
  (∀ w2, After w.heap.size w' w2 → Calls Tryz.prog 16 #[.slice (some ⟨b, off, none⟩) 1 c] w2 (ResP w2 []))
set_option maxHeartbeats 8000000 in
set_option maxRecDepth 1000000 in
theorem pats_walk (a : Option Addr) (len cap : Nat) (z : Nat → Int) (W : World) (hlen : len ≤ maxLen) (hz : ∀ i, i < len → ∃ b off, a = some ⟨b, off, none⟩ ∧ W.cell? ⟨b, off + i, none⟩ = some (.int .i64 (z i)))
  (hAw : ∀ w, Keeps W w → Calls Tryz.prog 10 #[] w fun e w' => e = .returned (.bool true) ∧ Keeps w w')
  (hDec : ∀ j : Nat, j < 20 → ∀ w, Keeps W w → Calls Tryz.prog 11 #[.int .i64 (j : Int)] w fun e w' => e = .returned (.string (dB j)) ∧ Keeps w w')
  (hX : ∀ w, Keeps W w → ProgP w (textP (picksP z (min len 20))) (wantZ (picksP z (min len 20)))) :
  Calls Tryz.prog 4 #[.slice a len cap] W fun e w' => e = .returned (.bool true) ∧ Keeps W w' := by
 obtain ⟨i0, hi0, q0, q1, q2⟩ := info_parts infoStr
 go_enter Tryz.func4, Tryz.ntmps4
 go_wp2_with (first
   | (go_at_call 10; refine (hAw _ (Keeps.refl _)).mono ?_; rintro e w1 ⟨rfl, hk1⟩))
 go_loopw [3, 4, 5] (fun s v i wr => ∃ j : Nat, j ≤ min len 20 ∧ TxtP s (picksP z j) ∧ OwnS W.heap.size v (wantP 0 (picksP z j)) wr ∧ i = .int .i64 (j : Nat) ∧ Keeps W wr) (fun _ _ i _ => 20 - (intW i).toNat)
 case atStart =>
  exact ⟨0, Nat.zero_le _, ⟨_, rfl, rfl⟩, ⟨rfl, .inl ⟨rfl, rfl⟩⟩, rfl, hk1⟩
 case round =>
  obtain ⟨j, hj, ⟨S, rfl, hS⟩, ho, rfl, hk⟩ := hrel
  have hSz : S.size ≤ 40 * j + 1 := by
   have := congrArg List.length hS
   have h2 := bodyP_le (picksP z j) 0
   rw [picksP_len] at h2
   simp only [Array.length_toList, List.length_cons] at this
   show S.data.size ≤ _
   omega
  have hcap : len < 9223372036854775808 := by unfold maxLen at hlen; omega
  by_cases hlt : j < len
  ·by_cases h12 : j < 20
   ·obtain ⟨b, off, rfl, hcell⟩ := hz j hlt
    have hblk : b < W.heap.size := cell_lt hcell
    have hbr : b < wr.heap.size := Nat.lt_of_lt_of_le hblk hk.size
    have hc2 : wr.cell? ⟨b, off + j, none⟩ = some (.int .i64 (z j)) := (Keeps.cell' hk (p := ⟨b, off + j, none⟩) hblk).trans hcell
    have i1 : (j : Int) < (len : Int) := by omega
    have i2 : (j : Int) < 20 := by omega
    have i3 : (0 : Int) ≤ (j : Int) := by omega
    have i4 : ((j : Int)).toNat = j := by omega
    have i5 : IntKind.i64.wrap ((j : Int) + 1) = (j : Int) + 1 := IntWalk.i64_in _ (by omega)
    have hk7 : kindP (z j) < 7 := kindP_lt _
    have hds := dB_size j
    have hwl := wantP_len (picksP z j) 0
    rw [picksP_len] at hwl
    obtain ⟨k, hkl⟩ : ∃ k, Hid (k = (wantP 0 (picksP z j)).length) := ⟨_, ⟨rfl⟩⟩
    have hk20 : k ≤ 40 := by rw [hkl.h]; omega
    have ho := own_k hkl.h ho
    clear hz hX hAw
    rcases kindP_all (z j) hk7 with ⟨hc, hm0⟩ | ⟨hc, hm0⟩ | ⟨hc, hm0⟩ | ⟨hc, hm0⟩ | ⟨hc, hm0⟩ | ⟨hc, hm0⟩ | ⟨hc, hm0⟩
    ·go_wp2_with (first
      | (go_at_call 11; refine (hDec j h12 _ hk).mono ?_; rintro e w1 ⟨rfl, hk1⟩; have hc3 := (Keeps.cell' hk1 (p := ⟨b, off + j, none⟩) hbr).trans hc2; have ho1 := own_keeps ho hk1; have hb1 : b < w1.heap.size := Nat.lt_of_lt_of_le hbr hk1.size)
      | (at_builtin; refine wpList_append_own_at _ rfl _ _ _ rfl W.heap.size 9 i0 _ 1 16 Tryz.underlying25 hi0 q0 q1 q2 rfl (by decide) _ k _ rfl (World.ownsRow.alloc (World.ownsRow.alloc ho1 _) _) ⟨w1.heap.size + 1, 0, none⟩ 1 1 [.string (vB j)] rfl rfl (news_str w1 _ _ _) (by simp [Value.oneCell']) (by have : maxLen = 9223372036854775807 := rfl; omega) (by omega) (by have := hk.size; have := hk1.size; simp; omega) ?_; intro v2' w2 hown2 hgrow2 _ hat2; have hkw := keeps_grown (hk.trans hk1) hgrow2 fun k hk2 => (own_at ho1 hk2).1; have hc5 := (Keeps.cell' hkw (p := ⟨b, off + j, none⟩) hblk).trans hcell))
     refine ⟨⟨j + 1, by omega, ?_, ?_, ?_, hkw⟩, by simp only [intW]; omega⟩
     ·exact TxtP.more hS hc (altP_0 j) rfl
     ·exact ownS_more1 hkl.h hc (by decide) hown2
     ·exact congrArg (Value.int .i64) (by omega)
    ·go_wp2_with (go_at_call 11; refine (hDec j h12 _ hk).mono ?_; rintro e w1 ⟨rfl, hk1⟩; have hc3 := (Keeps.cell' hk1 (p := ⟨b, off + j, none⟩) hbr).trans hc2; have ho1 := own_keeps ho hk1; have hb1 : b < w1.heap.size := Nat.lt_of_lt_of_le hbr hk1.size)
     refine ⟨⟨j + 1, by omega, ?_, ?_, ?_, (hk.trans hk1).trans (Keeps.alloc _ _)⟩, by simp only [intW]; omega⟩
     ·exact TxtP.more hS hc (altP_1 j) rfl
     ·exact ownS_more0 hkl.h hc (World.ownsRow.alloc ho1 _)
     ·exact congrArg (Value.int .i64) (by omega)
    ·go_wp2_with (first
      | (go_at_call 11; refine (hDec j h12 _ hk).mono ?_; rintro e w1 ⟨rfl, hk1⟩; have hc3 := (Keeps.cell' hk1 (p := ⟨b, off + j, none⟩) hbr).trans hc2; have ho1 := own_keeps ho hk1; have hb1 : b < w1.heap.size := Nat.lt_of_lt_of_le hbr hk1.size)
      | (at_builtin; refine wpList_append_own_at _ rfl _ _ _ rfl W.heap.size 9 i0 _ 1 16 Tryz.underlying25 hi0 q0 q1 q2 rfl (by decide) _ k _ rfl (World.ownsRow.alloc (World.ownsRow.alloc ho1 _) _) ⟨w1.heap.size + 1, 0, none⟩ 1 1 [.string (vB j)] rfl rfl (news_str w1 _ _ _) (by simp [Value.oneCell']) (by have : maxLen = 9223372036854775807 := rfl; omega) (by omega) (by have := hk.size; have := hk1.size; simp; omega) ?_; intro v2' w2 hown2 hgrow2 _ hat2; have hkw := keeps_grown (hk.trans hk1) hgrow2 fun k hk2 => (own_at ho1 hk2).1; have hc5 := (Keeps.cell' hkw (p := ⟨b, off + j, none⟩) hblk).trans hcell))
     refine ⟨⟨j + 1, by omega, ?_, ?_, ?_, hkw⟩, by simp only [intW]; omega⟩
     ·exact TxtP.more hS hc (altP_2 j) rfl
     ·exact ownS_more1 hkl.h hc (by decide) hown2
     ·exact congrArg (Value.int .i64) (by omega)
    ·go_wp2_with (first
      | (go_at_call 11; refine (hDec j h12 _ hk).mono ?_; rintro e w1 ⟨rfl, hk1⟩; have hc3 := (Keeps.cell' hk1 (p := ⟨b, off + j, none⟩) hbr).trans hc2; have ho1 := own_keeps ho hk1; have hb1 : b < w1.heap.size := Nat.lt_of_lt_of_le hbr hk1.size)
      | (at_builtin; refine wpList_append_own_at _ rfl _ _ _ rfl W.heap.size 9 i0 _ 1 16 Tryz.underlying25 hi0 q0 q1 q2 rfl (by decide) _ k _ rfl (World.ownsRow.alloc (World.ownsRow.alloc ho1 _) _) ⟨w1.heap.size + 1, 0, none⟩ 1 1 [.string (vB j)] rfl rfl (news_str w1 _ _ _) (by simp [Value.oneCell']) (by have : maxLen = 9223372036854775807 := rfl; omega) (by omega) (by have := hk.size; have := hk1.size; simp; omega) ?_; intro v2' w2 hown2 hgrow2 _ hat2; have hkw := keeps_grown (hk.trans hk1) hgrow2 fun k hk2 => (own_at ho1 hk2).1; have hc5 := (Keeps.cell' hkw (p := ⟨b, off + j, none⟩) hblk).trans hcell))
     refine ⟨⟨j + 1, by omega, ?_, ?_, ?_, hkw⟩, by simp only [intW]; omega⟩
     ·exact TxtP.more hS hc (altP_3 j) rfl
     ·exact ownS_more1 hkl.h hc (by decide) hown2
     ·exact congrArg (Value.int .i64) (by omega)
    ·go_wp2_with (first
      | (go_at_call 11; refine (hDec j h12 _ hk).mono ?_; rintro e w1 ⟨rfl, hk1⟩; have hc3 := (Keeps.cell' hk1 (p := ⟨b, off + j, none⟩) hbr).trans hc2; have ho1 := own_keeps ho hk1; have hb1 : b < w1.heap.size := Nat.lt_of_lt_of_le hbr hk1.size)
      | (at_builtin; refine wpList_append_own_at _ rfl _ _ _ rfl W.heap.size 9 i0 _ 1 16 Tryz.underlying25 hi0 q0 q1 q2 rfl (by decide) _ k _ rfl (World.ownsRow.alloc (World.ownsRow.alloc ho1 _) _) ⟨w1.heap.size + 1, 0, none⟩ 1 1 [.string (vB j)] rfl rfl (news_str w1 _ _ _) (by simp [Value.oneCell']) (by have : maxLen = 9223372036854775807 := rfl; omega) (by omega) (by have := hk.size; have := hk1.size; simp; omega) ?_; intro v2' w2 hown2 hgrow2 _ hat2; have hkw := keeps_grown (hk.trans hk1) hgrow2 fun k hk2 => (own_at ho1 hk2).1; have hc5 := (Keeps.cell' hkw (p := ⟨b, off + j, none⟩) hblk).trans hcell))
     refine ⟨⟨j + 1, by omega, ?_, ?_, ?_, hkw⟩, by simp only [intW]; omega⟩
     ·exact TxtP.more hS hc (altP_4 j) rfl
     ·exact ownS_more1 hkl.h hc (by decide) hown2
     ·exact congrArg (Value.int .i64) (by omega)
    ·go_wp2_with (first
      | (go_at_call 11; refine (hDec j h12 _ hk).mono ?_; rintro e w1 ⟨rfl, hk1⟩; have hc3 := (Keeps.cell' hk1 (p := ⟨b, off + j, none⟩) hbr).trans hc2; have ho1 := own_keeps ho hk1; have hb1 : b < w1.heap.size := Nat.lt_of_lt_of_le hbr hk1.size)
      | (at_builtin; refine wpList_append_own_at _ rfl _ _ _ rfl W.heap.size 9 i0 _ 1 16 Tryz.underlying25 hi0 q0 q1 q2 rfl (by decide) _ k _ rfl (World.ownsRow.alloc (World.ownsRow.alloc ho1 _) _) ⟨w1.heap.size + 1, 0, none⟩ 1 1 [.string (vB j)] rfl rfl (news_str w1 _ _ _) (by simp [Value.oneCell']) (by have : maxLen = 9223372036854775807 := rfl; omega) (by omega) (by have := hk.size; have := hk1.size; simp; omega) ?_; intro v2' w2 hown2 hgrow2 _ hat2; have hkw := keeps_grown (hk.trans hk1) hgrow2 fun k hk2 => (own_at ho1 hk2).1; have hc5 := (Keeps.cell' hkw (p := ⟨b, off + j, none⟩) hblk).trans hcell))
     refine ⟨⟨j + 1, by omega, ?_, ?_, ?_, hkw⟩, by simp only [intW]; omega⟩
     ·exact TxtP.more hS hc (altP_5 j) rfl
     ·exact ownS_more1 hkl.h hc (by decide) hown2
     ·exact congrArg (Value.int .i64) (by omega)
    ·go_wp2_with (first
      | (go_at_call 11; refine (hDec j h12 _ hk).mono ?_; rintro e w1 ⟨rfl, hk1⟩; have hc3 := (Keeps.cell' hk1 (p := ⟨b, off + j, none⟩) hbr).trans hc2; have ho1 := own_keeps ho hk1; have hb1 : b < w1.heap.size := Nat.lt_of_lt_of_le hbr hk1.size)
      | (at_builtin; refine wpList_append_own_at _ rfl _ _ _ rfl W.heap.size 9 i0 _ 1 16 Tryz.underlying25 hi0 q0 q1 q2 rfl (by decide) _ (k + 1) _ rfl (World.ownsRow.alloc hown2 _) ⟨w2.heap.size, 0, none⟩ 1 1 [.string (⟨#[101]⟩ ++ vB j)] rfl rfl (cell_one_new w2 _ _) (by simp [Value.oneCell']) (by have : maxLen = 9223372036854775807 := rfl; omega) (by omega) (by have := hk.size; have := hkw.size; simp; omega) ?_; intro v3' w3 hown3 hgrow3 _ hat3)
      | (at_builtin; refine wpList_append_own_at _ rfl _ _ _ rfl W.heap.size 9 i0 _ 1 16 Tryz.underlying25 hi0 q0 q1 q2 rfl (by decide) _ k _ rfl (World.ownsRow.alloc (World.ownsRow.alloc ho1 _) _) ⟨w1.heap.size + 1, 0, none⟩ 1 1 [.string (vB j)] rfl rfl (news_str w1 _ _ _) (by simp [Value.oneCell']) (by have : maxLen = 9223372036854775807 := rfl; omega) (by omega) (by have := hk.size; have := hk1.size; simp; omega) ?_; intro v2' w2 hown2 hgrow2 _ hat2; have hkw := keeps_grown (hk.trans hk1) hgrow2 fun k hk2 => (own_at ho1 hk2).1; have hc5 := (Keeps.cell' hkw (p := ⟨b, off + j, none⟩) hblk).trans hcell))
     have hkw2 := keeps_grown1 hkw hgrow3 fun k hk2 => (own_at hown2 hk2).1
     refine ⟨⟨j + 1, by omega, ?_, ?_, ?_, hkw2⟩, by simp only [intW]; omega⟩
     ·exact TxtP.more hS hc (altP_6 j) rfl
     ·exact ownS_more2 hkl.h hc (by simpa using hown3)
     ·exact congrArg (Value.int .i64) (by omega)
   ·have i1 : (j : Int) < (len : Int) := by omega
    have i2 : ¬ (j : Int) < 20 := by omega
    have hmin : min len 20 = j := by omega
    rw [hmin] at hX
    have hj20 : j ≤ 20 := by omega
    have hwl := wantP_len (picksP z j) 0
    rw [picksP_len] at hwl
    have hS' : S = ⟨(91 :: bodyP 0 (picksP z j)).toArray⟩ := by
     rcases S with ⟨l⟩; simp only at hS; rw [← hS]
    subst hS'
    have hT : (⟨#[108, 101, 116, 32]⟩ ++ ⟨(91 :: bodyP 0 (picksP z j)).toArray⟩ : ByteArray) ++ ⟨#[46, 46, 46, 122, 93, 32, 61, 32, 121]⟩ = textP (picksP z j) := by
     unfold textP
     apply ByteArray.ext
     simp [ByteArray.data_append]
    obtain ⟨k, hkl⟩ : ∃ k, Hid (k = (wantP 0 (picksP z j)).length) := ⟨_, ⟨rfl⟩⟩
    have hk20 : k ≤ 40 := by rw [hkl.h]; omega
    have ho := own_k hkl.h ho
    have hX' := hX _ hk
    have hwz : wantZ (picksP z j) = wantP 0 (picksP z j) ++ [⟨#[122]⟩] := rfl
    generalize picksP z j = Lk at hX' hwl ho hkl hS hSz hT hwz ⊢
    clear hX hz hAw hDec hS
    generalize (⟨(91 :: bodyP 0 Lk).toArray⟩ : ByteArray) = S at hT hSz ⊢
    generalize textP Lk = TX at hX' hT
    generalize hwZ : wantZ Lk = WZ at hX' hwz
    generalize wantP 0 Lk = want at hwz ho hkl hwl
    go_wp2_with (first
     | (go_at_call 12; refine hX'.mono ?_; rintro e w2 ⟨hk2, x1, xb, xo, xc, xf, xt, xu, xn, xa, xl, xcc, xff, xoo, rfl, yb, y9, y0, y1, y2, y3, y4, hV1, hV2, hV3⟩; have ho2 := own_keeps ho hk2)
     | (at_builtin; refine wpList_append_own_at _ rfl _ _ _ rfl W.heap.size 9 i0 _ 1 16 Tryz.underlying25 hi0 q0 q1 q2 rfl (by decide) _ k _ rfl (World.ownsRow.alloc (World.ownsRow.alloc ho2 _) _) ⟨w2.heap.size + 1, 0, none⟩ 1 1 [.string ⟨#[122]⟩] rfl rfl (news_str w2 _ _ _) (by simp [Value.oneCell']) (by have : maxLen = 9223372036854775807 := rfl; omega) (by omega) (by have := hk.size; have := hk2.size; simp; omega) ?_; intro v3' w3 hown3 hgrow3 _ hat3; obtain ⟨hA3, hK3⟩ := after_row hk hk2 hgrow3 (fun k hk9 => own_at ho hk9); have z0 := hA3.cell yb y9 y0; have z1 := hA3.cell yb y9 y1; have z2 := hA3.cell yb y9 y2; have z3 := hA3.cell yb y9 y3; have z4 := hA3.cell yb y9 y4; have hx3 := after_new hgrow3 (fun e => by have := (own_at ho e).2; have := hk2.size; omega); have hx3c : w3.cell? ⟨w2.heap.size, 2, none⟩ = some (.slice (some ⟨xb, xo, none⟩) 1 xc) := cell_of_heap hx3 rfl; clear hx3; obtain ⟨a4, c4, rfl, hw4⟩ := ownS_shape (ownS_z hwz hkl.h hown3))
     | (go_at_call 9; refine (numP_calls _ _).mono ?_; rintro e w9 ⟨rfl, hw9⟩; obtain rfl := hw9.symm)
     | (go_at_call 14; refine (hV1 _ hA3).mono ?_; rintro e w4 ⟨hk4, v4, L4, rfl, hown4, hmap4, hinc4⟩)
     | (go_at_call 13; refine (named_ok2 w6 _ v6 L6 a4 _ c4 hown6 (by have := congrArg List.length hmap6; rw [List.length_map, hwz, List.length_append] at this; exact this.symm) (fun q x hx => (hw4 q x.1 (by rw [← hmap6, List.getElem?_map, hx]; rfl)).imp fun b hb => hb.imp fun off hb => ⟨hb.1, (Keeps.cell' hk36 (p := ⟨b, off + q, none⟩) (cell_lt hb.2)).trans hb.2⟩) hinc6 (by have := congrArg List.length hmap6; rw [List.length_map, hwz, List.length_append] at this; rw [this]; simp only [List.length_cons, List.length_nil]; omega)).mono ?_; rintro e w7 ⟨rfl, q2, rfl⟩; have hk37 : Keeps w3 (w6.drewN q2) := hk36.trans ⟨rfl, rfl, Nat.le_refl _, fun _ _ => rfl⟩; have hx7 := (Keeps.cell' hk37 (p := ⟨w2.heap.size, 2, none⟩) (cell_lt hx3c)).trans hx3c)
     | (go_at_call 13; refine (named_ok2 w4 _ v4 L4 a4 _ c4 hown4 (by have := congrArg List.length hmap4; rw [List.length_map, hwz, List.length_append] at this; exact this.symm) (fun q x hx => (hw4 q x.1 (by rw [← hmap4, List.getElem?_map, hx]; rfl)).imp fun b hb => hb.imp fun off hb => ⟨hb.1, (Keeps.cell' hk4 (p := ⟨b, off + q, none⟩) (cell_lt hb.2)).trans hb.2⟩) hinc4 (by have := congrArg List.length hmap4; rw [List.length_map, hwz, List.length_append] at this; rw [this]; simp only [List.length_cons, List.length_nil]; omega)).mono ?_; rintro e w5 ⟨rfl, q1, rfl⟩; have hk35 : Keeps w3 (w4.drewN q1) := hk4.trans ⟨rfl, rfl, Nat.le_refl _, fun _ _ => rfl⟩; have hx5 := (Keeps.cell' hk35 (p := ⟨w2.heap.size, 2, none⟩) (cell_lt hx3c)).trans hx3c)
     | (go_at_call 15; refine (hV2 _ (hA3.keeps hk35)).mono ?_; rintro e w6 ⟨hk6, v6, L6, rfl, hown6, hmap6, hinc6⟩; have hk36 := hk35.trans hk6)
     | (go_at_call 16; refine (hV3 _ (hA3.keeps hk37)).mono ?_; rintro e w8 ⟨hk8, v8, L8, rfl, hown8, hmap8, -⟩; have hL8 : L8 = [] := List.map_eq_nil_iff.1 hmap8; subst hL8; obtain ⟨a8, c8, rfl, -⟩ := own_shape hown8))
    go_ret
    exact ⟨rfl, hK3.trans (hk37.trans hk8)⟩
  ·have i1 : ¬ (j : Int) < (len : Int) := by omega
   have hmin : min len 20 = j := by omega
   rw [hmin] at hX
   have hj20 : j ≤ 20 := by omega
   have hwl := wantP_len (picksP z j) 0
   rw [picksP_len] at hwl
   have hS' : S = ⟨(91 :: bodyP 0 (picksP z j)).toArray⟩ := by
    rcases S with ⟨l⟩; simp only at hS; rw [← hS]
   subst hS'
   have hT : (⟨#[108, 101, 116, 32]⟩ ++ ⟨(91 :: bodyP 0 (picksP z j)).toArray⟩ : ByteArray) ++ ⟨#[46, 46, 46, 122, 93, 32, 61, 32, 121]⟩ = textP (picksP z j) := by
    unfold textP
    apply ByteArray.ext
    simp [ByteArray.data_append]
   obtain ⟨k, hkl⟩ : ∃ k, Hid (k = (wantP 0 (picksP z j)).length) := ⟨_, ⟨rfl⟩⟩
   have hk20 : k ≤ 40 := by rw [hkl.h]; omega
   have ho := own_k hkl.h ho
   have hX' := hX _ hk
   have hwz : wantZ (picksP z j) = wantP 0 (picksP z j) ++ [⟨#[122]⟩] := rfl
   generalize picksP z j = Lk at hX' hwl ho hkl hS hSz hT hwz ⊢
   clear hX hz hAw hDec hS
   generalize (⟨(91 :: bodyP 0 Lk).toArray⟩ : ByteArray) = S at hT hSz ⊢
   generalize textP Lk = TX at hX' hT
   generalize hwZ : wantZ Lk = WZ at hX' hwz
   generalize wantP 0 Lk = want at hwz ho hkl hwl
   go_wp2_with (first
    | (go_at_call 12; refine hX'.mono ?_; rintro e w2 ⟨hk2, x1, xb, xo, xc, xf, xt, xu, xn, xa, xl, xcc, xff, xoo, rfl, yb, y9, y0, y1, y2, y3, y4, hV1, hV2, hV3⟩; have ho2 := own_keeps ho hk2)
    | (at_builtin; refine wpList_append_own_at _ rfl _ _ _ rfl W.heap.size 9 i0 _ 1 16 Tryz.underlying25 hi0 q0 q1 q2 rfl (by decide) _ k _ rfl (World.ownsRow.alloc (World.ownsRow.alloc ho2 _) _) ⟨w2.heap.size + 1, 0, none⟩ 1 1 [.string ⟨#[122]⟩] rfl rfl (news_str w2 _ _ _) (by simp [Value.oneCell']) (by have : maxLen = 9223372036854775807 := rfl; omega) (by omega) (by have := hk.size; have := hk2.size; simp; omega) ?_; intro v3' w3 hown3 hgrow3 _ hat3; obtain ⟨hA3, hK3⟩ := after_row hk hk2 hgrow3 (fun k hk9 => own_at ho hk9); have z0 := hA3.cell yb y9 y0; have z1 := hA3.cell yb y9 y1; have z2 := hA3.cell yb y9 y2; have z3 := hA3.cell yb y9 y3; have z4 := hA3.cell yb y9 y4; have hx3 := after_new hgrow3 (fun e => by have := (own_at ho e).2; have := hk2.size; omega); have hx3c : w3.cell? ⟨w2.heap.size, 2, none⟩ = some (.slice (some ⟨xb, xo, none⟩) 1 xc) := cell_of_heap hx3 rfl; clear hx3; obtain ⟨a4, c4, rfl, hw4⟩ := ownS_shape (ownS_z hwz hkl.h hown3))
    | (go_at_call 9; refine (numP_calls _ _).mono ?_; rintro e w9 ⟨rfl, hw9⟩; obtain rfl := hw9.symm)
    | (go_at_call 14; refine (hV1 _ hA3).mono ?_; rintro e w4 ⟨hk4, v4, L4, rfl, hown4, hmap4, hinc4⟩)
    | (go_at_call 13; refine (named_ok2 w6 _ v6 L6 a4 _ c4 hown6 (by have := congrArg List.length hmap6; rw [List.length_map, hwz, List.length_append] at this; exact this.symm) (fun q x hx => (hw4 q x.1 (by rw [← hmap6, List.getElem?_map, hx]; rfl)).imp fun b hb => hb.imp fun off hb => ⟨hb.1, (Keeps.cell' hk36 (p := ⟨b, off + q, none⟩) (cell_lt hb.2)).trans hb.2⟩) hinc6 (by have := congrArg List.length hmap6; rw [List.length_map, hwz, List.length_append] at this; rw [this]; simp only [List.length_cons, List.length_nil]; omega)).mono ?_; rintro e w7 ⟨rfl, q2, rfl⟩; have hk37 : Keeps w3 (w6.drewN q2) := hk36.trans ⟨rfl, rfl, Nat.le_refl _, fun _ _ => rfl⟩; have hx7 := (Keeps.cell' hk37 (p := ⟨w2.heap.size, 2, none⟩) (cell_lt hx3c)).trans hx3c)
    | (go_at_call 13; refine (named_ok2 w4 _ v4 L4 a4 _ c4 hown4 (by have := congrArg List.length hmap4; rw [List.length_map, hwz, List.length_append] at this; exact this.symm) (fun q x hx => (hw4 q x.1 (by rw [← hmap4, List.getElem?_map, hx]; rfl)).imp fun b hb => hb.imp fun off hb => ⟨hb.1, (Keeps.cell' hk4 (p := ⟨b, off + q, none⟩) (cell_lt hb.2)).trans hb.2⟩) hinc4 (by have := congrArg List.length hmap4; rw [List.length_map, hwz, List.length_append] at this; rw [this]; simp only [List.length_cons, List.length_nil]; omega)).mono ?_; rintro e w5 ⟨rfl, q1, rfl⟩; have hk35 : Keeps w3 (w4.drewN q1) := hk4.trans ⟨rfl, rfl, Nat.le_refl _, fun _ _ => rfl⟩; have hx5 := (Keeps.cell' hk35 (p := ⟨w2.heap.size, 2, none⟩) (cell_lt hx3c)).trans hx3c)
    | (go_at_call 15; refine (hV2 _ (hA3.keeps hk35)).mono ?_; rintro e w6 ⟨hk6, v6, L6, rfl, hown6, hmap6, hinc6⟩; have hk36 := hk35.trans hk6)
    | (go_at_call 16; refine (hV3 _ (hA3.keeps hk37)).mono ?_; rintro e w8 ⟨hk8, v8, L8, rfl, hown8, hmap8, -⟩; have hL8 : L8 = [] := List.map_eq_nil_iff.1 hmap8; subst hL8; obtain ⟨a8, c8, rfl, -⟩ := own_shape hown8))
   go_ret
   exact ⟨rfl, hK3.trans (hk37.trans hk8)⟩
end Go.Proofs.YtgpibpkplhlihaaGreatDoor
