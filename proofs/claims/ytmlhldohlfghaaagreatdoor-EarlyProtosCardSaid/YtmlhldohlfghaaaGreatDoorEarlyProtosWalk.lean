/- The closed calls awake() return true: answers that are known beforehand. No condition. · The walk of the law EarlyProtos: it builds the text out of the picks and asks whether that text is taken as it should be. What the two calls answer is asked for. · All answers of the law EarlyProtos are sound. No condition. · What a closed run of the law's call over the text says of the program itself. · The law EarlyProtos returns true, whatever the picks are. No condition beyond the listed variables. -/
import Derived.Test.YtmlhldohlfghaaaGreatDoorTab
import Derived.Test.YtmlhldohlfghaaaGreatDoorProg
import Derived.Test.YtmlhldohlfghaaaGreatDoorEvTmG
import Derived.Below
import Derived.WalkKit
import Derived.WalkSmall
import Derived.Laws.Cells
import Derived.ChangeArms
import Derived.DataReads
import Derived.ChangeOld
import Derived.IntWalk
import Derived.Laws.Bits64
import Derived.Test.YtmlhldohlfghaaaGreatDoorCutP
import Derived.Test.YtmlhldohlfghaaaGreatDoorTqPL
import Derived.Test.YtmlhldohlfghaaaGreatDoorTqPV
import Derived.Test.YtmlhldohlfghaaaGreatDoorLeft
import Derived.Test.YtmlhldohlfghaaaGreatDoorDepthD
import Derived.Test.YtmlhldohlfghaaaGreatDoorRunP0
import Derived.Test.YtmlhldohlfghaaaGreatDoorRunP5
import Derived.Test.YtmlhldohlfghaaaGreatDoorRunP6
import Derived.Test.YtmlhldohlfghaaaGreatDoorRunT7_0
import Derived.Test.YtmlhldohlfghaaaGreatDoorRunF7_0
import Derived.Test.YtmlhldohlfghaaaGreatDoorRunF7_1
import Derived.Test.YtmlhldohlfghaaaGreatDoorRunF7_2
import Derived.Test.YtmlhldohlfghaaaGreatDoorRunT8_0
import Derived.Test.YtmlhldohlfghaaaGreatDoorRunF8_0
import Derived.Test.YtmlhldohlfghaaaGreatDoorRunF8_1
import Derived.Test.YtmlhldohlfghaaaGreatDoorRunF8_2
import Derived.Test.YtmlhldohlfghaaaGreatDoorRunT9_0
import Derived.Test.YtmlhldohlfghaaaGreatDoorRunF9_0
import Derived.Test.YtmlhldohlfghaaaGreatDoorRunF9_1
import Derived.Test.YtmlhldohlfghaaaGreatDoorRunF9_2
import Derived.Test.YtmlhldohlfghaaaGreatDoorRunF9_3
import Derived.Test.YtmlhldohlfghaaaGreatDoorRunT10_0
import Derived.Test.YtmlhldohlfghaaaGreatDoorRunF10_0
import Derived.Test.YtmlhldohlfghaaaGreatDoorRunF10_1
import Derived.Test.YtmlhldohlfghaaaGreatDoorRunF10_2
import Derived.Test.YtmlhldohlfghaaaGreatDoorRunF10_3
import Derived.Test.YtmlhldohlfghaaaGreatDoorRunF10_4
import Derived.Test.YtmlhldohlfghaaaGreatDoorRunT11_0
import Derived.Test.YtmlhldohlfghaaaGreatDoorRunF11_0
import Derived.Test.YtmlhldohlfghaaaGreatDoorRunF11_1
import Derived.Test.YtmlhldohlfghaaaGreatDoorRunF11_2
import Derived.Test.YtmlhldohlfghaaaGreatDoorRunF11_3
import Derived.Test.YtmlhldohlfghaaaGreatDoorRunF11_4
import Derived.Test.YtmlhldohlfghaaaGreatDoorRunF11_5
import Derived.Test.YtmlhldohlfghaaaGreatDoorRunT12_0
import Derived.Test.YtmlhldohlfghaaaGreatDoorRunF12_0
import Derived.Test.YtmlhldohlfghaaaGreatDoorRunF12_1
import Derived.Test.YtmlhldohlfghaaaGreatDoorRunF12_2
import Derived.Test.YtmlhldohlfghaaaGreatDoorRunF12_3
import Derived.Test.YtmlhldohlfghaaaGreatDoorRunF12_4
import Derived.Test.YtmlhldohlfghaaaGreatDoorRunF12_5
import Derived.Test.YtmlhldohlfghaaaGreatDoorRunF12_6
namespace Go.Proofs.YtmlhldohlfghaaaGreatDoor
open Go Go.Ev
set_option linter.unusedSectionVars false
variable [Sig]
theorem aw0 : isV (.bool true) ((fnsF Tryz.prog orc 3000).call 5 [] (hInit tabs)) = true := by kernel_rfl
noncomputable def anss2 : List (Nat × Ansr) := [(5, nilR (.val (.bool true)))] ++ anss
theorem anss2_ok : AnssOk Tryz.prog tabs anss2 := by
  intro p hp
  rcases List.mem_cons.1 hp with rfl | hp
  · exact nilG_ok progOk orc_ok (by kernel_rfl) aw0
  exact anss_ok p hp
noncomputable def orc2 : Orc := orcOf (trOf anss2)
theorem orc2_ok : ∀ W : Wb, TabsB W tabs → OrcOk Tryz.prog W orc2 := orcOf_ok anss2_ok
end Go.Proofs.YtmlhldohlfghaaaGreatDoor
namespace Go.Proofs.YtmlhldohlfghaaaGreatDoor
open Go Go.Ev Go.RowKit Go.Proofs
theorem Keeps.cell' {w w' : World} (h : Keeps w w') {p : Addr} (hp : p.block < w.heap.size) : w'.cell? p = w.cell? p := World.cell?_of_block (w := w) (h.block p.block hp)
set_option linter.unusedVariables false
set_option linter.unusedSimpArgs false

/-- the text of an item -/
def altP : Nat → List UInt8
  | 0 => [95, 95, 112, 114, 111, 116, 111, 95, 95, 58, 32, 49]
  | 1 => [39, 95, 95, 112, 114, 111, 116, 111, 95, 95, 39, 58, 32, 50]
  | 2 => [34, 92, 120, 53, 102, 95, 112, 114, 111, 116, 111, 95, 95, 34, 58, 32, 51]
  | 3 => [91, 39, 95, 95, 112, 114, 111, 116, 111, 95, 95, 39, 93, 58, 32, 52]
  | 4 => [95, 95, 112, 114, 111, 116, 111, 95, 95, 40, 41, 32, 123, 125]
  | 5 => [95, 95, 112, 114, 111, 116, 111]
  | _ => [103, 101, 116, 32, 95, 95, 112, 114, 111, 116, 111, 95, 95, 40, 41, 32, 123, 125]
def bodyP : List Nat → List UInt8
  | [] => []
  | k :: ks => altP k ++ (44 :: bodyP ks)
theorem bodyP_app (l : List Nat) (k : Nat) : bodyP (l ++ [k]) = bodyP l ++ (altP k ++ [44]) := by
  induction l with
  | nil => rfl
  | cons x l ih => simp only [List.cons_append, bodyP, ih, List.append_assoc, List.cons_append]
def intP : Value → Int
  | .int _ n => n
  | _ => 0
def manyP : List Nat → Nat
  | [] => 0
  | k :: ks => (if k < 3 then 1 else 0) + manyP ks
theorem manyP_app (l : List Nat) (k : Nat) : manyP (l ++ [k]) = manyP l + (if k < 3 then 1 else 0) := by
  induction l with
  | nil => simp [manyP]
  | cons x l ih => simp only [List.cons_append, manyP, ih]; omega
theorem manyP_le (l : List Nat) : manyP l ≤ l.length := by
  induction l with
  | nil => simp [manyP]
  | cons x l ih => simp only [manyP, List.length_cons]; split <;> omega
/-- an item's kind -/
def kindP (z : Int) : Nat := (IntKind.u64.wrap z % 7).toNat
def picksP (z : Nat → Int) : Nat → List Nat
  | 0 => []
  | n + 1 => picksP z n ++ [kindP (z n)]
theorem u64_nonneg (z : Int) : 0 ≤ IntKind.u64.wrap z ∧ IntKind.u64.wrap z < 18446744073709551616 := by
  rw [IntKind.wrap_u64]; omega
theorem kindP_lt (z : Int) : kindP z < 7 := by
  unfold kindP; have := (u64_nonneg z).1; omega
theorem kindP_tmod (z : Int) : (IntKind.u64.wrap z).tmod 7 = (kindP z : Int) := by
  unfold kindP
  have := (u64_nonneg z).1
  rw [Int.tmod_eq_emod_of_nonneg this]
  omega
theorem picksP_len (z : Nat → Int) (n : Nat) : (picksP z n).length = n := by
  induction n with
  | zero => rfl
  | succ n ih => simp [picksP, ih]
theorem altP_le (k : Nat) : (altP k).length ≤ 18 := by
  unfold altP; split <;> decide
theorem bodyP_le (z : Nat → Int) (n : Nat) : (bodyP (picksP z n)).length ≤ 19 * n := by
  induction n with
  | zero => simp [picksP, bodyP]
  | succ n ih =>
    rw [picksP, bodyP_app]
    have := altP_le (kindP (z n))
    simp only [List.length_append, List.length_cons, List.length_nil]
    omega
theorem cell_lt {w : World} {a : Addr} {v : Value} (h : w.cell? a = some v) : a.block < w.heap.size := by
  unfold World.cell? at h
  split at h
  · rename_i hb; exact (Array.getElem?_eq_some_iff.1 hb).1
  · cases h
/-- the text so far -/
def TxtP (s : Value) (l : List Nat) : Prop := ∃ S : ByteArray, s = .string S ∧ S.data.toList = 40 :: 123 :: bodyP l
theorem TxtP.more {S A B : ByteArray} {l : List Nat} {k : Nat} (h : S.data.toList = 40 :: 123 :: bodyP l) (ha : A.data.toList = altP k) (hb : B.data.toList = [44]) : TxtP (.string (S ++ A ++ B)) (l ++ [k]) := by
  refine ⟨_, rfl, ?_⟩
  simp [ByteArray.data_append, h, ha, hb, bodyP_app]
set_option maxHeartbeats 4000000 in
set_option maxRecDepth 1000000 in
theorem protos_walk (a : Option Addr) (len cap : Nat) (z : Nat → Int) (W : World) (hlen : len ≤ maxLen) (hz : ∀ i, i < len → ∃ b off, a = some ⟨b, off, none⟩ ∧ W.cell? ⟨b, off + i, none⟩ = some (.int .i64 (z i)))
    (hAw : ∀ w, Keeps W w → Calls Tryz.prog 5 #[] w fun e w' => e = .returned (.bool true) ∧ Keeps w w')
    (hJ : ∀ w, Keeps W w → Calls Tryz.prog 6 #[.string ⟨(40 :: 123 :: bodyP (picksP z (min len 12)) ++ [125, 41]).toArray⟩, .bool false, .bool (decide (manyP (picksP z (min len 12)) < 2)), .int .i64 1207] w fun e w' => e = .returned (.bool true) ∧ Keeps w w') :
    Calls Tryz.prog 3 #[.slice a len cap] W fun e w' => e = .returned (.bool true) ∧ Keeps W w' := by
  go_enter Tryz.func3, Tryz.ntmps3
  go_wp2_with (first
      | (go_at_call 5; refine (hAw _ (Keeps.refl _)).mono ?_; rintro e w1 ⟨rfl, hk1⟩))
  go_loopw [3, 4, 5] (fun s m i wr => ∃ j : Nat, j ≤ min len 12 ∧ TxtP s (picksP z j) ∧ m = .int .i64 (manyP (picksP z j) : Nat) ∧ i = .int .i64 (j : Nat) ∧ Keeps W wr) (fun _ _ i _ => 12 - (intP i).toNat)
  case atStart =>
    exact ⟨0, Nat.zero_le _, ⟨_, rfl, rfl⟩, rfl, rfl, hk1⟩
  case round =>
    obtain ⟨j, hj, ⟨S, rfl, hS⟩, rfl, rfl, hk⟩ := hrel
    have hSz : S.size ≤ 2 + 19 * j := by
      have := congrArg List.length hS
      have h2 := bodyP_le z j
      simp only [List.length_cons, Array.length_toList] at this
      show S.data.size ≤ _
      omega
    have hcap : len < 9223372036854775808 := by unfold maxLen at hlen; omega
    by_cases hlt : j < len
    · by_cases h12 : j < 12
      · obtain ⟨b, off, rfl, hcell⟩ := hz j hlt
        have hblk : b < W.heap.size := cell_lt hcell
        have hc2 : wr.cell? ⟨b, off + j, none⟩ = some (.int .i64 (z j)) := (Keeps.cell' hk (p := ⟨b, off + j, none⟩) hblk).trans hcell
        have i1 : (j : Int) < (len : Int) := by omega
        have i2 : (j : Int) < 12 := by omega
        have i3 : (0 : Int) ≤ (j : Int) := by omega
        have i4 : ((j : Int)).toNat = j := by omega
        have i5 : IntKind.i64.wrap ((j : Int) + 1) = (j : Int) + 1 := IntWalk.i64_in _ (by omega)
        have hk7 : kindP (z j) < 7 := kindP_lt _
        have hmod : (IntKind.u64.wrap (z j)).tmod 7 = (kindP (z j) : Int) := kindP_tmod _
        obtain ⟨c, hc⟩ : ∃ c, kindP (z j) = c := ⟨_, rfl⟩
        rw [hc] at hmod hk7
        have hcs : c = 0 ∨ c = 1 ∨ c = 2 ∨ c = 3 ∨ c = 4 ∨ c = 5 ∨ c = 6 := by omega
        clear hz hJ hAw
        have hmw : ∀ m : Nat, m ≤ 12 → wrap64 ((m : Int) + 1) = ((m + 1 : Nat) : Int) := fun m hm => by unfold wrap64; omega
        have hmy := manyP_le (picksP z j)
        rw [picksP_len] at hmy
        rcases hcs with rfl | rfl | rfl | rfl | rfl | rfl | rfl
        · have hm0 : (IntKind.u64.wrap (z j)).tmod 7 = 0 := hmod
          go_wp2
          refine ⟨⟨j + 1, by omega, ?_, ?_, ?_, hk.trans (Keeps.alloc _ _)⟩, by simp only [intP]; omega⟩
          · exact TxtP.more hS (by rw [hc]; rfl) rfl
          · rw [picksP, manyP_app, hc]; exact congrArg (Value.int .i64) (by simp)
          · exact congrArg (Value.int .i64) (by omega)
        · have hm0 : (IntKind.u64.wrap (z j)).tmod 7 = 1 := hmod
          go_wp2
          refine ⟨⟨j + 1, by omega, ?_, ?_, ?_, hk.trans (Keeps.alloc _ _)⟩, by simp only [intP]; omega⟩
          · exact TxtP.more hS (by rw [hc]; rfl) rfl
          · rw [picksP, manyP_app, hc]; exact congrArg (Value.int .i64) (by simp)
          · exact congrArg (Value.int .i64) (by omega)
        · have hm0 : (IntKind.u64.wrap (z j)).tmod 7 = 2 := hmod
          go_wp2
          refine ⟨⟨j + 1, by omega, ?_, ?_, ?_, hk.trans (Keeps.alloc _ _)⟩, by simp only [intP]; omega⟩
          · exact TxtP.more hS (by rw [hc]; rfl) rfl
          · rw [picksP, manyP_app, hc]; exact congrArg (Value.int .i64) (by simp)
          · exact congrArg (Value.int .i64) (by omega)
        · have hm0 : (IntKind.u64.wrap (z j)).tmod 7 = 3 := hmod
          go_wp2
          refine ⟨⟨j + 1, by omega, ?_, ?_, ?_, hk.trans (Keeps.alloc _ _)⟩, by simp only [intP]; omega⟩
          · exact TxtP.more hS (by rw [hc]; rfl) rfl
          · rw [picksP, manyP_app, hc]; rfl
          · exact congrArg (Value.int .i64) (by omega)
        · have hm0 : (IntKind.u64.wrap (z j)).tmod 7 = 4 := hmod
          go_wp2
          refine ⟨⟨j + 1, by omega, ?_, ?_, ?_, hk.trans (Keeps.alloc _ _)⟩, by simp only [intP]; omega⟩
          · exact TxtP.more hS (by rw [hc]; rfl) rfl
          · rw [picksP, manyP_app, hc]; rfl
          · exact congrArg (Value.int .i64) (by omega)
        · have hm0 : (IntKind.u64.wrap (z j)).tmod 7 = 5 := hmod
          go_wp2
          refine ⟨⟨j + 1, by omega, ?_, ?_, ?_, hk.trans (Keeps.alloc _ _)⟩, by simp only [intP]; omega⟩
          · exact TxtP.more hS (by rw [hc]; rfl) rfl
          · rw [picksP, manyP_app, hc]; rfl
          · exact congrArg (Value.int .i64) (by omega)
        · have hm0 : (IntKind.u64.wrap (z j)).tmod 7 = 6 := hmod
          go_wp2
          refine ⟨⟨j + 1, by omega, ?_, ?_, ?_, hk.trans (Keeps.alloc _ _)⟩, by simp only [intP]; omega⟩
          · exact TxtP.more hS (by rw [hc]; rfl) rfl
          · rw [picksP, manyP_app, hc]; rfl
          · exact congrArg (Value.int .i64) (by omega)
      · have i2 : ¬ ((j : Int) < 12) := by omega
        have i1 : (j : Int) < (len : Int) := by omega
        have hmin : min len 12 = j := by omega
        rw [hmin] at hJ
        generalize picksP z j = L at hS hJ
        clear hz hAw
        have hJ' : ∀ w S' b, Keeps W w → S'.data.toList = 40 :: 123 :: bodyP L ++ [125, 41] → b = decide ((manyP L : Int) < 2) → Calls Tryz.prog 6 #[.string S', .bool false, .bool b, .int .i64 1207] w fun e w' => e = .returned (.bool true) ∧ Keeps w w' := fun w S' b hw hS' hb => by
          have e : S' = ⟨(40 :: 123 :: bodyP L ++ [125, 41]).toArray⟩ := by
            rcases S' with ⟨l⟩; simp only at hS'; rw [← hS']
          have e2 : b = decide (manyP L < 2) := by rw [hb]; exact decide_eq_decide.2 (by omega)
          rw [e, e2]; exact hJ w hw
        go_wp2_with (first
          | (go_at_call 6; refine (hJ' _ _ _ hk (by simp [ByteArray.data_append, hS]) (by first | rfl | simp)).mono ?_; rintro e w2 ⟨rfl, hk2⟩))
        all_goals go_ret
        all_goals exact ⟨rfl, hk.trans hk2⟩
    · have i1 : ¬ ((j : Int) < (len : Int)) := by omega
      have hmin : min len 12 = j := by omega
      rw [hmin] at hJ
      generalize picksP z j = L at hS hJ
      clear hz hAw
      have hJ' : ∀ w S' b, Keeps W w → S'.data.toList = 40 :: 123 :: bodyP L ++ [125, 41] → b = decide ((manyP L : Int) < 2) → Calls Tryz.prog 6 #[.string S', .bool false, .bool b, .int .i64 1207] w fun e w' => e = .returned (.bool true) ∧ Keeps w w' := fun w S' b hw hS' hb => by
        have e : S' = ⟨(40 :: 123 :: bodyP L ++ [125, 41]).toArray⟩ := by
          rcases S' with ⟨l⟩; simp only at hS'; rw [← hS']
        have e2 : b = decide (manyP L < 2) := by rw [hb]; exact decide_eq_decide.2 (by omega)
        rw [e, e2]; exact hJ w hw
      go_wp2_with (first
        | (go_at_call 6; refine (hJ' _ _ _ hk (by simp [ByteArray.data_append, hS]) (by first | rfl | simp)).mono ?_; rintro e w2 ⟨rfl, hk2⟩))
      all_goals go_ret
      all_goals exact ⟨rfl, hk.trans hk2⟩
end Go.Proofs.YtmlhldohlfghaaaGreatDoor
namespace Go.Proofs.YtmlhldohlfghaaaGreatDoor
open Go Go.Ev
set_option linter.unusedSectionVars false
theorem orcB_ok (S : Sig) (W : Wb) : @TabsB S W tabs → @OrcOk S Tryz.prog W orcB := by
  refine @orcOf3_ok S Tryz.prog tabs anss [(68, hpT)] [(87, tmG jPlace lexTq)] anss_ok ?_ ?_ W
  · intro p hp
    rw [List.mem_singleton] at hp
    subst hp
    exact hp_ok
  · intro p hp
    rw [List.mem_singleton] at hp
    subst hp
    exact tmG_ok progOk tabs_closed orcA_ok (by kernel_rfl) lexAll
theorem orcC_ok (S : Sig) (W : Wb) : @TabsB S W tabs → @OrcOk S Tryz.prog W orcC := by
  refine @orcOf3_ok S Tryz.prog tabs anss [(68, hpT)] [(87, tmG jPlace lexTq), (346, tmG jLast itemTq), (15, tmG jLast visitTq), (17, leftM), (18, depthM)] anss_ok ?_ ?_ W
  · intro p hp
    rw [List.mem_singleton] at hp
    subst hp
    exact hp_ok
  · intro p hp
    simp only [List.mem_cons, List.mem_nil_iff, or_false] at hp
    rcases hp with rfl | rfl | rfl | rfl | rfl
    · exact tmG_ok progOk tabs_closed orcA_ok (by kernel_rfl) lexAll
    · exact tmG_ok progOk tabs_closed orcB_ok (by kernel_rfl) itemAll
    · exact tmG_ok progOk tabs_closed orcA_ok (by kernel_rfl) visitAll
    · exact leftM_ok (by kernel_rfl) left_any
    · exact depthM_ok (by kernel_rfl) depth_any
end Go.Proofs.YtmlhldohlfghaaaGreatDoor
namespace Go.Proofs.YtmlhldohlfghaaaGreatDoor
open Go Go.Ev
set_option linter.unusedSectionVars false
theorem run_valT {P : Program} [Sig] {w : World} (hP : ProgOk P) {O : Orc} (hO : OrcOk P w O) {l : List Tab} (ht : TabsOk w l) {tx : Tx} (hT : TxOk tx) {f : FuncId} {args : List AV} {us : List Value} {n : Nat} {v : AV} {u : Value}
    (hr : isV v ((fns P O n).call f args (hInitT l tx [])) = true) (hu : cvL E00 args = some us) (hv : cv E00 v = some u) : Calls P f us.toArray w (fun e w' => e = .returned u ∧ Keeps w w') := by
  cases hc : (fns P O n).call f args (hInitT l tx []) with
  | val v' h' =>
    rw [hc] at hr
    simp only [isV, Bool.and_eq_true] at hr
    have := AV.beq_eq _ _ hr.1
    subst this
    have ho : Outs ((fns P O n).call f args (hInitT l tx [])) := by rw [hc]; trivial
    obtain ⟨-, h2⟩ := (fns_ok hP hO n).call E00 (hInitT l tx []) w f args us (start_simT ht (fun p hp => by cases hp) hT) hu ho
    rw [callsIn_wide] at h2
    refine h2.mono fun e w' he => ?_
    rw [hc] at he
    obtain ⟨E', u', rfl, -, hs, hv'⟩ := he
    rw [plain_cv hr.2 E' E00, hv] at hv'
    cases hv'
    exact ⟨rfl, hs.keeps⟩
  | fail => rw [hc] at hr; cases hr
  | pan _ _ => rw [hc] at hr; cases hr
  | dfr _ _ => rw [hc] at hr; cases hr
theorem v00b : ValOk (symVal []) := symVal_ok fun s h => by cases h
theorem isEnd_self (tx : Tx) (h : tx.tail.1 < 32768) : isEnd tx (endI tx) = true := by
  unfold isEnd
  rw [Bool.and_eq_true]
  refine ⟨Nat.ble_eq_true_of_le h, ?_⟩
  generalize endI tx = z
  cases z with
  | ofNat a => exact Nat.beq_refl a
  | negSucc a => exact Nat.beq_refl a
theorem pre_some [Sig] {z : Int} (hd : dec z = (Sig.txt.size : Int)) : ∃ u, cv E00 (.pre z) = some u := by
  simp only [cv]
  rw [hd, if_pos ⟨Int.natCast_nonneg _, Int.le_refl _⟩]
  exact ⟨_, rfl⟩
theorem cv_int [Sig] {n : Int} (hn : dec n = n) : cv E00 (.int .i64 n) = some (.int .i64 n) := by
  simp only [cv]
  exact congrArg (fun x => some (Value.int .i64 x)) hn
theorem cv_bool [Sig] (b : Bool) : cv E00 (.bool b) = some (.bool b) := by simp only [cv]
theorem args_z [Sig] {z : Int} {u : Value} (hu : cv E00 (.pre z) = some u) (fine : Bool) (n : Int) (hn : dec n = n) : cvL E00 [.pre z, .bool false, .bool fine, .int .i64 n] = some [u, .bool false, .bool fine, .int .i64 n] := by
  simp only [cvL]
  rw [hu, cv_bool, cv_bool, cv_int hn]
theorem pre_cv [Sig] {tx : Tx} (hT : TxOk tx) (hon : tx.on = true) (h : tx.tail.1 < 32768) : cv E00 (.pre (endI tx)) = some (.string Sig.txt) := by
  obtain ⟨u, hu⟩ := pre_some (end_val hT hon h)
  rw [← pre_val hT hon (isEnd_self tx h) hu]
  exact hu
theorem args_cv [Sig] {tx : Tx} (hT : TxOk tx) (hon : tx.on = true) (h : tx.tail.1 < 32768) (fine : Bool) (n : Int) (hn : dec n = n) : cvL E00 [.pre (endI tx), .bool false, .bool fine, .int .i64 n] = some [.string Sig.txt, .bool false, .bool fine, .int .i64 n] :=
  args_z (pre_cv hT hon h) fine n hn
theorem just_txt {fine : Bool} {KS : List (List Nat)} {PS : List (List (List Nat))} (kap : Nat → Nat) (hr : runJ fine KS PS = true) (hn : (txP KS PS).its.length < 65536) (hk : ∀ i ks, KS[i]? = some ks → kap i ∈ ks)
    (hs : (txtOf (txP KS PS) kap).length < 500000) (hp : PS ≠ [] → ∃ q ∈ PS, ∀ i ks, q[i]? = some ks → kap i ∈ ks) {w : World} (htS : ∀ S : Sig, @TabsOk S w tabs) :
    Calls Tryz.prog 6 #[.string ⟨(txtOf (txP KS PS) kap).toArray⟩, .bool false, .bool fine, .int .i64 1207] w fun e w' => e = .returned (.bool true) ∧ Keeps w w' := by
  letI S : Sig := sigT (txP KS PS) kap (symVal []) v00b
  have ht : TabsOk w tabs := htS S
  have hT : TxOk (txP KS PS) := sigT_ok _ _ _ v00b hn hk hs hp
  unfold runJ at hr
  rw [fnsF_eq] at hr
  exact run_valT progOk (orcC_ok S w ht.b) ht hT hr (args_cv hT rfl (by show 2 < 32768; omega) fine 1207 rfl) rfl
end Go.Proofs.YtmlhldohlfghaaaGreatDoor
namespace Go.Proofs.YtmlhldohlfghaaaGreatDoor
open Go Go.Ev
theorem tab_okEarlyProtos {W : World} [Sig] (h : laidMetH Tryz.prog Rows.earlyProtosRow.laid W) : TabsOk W tabs := by
  have h' : laidMet Tryz.prog [("unicode/utf8.first", Rows.laid_unicode_utf8_first), ("unicode/utf8.acceptRanges", Rows.laid_unicode_utf8_acceptRanges), ("strings.asciiSpace", Rows.laid_strings_asciiSpace), ("unicode.White_Space", Rows.laid_unicode_White_Space)] W ∧ handlesMet Tryz.prog [("errors.errorType", Rows.laid_errors_errorType)] W := h
  obtain ⟨⟨ps, ⟨_, _, _, _, _, _, _, _, _, _, ⟨_, _, _, _, _, _, _, _, _, _, ⟨g, t, cs, f, p, q, hg, ht, hv, hd, _, _⟩, _⟩, _⟩, _, _⟩, hh⟩ := h'
  obtain rfl := Option.some.inj ((show Tryz.prog.globalNamed "strings.asciiSpace" = some 3 by kernel_rfl).symm.trans hg)
  obtain rfl := Option.some.inj ((show (Tryz.prog.globals[3]?).map (·.type) = some 245 by kernel_rfl).symm.trans ht)
  rw [ks_eq] at hd
  have h1 : TabOk W tab := tab_of_var (by kernel_rfl) hg (by decide) hv Tryz.underlying245 Tryz.underlying5 (by kernel_rfl) hd
  intro x hx
  obtain rfl := List.mem_singleton.1 hx
  exact h1
abbrev clsA : List Nat := [0, 1, 2]
abbrev clsB : List Nat := [3, 4, 5, 6]
abbrev clsC : List Nat := [0, 1, 2, 3, 4, 5, 6]
theorem runsT : ∀ (m : Nat), m ≤ 12 → ∀ q ∈ upTo1 clsA clsB m, ∃ PS, q ∈ PS ∧ runJ true (repP clsC m) PS = true
  | 0, _, q, hq => ⟨_, hq, runT0⟩
  | 1, _, q, hq => ⟨_, hq, runT1⟩
  | 2, _, q, hq => ⟨_, hq, runT2⟩
  | 3, _, q, hq => ⟨_, hq, runT3⟩
  | 4, _, q, hq => ⟨_, hq, runT4⟩
  | 5, _, q, hq => ⟨_, hq, runT5⟩
  | 6, _, q, hq => ⟨_, hq, runT6⟩
  | 7, _, q, hq => by
    obtain ⟨i, hi, hm⟩ := cutP_mem (n := 13) (by decide) hq
    rw [show (upTo1 clsA clsB 7).length = 8 by kernel_rfl] at hi
    obtain rfl : i = 0 := by omega
    exact ⟨_, hm, runT7_0⟩
  | 8, _, q, hq => by
    obtain ⟨i, hi, hm⟩ := cutP_mem (n := 13) (by decide) hq
    rw [show (upTo1 clsA clsB 8).length = 9 by kernel_rfl] at hi
    obtain rfl : i = 0 := by omega
    exact ⟨_, hm, runT8_0⟩
  | 9, _, q, hq => by
    obtain ⟨i, hi, hm⟩ := cutP_mem (n := 13) (by decide) hq
    rw [show (upTo1 clsA clsB 9).length = 10 by kernel_rfl] at hi
    obtain rfl : i = 0 := by omega
    exact ⟨_, hm, runT9_0⟩
  | 10, _, q, hq => by
    obtain ⟨i, hi, hm⟩ := cutP_mem (n := 13) (by decide) hq
    rw [show (upTo1 clsA clsB 10).length = 11 by kernel_rfl] at hi
    obtain rfl : i = 0 := by omega
    exact ⟨_, hm, runT10_0⟩
  | 11, _, q, hq => by
    obtain ⟨i, hi, hm⟩ := cutP_mem (n := 13) (by decide) hq
    rw [show (upTo1 clsA clsB 11).length = 12 by kernel_rfl] at hi
    obtain rfl : i = 0 := by omega
    exact ⟨_, hm, runT11_0⟩
  | 12, _, q, hq => by
    obtain ⟨i, hi, hm⟩ := cutP_mem (n := 13) (by decide) hq
    rw [show (upTo1 clsA clsB 12).length = 13 by kernel_rfl] at hi
    obtain rfl : i = 0 := by omega
    exact ⟨_, hm, runT12_0⟩
  | m + 13, h, _, _ => by omega
theorem runsF : ∀ (m : Nat), m ≤ 12 → ∀ q ∈ from2 clsA clsB clsC m, ∃ PS, q ∈ PS ∧ runJ false (repP clsC m) PS = true
  | 0, _, q, hq => by cases hq
  | 1, _, q, hq => by cases hq
  | 2, _, q, hq => ⟨_, hq, runF2⟩
  | 3, _, q, hq => ⟨_, hq, runF3⟩
  | 4, _, q, hq => ⟨_, hq, runF4⟩
  | 5, _, q, hq => ⟨_, hq, runF5⟩
  | 6, _, q, hq => ⟨_, hq, runF6⟩
  | 7, _, q, hq => by
    obtain ⟨i, hi, hm⟩ := cutP_mem (n := 10) (by decide) hq
    rw [show (from2 clsA clsB clsC 7).length = 21 by kernel_rfl] at hi
    rcases (show i = 0 ∨ i = 1 ∨ i = 2 by omega) with rfl | rfl | rfl
    · exact ⟨_, hm, runF7_0⟩
    · exact ⟨_, hm, runF7_1⟩
    · exact ⟨_, hm, runF7_2⟩
  | 8, _, q, hq => by
    obtain ⟨i, hi, hm⟩ := cutP_mem (n := 10) (by decide) hq
    rw [show (from2 clsA clsB clsC 8).length = 28 by kernel_rfl] at hi
    rcases (show i = 0 ∨ i = 1 ∨ i = 2 by omega) with rfl | rfl | rfl
    · exact ⟨_, hm, runF8_0⟩
    · exact ⟨_, hm, runF8_1⟩
    · exact ⟨_, hm, runF8_2⟩
  | 9, _, q, hq => by
    obtain ⟨i, hi, hm⟩ := cutP_mem (n := 10) (by decide) hq
    rw [show (from2 clsA clsB clsC 9).length = 36 by kernel_rfl] at hi
    rcases (show i = 0 ∨ i = 1 ∨ i = 2 ∨ i = 3 by omega) with rfl | rfl | rfl | rfl
    · exact ⟨_, hm, runF9_0⟩
    · exact ⟨_, hm, runF9_1⟩
    · exact ⟨_, hm, runF9_2⟩
    · exact ⟨_, hm, runF9_3⟩
  | 10, _, q, hq => by
    obtain ⟨i, hi, hm⟩ := cutP_mem (n := 10) (by decide) hq
    rw [show (from2 clsA clsB clsC 10).length = 45 by kernel_rfl] at hi
    rcases (show i = 0 ∨ i = 1 ∨ i = 2 ∨ i = 3 ∨ i = 4 by omega) with rfl | rfl | rfl | rfl | rfl
    · exact ⟨_, hm, runF10_0⟩
    · exact ⟨_, hm, runF10_1⟩
    · exact ⟨_, hm, runF10_2⟩
    · exact ⟨_, hm, runF10_3⟩
    · exact ⟨_, hm, runF10_4⟩
  | 11, _, q, hq => by
    obtain ⟨i, hi, hm⟩ := cutP_mem (n := 10) (by decide) hq
    rw [show (from2 clsA clsB clsC 11).length = 55 by kernel_rfl] at hi
    rcases (show i = 0 ∨ i = 1 ∨ i = 2 ∨ i = 3 ∨ i = 4 ∨ i = 5 by omega) with rfl | rfl | rfl | rfl | rfl | rfl
    · exact ⟨_, hm, runF11_0⟩
    · exact ⟨_, hm, runF11_1⟩
    · exact ⟨_, hm, runF11_2⟩
    · exact ⟨_, hm, runF11_3⟩
    · exact ⟨_, hm, runF11_4⟩
    · exact ⟨_, hm, runF11_5⟩
  | 12, _, q, hq => by
    obtain ⟨i, hi, hm⟩ := cutP_mem (n := 10) (by decide) hq
    rw [show (from2 clsA clsB clsC 12).length = 66 by kernel_rfl] at hi
    rcases (show i = 0 ∨ i = 1 ∨ i = 2 ∨ i = 3 ∨ i = 4 ∨ i = 5 ∨ i = 6 by omega) with rfl | rfl | rfl | rfl | rfl | rfl | rfl
    · exact ⟨_, hm, runF12_0⟩
    · exact ⟨_, hm, runF12_1⟩
    · exact ⟨_, hm, runF12_2⟩
    · exact ⟨_, hm, runF12_3⟩
    · exact ⟨_, hm, runF12_4⟩
    · exact ⟨_, hm, runF12_5⟩
    · exact ⟨_, hm, runF12_6⟩
  | m + 13, h, _, _ => by omega
theorem many_cnt : ∀ l : List Nat, manyP l = cntP (fun k => decide (k < 3)) l
  | [] => rfl
  | k :: l => by rw [manyP, cntP, many_cnt l]; by_cases h : k < 3 <;> simp [h]
theorem its_len (k : List (Nat × Nat)) : ∀ l : List (List Nat), (itsOf k l).length = l.length
  | [] => rfl
  | _ :: l => by rw [itsOf, List.length_cons, List.length_cons, its_len k l]
theorem its_at (k : List (Nat × Nat)) : ∀ (l : List (List Nat)) (i : Nat), i < l.length → (itsOf k l)[i]? = some k
  | [], i, h => by cases h
  | _ :: l, 0, _ => rfl
  | _ :: l, i + 1, h => by rw [itsOf, List.getElem?_cons_succ]; exact its_at k l i (Nat.lt_of_succ_lt_succ h)
theorem rep_len (s : List Nat) : ∀ m : Nat, (repP s m).length = m
  | 0 => rfl
  | m + 1 => by rw [repP, List.length_cons, rep_len s m]
theorem alt_all : ∀ k : Nat, k < 7 → ∃ p, kindsP[k]? = some p ∧ bytesOf p.1 p.2 = altP k
  | 0, _ => ⟨_, rfl, by decide +kernel⟩
  | 1, _ => ⟨_, rfl, by decide +kernel⟩
  | 2, _ => ⟨_, rfl, by decide +kernel⟩
  | 3, _ => ⟨_, rfl, by decide +kernel⟩
  | 4, _ => ⟨_, rfl, by decide +kernel⟩
  | 5, _ => ⟨_, rfl, by decide +kernel⟩
  | 6, _ => ⟨_, rfl, by decide +kernel⟩
  | k + 7, h => by omega
theorem alt_at {ks : List Nat} {PS : List (List (List Nat))} {i k : Nat} (hk : ks[i]? = some k) (h7 : k < 7) : (txP (repP clsC ks.length) PS).alt (fun i => ks.getD i 0) i = altP k := by
  have hi : i < ks.length := (List.getElem?_eq_some_iff.1 hk).1
  obtain ⟨p, h1, h2⟩ := alt_all k h7
  have e : (txP (repP clsC ks.length) PS).its[i]? = some kindsP := its_at _ _ _ (by rw [rep_len]; exact hi)
  have hg : ks.getD i 0 = k := by rw [List.getD, hk]; rfl
  unfold Tx.alt
  rw [e]
  show (match kindsP[ks.getD i 0]? with | some p => bytesOf p.1 p.2 | none => []) = _
  rw [hg, h1]
  exact h2
theorem from_at {ks : List Nat} {PS : List (List (List Nat))} (h7 : ∀ k ∈ ks, k < 7) : ∀ (n j : Nat), j + n = ks.length → (txP (repP clsC ks.length) PS).fromB (fun i => ks.getD i 0) j n = bodyP (ks.drop j) ++ [125, 41]
  | 0, j, h => by
    rw [List.drop_of_length_le (by omega)]
    show bytesOf 2 10621 = [125, 41]
    decide +kernel
  | n + 1, j, h => by
    have hj : j < ks.length := by omega
    have hk : ks[j]? = some ks[j] := List.getElem?_eq_getElem hj
    rw [Tx.fromB, from_at h7 n (j + 1) (by omega), alt_at hk (h7 _ (List.getElem_mem hj)), List.drop_eq_getElem_cons hj, bodyP]
    have e : bytesOf (txP (repP clsC ks.length) PS).sep.1 (txP (repP clsC ks.length) PS).sep.2 = [44] := by
      show bytesOf 1 44 = [44]
      decide +kernel
    rw [e, List.append_assoc]
    rfl
theorem txt_is {ks : List Nat} {PS : List (List (List Nat))} (h7 : ∀ k ∈ ks, k < 7) : txtOf (txP (repP clsC ks.length) PS) (fun i => ks.getD i 0) = 40 :: 123 :: bodyP ks ++ [125, 41] := by
  unfold txtOf
  have e1 : (txP (repP clsC ks.length) PS).its.length = ks.length := (its_len _ _).trans (rep_len _ _)
  have e2 : bytesOf (txP (repP clsC ks.length) PS).head.1 (txP (repP clsC ks.length) PS).head.2 = [40, 123] := by
    show bytesOf 2 31528 = [40, 123]
    decide +kernel
  rw [e1, e2, from_at h7 ks.length 0 (by omega)]
  rfl
theorem just_all {ks : List Nat} (h7 : ∀ k ∈ ks, k < 7) (hm : ks.length ≤ 12) (hlen : (bodyP ks).length ≤ 1000) {w : World} (htS : ∀ S : Sig, @TabsOk S w tabs) :
    Calls Tryz.prog 6 #[.string ⟨(40 :: 123 :: bodyP ks ++ [125, 41]).toArray⟩, .bool false, .bool (decide (manyP ks < 2)), .int .i64 1207] w fun e w' => e = .returned (.bool true) ∧ Keeps w w' := by
  have hal : ∀ k ∈ ks, k ∈ clsC := fun k hk => by
    have := h7 k hk
    rcases (show k = 0 ∨ k = 1 ∨ k = 2 ∨ k = 3 ∨ k = 4 ∨ k = 5 ∨ k = 6 by omega) with rfl | rfl | rfl | rfl | rfl | rfl | rfl <;> decide
  have hA : ∀ k, k ∈ clsC → decide (k < 3) = true → k ∈ clsA := by decide
  have hB : ∀ k, k ∈ clsC → decide (k < 3) = false → k ∈ clsB := by decide
  have key : ∀ (fine : Bool) (q : List (List Nat)) (PS : List (List (List Nat))), Fits q ks → q ∈ PS → runJ fine (repP clsC ks.length) PS = true →
      Calls Tryz.prog 6 #[.string ⟨(40 :: 123 :: bodyP ks ++ [125, 41]).toArray⟩, .bool false, .bool fine, .int .i64 1207] w fun e w' => e = .returned (.bool true) ∧ Keeps w w' := by
    intro fine q PS hf hq hr
    have h := just_txt (fun i => ks.getD i 0) hr ?_ ?_ ?_ ?_ htS
    · rw [txt_is h7] at h
      exact h
    · show (itsOf _ _).length < 65536
      rw [its_len, rep_len]; omega
    · exact fits_get (fits_rep hal)
    · rw [txt_is h7]
      simp only [List.length_cons, List.length_append, List.length_nil]
      omega
    · exact fun _ => ⟨q, hq, fits_get hf⟩
  rw [many_cnt]
  by_cases h : cntP (fun k => decide (k < 3)) ks ≤ 1
  · obtain ⟨q, h1, h2⟩ := fits_up hA hB hal h
    obtain ⟨PS, h3, h4⟩ := runsT _ hm q h1
    rw [decide_eq_true (by omega)]
    exact key true q PS h2 h3 h4
  · obtain ⟨q, h1, h2⟩ := fits_2 hA hB hal (by omega)
    obtain ⟨PS, h3, h4⟩ := runsF _ hm q h1
    rw [decide_eq_false (by omega)]
    exact key false q PS h2 h3 h4
theorem picks_mem (z : Nat → Int) : ∀ (n : Nat), ∀ k ∈ picksP z n, k < 7
  | 0, k, h => by cases h
  | n + 1, k, h => by
    rw [picksP] at h
    rcases List.mem_append.1 h with h | h
    · exact picks_mem z n k h
    · rw [List.mem_singleton.1 h]; exact kindP_lt _
theorem walkEarlyProtos (a : Option Addr) (len cap : Nat) (z : Nat → Int) (W : World) (hlen : len ≤ maxLen) (hz : ∀ i, i < len → ∃ b off, a = some ⟨b, off, none⟩ ∧ W.cell? ⟨b, off + i, none⟩ = some (.int .i64 (z i)))
    (hL : laidMetH Tryz.prog Rows.earlyProtosRow.laid W) : Calls Tryz.prog 3 #[.slice a len cap] W fun e w' => e = .returned (.bool true) ∧ Keeps W w' := by
  have ht : ∀ S : Sig, @TabsOk S W tabs := fun S => tab_okEarlyProtos hL
  refine protos_walk a len cap z W hlen hz (fun w hk => ?_) (fun w hk => ?_)
  · letI : Sig := sigOf (symVal []) (symVal_ok (fun s hs => by cases hs))
    have htw := (ht _).keeps hk
    exact run_trueF progOk (orc_ok _ htw.b) htw (us := []) (args := []) (n := 3000) (by simp only [cvL]) aw0
  · refine just_all (picks_mem z _) ?_ ?_ (fun S => (ht S).keeps hk)
    · rw [picksP_len]; omega
    · have := bodyP_le z (min len 12); omega
end Go.Proofs.YtmlhldohlfghaaaGreatDoor
