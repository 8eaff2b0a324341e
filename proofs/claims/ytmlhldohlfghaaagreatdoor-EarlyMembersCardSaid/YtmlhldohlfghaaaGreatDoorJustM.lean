/- What a closed run of the law's call over the text says of the program itself. -/
import Derived.Test.YtmlhldohlfghaaaGreatDoorOrcM
namespace Go.Proofs.YtmlhldohlfghaaaGreatDoor
open Go Go.Ev
set_option linter.unusedSectionVars false
theorem run_valT {P : Program} [Sig] {w : World} (hP : ProgOk P) {O : Orc} (hO : OrcOk P w O) {l : List Tab} (ht : TabsOk w l) {tx : Tx} (hT : TxOk tx) {f : FuncId} {args : List AV} {us : List Value} {n : Nat} {v : AV} {u : Value}
    (hr : isV v ((fns P O n).call f args (hInitT l tx [])) = true) (hu : cvL E00 args = some us) (hv : cv E00 v = some u) : Calls P f us.toArray w (fun e w' => e = .returned u ∧ Keeps w w') := by
  cases hc : (fns P O n).call f args (hInitT l tx []) with
  | val v' h' =>
    rw [hc] at hr
    simp only [isV, Bool.and_eq_true] at hr
    have := AV.beq_eq _ _ hr.1
    subst this
    have ho : Outs ((fns P O n).call f args (hInitT l tx [])) := by rw [hc]; trivial
    obtain ⟨-, h2⟩ := (fns_ok hP hO n).call E00 (hInitT l tx []) w f args us (start_simT ht (fun p hp => by cases hp) hT) hu ho
    rw [callsIn_wide] at h2
    refine h2.mono fun e w' he => ?_
    rw [hc] at he
    obtain ⟨E', u', rfl, -, hs, hv'⟩ := he
    rw [plain_cv hr.2 E' E00, hv] at hv'
    cases hv'
    exact ⟨rfl, hs.keeps⟩
  | fail => rw [hc] at hr; cases hr
  | pan _ _ => rw [hc] at hr; cases hr
  | dfr _ _ => rw [hc] at hr; cases hr
theorem v00b : ValOk (symVal []) := symVal_ok fun s h => by cases h
theorem isEnd_self (tx : Tx) (h : tx.tail.1 < 32768) : isEnd tx (endI tx) = true := by
  unfold isEnd
  rw [Bool.and_eq_true]
  refine ⟨Nat.ble_eq_true_of_le h, ?_⟩
  generalize endI tx = z
  cases z with
  | ofNat a => exact Nat.beq_refl a
  | negSucc a => exact Nat.beq_refl a
theorem pre_some [Sig] {z : Int} (hd : dec z = (Sig.txt.size : Int)) : ∃ u, cv E00 (.pre z) = some u := by
  simp only [cv]
  rw [hd, if_pos ⟨Int.natCast_nonneg _, Int.le_refl _⟩]
  exact ⟨_, rfl⟩
theorem cv_int [Sig] {n : Int} (hn : dec n = n) : cv E00 (.int .i64 n) = some (.int .i64 n) := by
  simp only [cv]
  exact congrArg (fun x => some (Value.int .i64 x)) hn
theorem cv_bool [Sig] (b : Bool) : cv E00 (.bool b) = some (.bool b) := by simp only [cv]
theorem args_z [Sig] {z : Int} {u : Value} (hu : cv E00 (.pre z) = some u) (fine : Bool) (n : Int) (hn : dec n = n) : cvL E00 [.pre z, .bool false, .bool fine, .int .i64 n] = some [u, .bool false, .bool fine, .int .i64 n] := by
  simp only [cvL]
  rw [hu, cv_bool, cv_bool, cv_int hn]
theorem pre_cv [Sig] {tx : Tx} (hT : TxOk tx) (hon : tx.on = true) (h : tx.tail.1 < 32768) : cv E00 (.pre (endI tx)) = some (.string Sig.txt) := by
  obtain ⟨u, hu⟩ := pre_some (end_val hT hon h)
  rw [← pre_val hT hon (isEnd_self tx h) hu]
  exact hu
theorem args_cv [Sig] {tx : Tx} (hT : TxOk tx) (hon : tx.on = true) (h : tx.tail.1 < 32768) (fine : Bool) (n : Int) (hn : dec n = n) : cvL E00 [.pre (endI tx), .bool false, .bool fine, .int .i64 n] = some [.string Sig.txt, .bool false, .bool fine, .int .i64 n] :=
  args_z (pre_cv hT hon h) fine n hn
theorem just_txt {fine : Bool} {KS : List Nat} (hr : runJ fine KS.length = true) (hm : KS.length ≤ 1000) (hk : ∀ k ∈ KS, k < 12) (hv : okM false KS = fine) (hn : (txM (repP mC KS.length)).its.length < 65536) (hf : ∀ i ks, (repP mC KS.length)[i]? = some ks → KS.getD i 0 ∈ ks)
    (hs : (txtOf (txM (repP mC KS.length)) (fun i => KS.getD i 0)).length < 500000) {w : World} (htS : ∀ S : Sig, @TabsOk S w tabs) :
    Calls Tryz.prog 6 #[.string ⟨(txtOf (txM (repP mC KS.length)) (fun i => KS.getD i 0)).toArray⟩, .bool false, .bool fine, .int .i64 1211] w fun e w' => e = .returned (.bool true) ∧ Keeps w w' := by
  letI S : Sig := sigT (txM (repP mC KS.length)) (fun i => KS.getD i 0) (symVal []) v00b
  have ht : TabsOk w tabs := htS S
  have hT : TxOk (txM (repP mC KS.length)) := sigT_ok _ _ _ v00b hn hf hs (fun h => absurd rfl h)
  unfold runJ at hr
  rw [fnsF_eq] at hr
  have hO : OrcOk Tryz.prog w (orcC fine KS.length) := orcC_ok S (KS := KS) rfl hm (fun j k h => by show KS.getD j 0 = k; rw [List.getD, h]; rfl) hk hv w ht.b
  exact run_valT progOk hO ht hT hr (args_cv hT rfl (by show 1 < 32768; omega) fine 1211 rfl) rfl
end Go.Proofs.YtmlhldohlfghaaaGreatDoor
