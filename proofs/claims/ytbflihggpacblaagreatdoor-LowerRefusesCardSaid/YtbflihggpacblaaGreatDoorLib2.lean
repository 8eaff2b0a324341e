/- strings.Repeat and strings.IndexByte as answers that are known beforehand, and awake() by them. No condition. · Tables of closed calls as answers that are known beforehand (a token at a place, words, widths, texts), and with them awake(). No condition. -/
import Derived.Test.YtbflihggpacblaaGreatDoorTab
import Derived.Test.YtbflihggpacblaaGreatDoorEvIdx
import Derived.Test.YtbflihggpacblaaGreatDoorShelf
import Derived.Shelf.Strings.Repeat
import Derived.Shelf.Strings.Search1
namespace Go.Proofs.YtbflihggpacblaaGreatDoor
open Go Go.Ev Go.Shelf Go.RowKit
set_option linter.unusedSectionVars false

theorem extraB : Builder.Extra Tryz.prog Tryz.lays105_ren := {
  sizeBuilder := by kernel_rfl
  liesBuilder := by kernel_rfl
  t5 := Tryz.lays105.t5
  a5 := Tryz.lays105.a5
  z5 := Tryz.lays105.z5
  v5 := Tryz.lays105.v5
  infoByte := by kernel_rfl
  cellsByte := by kernel_rfl
  sizeByte := by kernel_rfl
  neB5 := by decide }
theorem fRep : Tryz.lays105_ren.f 105 = 355 := by kernel_rfl
theorem fIdx : Tryz.lays217_ren.f 217 = 294 := by kernel_rfl
theorem rep_calls (s : ByteArray) (c : Nat) (w : World) (h1 : s.size < 1000) (h2 : c < 1000) : Calls Tryz.prog 355 #[.string s, .int .i64 c] w fun e w' => e = .returned (.string ⟨(Lib.repeatL s.data.toList c).toArray⟩) ∧ Go.RowKit.Below w.heap.size w w' := by
  have h3 : s.size * c ≤ 1000 * 1000 := Nat.mul_le_mul (by omega) (by omega)
  have h := Any.strings_Repeat Tryz.lays105 extraB s c w (by omega) (by omega)
  rw [fRep] at h
  exact h
theorem idx_calls (s : ByteArray) (c : Int) (w : World) : Calls Tryz.prog 294 #[.string s, .int .u8 c] w fun e w' => e = .returned (.int .i64 (Lib.indexByte s.data.toList c.toNat.toUInt8)) ∧ w' = w := by
  have h := Any.stringslite_IndexByte Tryz.lays217 s c w
  rw [fIdx] at h
  exact h
variable [Sig]
noncomputable def anss1 : List (Nat × Ansr) := [(294, idxG), (355, repG)] ++ anss
theorem anss1_ok : AnssOk Tryz.prog tabs anss1 := by
  intro p hp
  rcases List.mem_cons.1 hp with rfl | hp
  · exact idxG_ok (by kernel_rfl) idx_calls
  rcases List.mem_cons.1 hp with rfl | hp
  · exact repG_ok (by kernel_rfl) rep_calls
  exact anss_ok p hp
noncomputable def orc1 : Orc := orcOf (trOf anss1)
theorem orc1_ok : ∀ w, TabsOk w tabs → OrcOk Tryz.prog w orc1 := orcOf_ok anss1_ok
end Go.Proofs.YtbflihggpacblaaGreatDoor
namespace Go.Proofs.YtbflihggpacblaaGreatDoor
open Go Go.Ev
set_option linter.unusedSectionVars false
noncomputable section
def lookT : List (List AV × AV) → List AV → Option AV
  | [], _ => none
  | e :: l, args => (match AV.beqL e.1 args with | true => some e.2 | false => lookT l args)
def tabG (T : List (List AV × AV)) : Ansr := fun args => match lookT T args with
  | some v => some (.val v)
  | none => none
end
variable [Sig]
mutual
/-- without addresses, however deep -/
def deepB : AV → Bool
  | .tuple vs => deepL vs
  | .agg vs => deepL vs
  | v => v.plainB
def deepL : List AV → Bool
  | [] => true
  | v :: vs => deepB v && deepL vs
end
mutual
theorem deep_cv (E E' : Env) : ∀ (v : AV), deepB v = true → cv E v = cv E' v
  | .tuple vs, h => by simp only [deepB] at h; simp only [cv, deepL_cv E E' vs h]
  | .agg vs, h => by simp only [deepB] at h; simp only [cv, deepC_cv E E' vs h]
  | .bool _, h | .int _ _, h | .str _ _, h | .nilptr, h | .nilslice, h | .nilmap, h | .nilfunc, h | .niliface, h => plain_cv (by rfl) E E'
  | .ptr _ _, h | .slice _ _ _ _ _, h | .map _, h | .func _ _ _, h | .yield _, h | .iface _ _, h => by simp [deepB, AV.plainB] at h
theorem deepL_cv (E E' : Env) : ∀ (l : List AV), deepL l = true → cvL E l = cvL E' l
  | [], _ => by simp [cvL]
  | v :: vs, h => by
    simp only [deepL, Bool.and_eq_true] at h
    simp only [cvL, deep_cv E E' v h.1, deepL_cv E E' vs h.2]
theorem deepC_cv (E E' : Env) : ∀ (l : List AV), deepL l = true → cvC E l = cvC E' l
  | [], _ => by simp [cvC]
  | v :: vs, h => by
    simp only [deepL, Bool.and_eq_true] at h
    simp only [cvC, deep_cv E E' v h.1, deepC_cv E E' vs h.2]
end
def isD (v : AV) (o : OR) : Bool := match o with
  | .val u _ => AV.beq u v && deepB u
  | _ => false
theorem ans_deep {P : Program} (hP : ProgOk P) {O : Orc} {l : List Tab} (hO : ∀ w, TabsOk w l → OrcOk P w O) {f : FuncId} {args : List AV} {N : Nat} {v : AV} (hb : (fnOf P f).isSome = true) (hpl : allPlain args = true)
    (hr : isD v ((fns P O N).call f args (hInit l)) = true) : AnsOk P l f args (.val v) := by
  refine ⟨hasBody_of hb, fun W0 ht E h w us S hu _ => ?_⟩
  have htw := ht.sim S
  cases hc : (fns P O N).call f args (hInit l) with
  | fail => rw [hc] at hr; cases hr
  | pan _ _ => rw [hc] at hr; cases hr
  | dfr _ _ => rw [hc] at hr; cases hr
  | val v' h' =>
    rw [hc] at hr
    simp only [isD, Bool.and_eq_true] at hr
    have := AV.beq_eq _ _ hr.1
    subst this
    obtain ⟨-, hcalls⟩ := run_sound hP (hO w htw) htw hc (by rw [allPlain_cvL hpl E00 E]; exact hu)
    refine hcalls.mono fun en w' he => ?_
    obtain ⟨E', u, rfl, hs, hv⟩ := he
    exact ⟨E, u, rfl, .refl _ _, S.grown hs.keeps, by rw [deep_cv E E' _ hr.2]; exact hv⟩
theorem lookT_mem : ∀ {T : List (List AV × AV)} {args : List AV} {v : AV}, lookT T args = some v → (args, v) ∈ T
  | [], _, _, h => by cases h
  | e :: l, args, v, h => by
    simp only [lookT] at h
    split at h
    · rename_i hb
      cases h
      have := AV.beqL_eq _ _ hb
      subst this
      exact .head _
    · exact .tail _ (lookT_mem h)
theorem tabG_ok {P : Program} (hP : ProgOk P) {O : Orc} {l : List Tab} (hO : ∀ w, TabsOk w l → OrcOk P w O) {F N : Nat} {T : List (List AV × AV)} (hb : (fnOf P F).isSome = true)
    (hall : (T.all fun e => allPlain e.1 && isD e.2 ((fnsF P O N).call F e.1 (hInit l))) = true) : ∀ args ans, tabG T args = some ans → AnsOk P l F args ans := by
  intro args ans h
  unfold tabG at h
  split at h
  · rename_i v hv
    cases h
    have h1 := List.all_eq_true.1 hall _ (lookT_mem hv)
    rw [Bool.and_eq_true] at h1
    have h2 := h1.2
    rw [fnsF_eq] at h2
    exact ans_deep hP hO hb h1.1 h2
  · cases h

def tb168 : List (List AV × AV) := [([.str 1 123], .int .i64 1), ([.str 1 125], .int .i64 1), ([.str 1 32], .int .i64 1), ([.str 1 41], .int .i64 1), ([.str 1 44], .int .i64 1), ([.str 1 49], .int .i64 1), ([.str 1 58], .int .i64 1), ([.str 1 59], .int .i64 1), ([.str 1 61], .int .i64 1), ([.str 1 97], .int .i64 1), ([.str 1 98], .int .i64 1), ([.str 1 99], .int .i64 1), ([.str 2 10272], .int .i64 2), ([.str 2 10536], .int .i64 2), ([.str 2 26217], .int .i64 2), ([.str 4 2015375151], .int .i64 4)]
theorem tb168_ok : (tb168.all fun e => allPlain e.1 && isD e.2 ((fnsF Tryz.prog orc1 3000).call 168 e.1 (hInit tabs))) = true := by kernel_rfl
def tb254 : List (List AV × AV) := [([.str 1 97, .bool false], .bool false), ([.str 1 98, .bool false], .bool false), ([.str 1 99, .bool false], .bool false)]
theorem tb254_ok : (tb254.all fun e => allPlain e.1 && isD e.2 ((fnsF Tryz.prog orc1 3000).call 254 e.1 (hInit tabs))) = true := by kernel_rfl
def tb257 : List (List AV × AV) := [([.str 31 72719445942331125114697810434525025190172354517124980332480923688329289825, .int .i64 0, .int .i64 2], .tuple [.agg [.int .i64 1, .str 1 97, .int .i64 0, .int .i64 1, .bool false], .nilslice, .int .i64 0, .int .i64 0]), ([.str 31 72719445942331125114697810434525025190172354517124980332480923688329289825, .int .i64 1, .int .i64 1], .tuple [.agg [.int .i64 5, .str 1 61, .int .i64 3, .int .i64 4, .bool false], .nilslice, .int .i64 0, .int .i64 0]), ([.str 31 72719445942331125114697810434525025190172354517124980332480923688329289825, .int .i64 10, .int .i64 1], .tuple [.agg [.int .i64 1, .str 1 99, .int .i64 10, .int .i64 11, .bool false], .nilslice, .int .i64 0, .int .i64 0]), ([.str 31 72719445942331125114697810434525025190172354517124980332480923688329289825, .int .i64 11, .int .i64 1], .tuple [.agg [.int .i64 5, .str 1 125, .int .i64 11, .int .i64 12, .bool false], .nilslice, .int .i64 0, .int .i64 0]), ([.str 31 72719445942331125114697810434525025190172354517124980332480923688329289825, .int .i64 12, .int .i64 1], .tuple [.agg [.int .i64 5, .str 1 59, .int .i64 13, .int .i64 14, .bool false], .nilslice, .int .i64 0, .int .i64 0]), ([.str 31 72719445942331125114697810434525025190172354517124980332480923688329289825, .int .i64 25, .int .i64 1], .tuple [.agg [.int .i64 5, .str 1 40, .int .i64 25, .int .i64 26, .bool false], .nilslice, .int .i64 0, .int .i64 0]), ([.str 31 72719445942331125114697810434525025190172354517124980332480923688329289825, .int .i64 26, .int .i64 2], .tuple [.agg [.int .i64 1, .str 1 97, .int .i64 26, .int .i64 27, .bool false], .nilslice, .int .i64 0, .int .i64 0]), ([.str 31 72719445942331125114697810434525025190172354517124980332480923688329289825, .int .i64 27, .int .i64 1], .tuple [.agg [.int .i64 5, .str 1 41, .int .i64 27, .int .i64 28, .bool false], .nilslice, .int .i64 0, .int .i64 0]), ([.str 31 72719445942331125114697810434525025190172354517124980332480923688329289825, .int .i64 28, .int .i64 2], .tuple [.agg [.int .i64 1, .str 1 98, .int .i64 28, .int .i64 29, .bool false], .nilslice, .int .i64 0, .int .i64 0]), ([.str 31 72719445942331125114697810434525025190172354517124980332480923688329289825, .int .i64 29, .int .i64 1], .tuple [.agg [.int .i64 5, .str 1 40, .int .i64 29, .int .i64 30, .bool false], .nilslice, .int .i64 0, .int .i64 0]), ([.str 31 72719445942331125114697810434525025190172354517124980332480923688329289825, .int .i64 30, .int .i64 2], .tuple [.agg [.int .i64 5, .str 1 41, .int .i64 30, .int .i64 31, .bool false], .nilslice, .int .i64 0, .int .i64 0]), ([.str 31 72719445942331125114697810434525025190172354517124980332480923688329289825, .int .i64 31, .int .i64 1], .tuple [.agg [.int .i64 0, .str 0 0, .int .i64 31, .int .i64 31, .bool false], .nilslice, .int .i64 0, .int .i64 0]), ([.str 31 72719445942331125114697810434525025190172354517124980332480923688329289825, .int .i64 4, .int .i64 2], .tuple [.agg [.int .i64 5, .str 1 123, .int .i64 5, .int .i64 6, .bool false], .nilslice, .int .i64 0, .int .i64 0]), ([.str 31 72719445942331125114697810434525025190172354517124980332480923688329289825, .int .i64 6, .int .i64 1], .tuple [.agg [.int .i64 1, .str 1 98, .int .i64 6, .int .i64 7, .bool false], .nilslice, .int .i64 0, .int .i64 0]), ([.str 31 72719445942331125114697810434525025190172354517124980332480923688329289825, .int .i64 7, .int .i64 1], .tuple [.agg [.int .i64 5, .str 1 58, .int .i64 7, .int .i64 8, .bool false], .nilslice, .int .i64 0, .int .i64 0]), ([.str 31 72719445942331125114697810434525025190172354517124980332480923688329289825, .int .i64 8, .int .i64 2], .tuple [.agg [.int .i64 3, .str 1 49, .int .i64 8, .int .i64 9, .bool false], .nilslice, .int .i64 0, .int .i64 0]), ([.str 31 72719445942331125114697810434525025190172354517124980332480923688329289825, .int .i64 9, .int .i64 1], .tuple [.agg [.int .i64 5, .str 1 44, .int .i64 9, .int .i64 10, .bool false], .nilslice, .int .i64 0, .int .i64 0])]
theorem tb257_ok : (tb257.all fun e => allPlain e.1 && isD e.2 ((fnsF Tryz.prog orc1 3000).call 257 e.1 (hInit tabs))) = true := by kernel_rfl
def tb348 : List (List AV × AV) := [([.str 1 123], .bool true), ([.str 1 125], .bool true), ([.str 1 32], .bool true), ([.str 1 41], .bool true), ([.str 1 44], .bool true), ([.str 1 49], .bool true), ([.str 1 58], .bool true), ([.str 1 59], .bool true), ([.str 1 61], .bool true), ([.str 1 97], .bool true), ([.str 1 98], .bool true), ([.str 1 99], .bool true), ([.str 2 10272], .bool true), ([.str 2 10536], .bool true), ([.str 2 26217], .bool true), ([.str 4 2015375151], .bool true)]
theorem tb348_ok : (tb348.all fun e => allPlain e.1 && isD e.2 ((fnsF Tryz.prog orc1 3000).call 348 e.1 (hInit tabs))) = true := by kernel_rfl
noncomputable def anss3 : List (Nat × Ansr) := [(168, tabG tb168), (254, tabG tb254), (257, tabG tb257), (348, tabG tb348)] ++ anss1
theorem anss3_ok : AnssOk Tryz.prog tabs anss3 := by
  intro p hp
  rcases List.mem_cons.1 hp with rfl | hp
  · exact tabG_ok progOk orc1_ok (by kernel_rfl) tb168_ok
  rcases List.mem_cons.1 hp with rfl | hp
  · exact tabG_ok progOk orc1_ok (by kernel_rfl) tb254_ok
  rcases List.mem_cons.1 hp with rfl | hp
  · exact tabG_ok progOk orc1_ok (by kernel_rfl) tb257_ok
  rcases List.mem_cons.1 hp with rfl | hp
  · exact tabG_ok progOk orc1_ok (by kernel_rfl) tb348_ok
  exact anss1_ok p hp
noncomputable def orc3 : Orc := orcOf (trOf anss3)
theorem orc3_ok : ∀ w, TabsOk w tabs → OrcOk Tryz.prog w orc3 := orcOf_ok anss3_ok
end Go.Proofs.YtbflihggpacblaaGreatDoor
