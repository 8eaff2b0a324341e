/- The table of blanks as it lies in memory, the answers that are known beforehand (words of a text, kinds of signs, the beginning of a text), and what the evaluator asks of the program. No condition beyond the row's own. -/
import Derived.Test.YtgpibpkplhlihaaGreatDoorRows
import Derived.Test.YtgpibpkplhlihaaGreatDoorEvTmG
import Derived.Test.YtgpibpkplhlihaaGreatDoorAs
import Derived.WalkKit
import Derived.Lib.Walk
import Derived.Lib.Slices
namespace Go.Proofs.YtgpibpkplhlihaaGreatDoor
open Go Go.Ev
set_option linter.unusedSectionVars false

set_option maxHeartbeats 1000000 in
theorem hp_inner (s p : ByteArray) (w : World) : Calls Tryz.prog 65 #[.string s, .string p] w fun e w' => e = .returned (.bool (Lib.hasPrefix s.data.toList p.data.toList)) ∧ w' = w := by
  rw [← Lib.hasPrefix_of_take, ← Lib.size_eq, ← Lib.size_eq]
  go_enter Tryz.func65, Tryz.ntmps65
  go_wp2
  · rename_i h
    go_ret
    refine ⟨?_, rfl⟩
    show Ending.returned (Value.bool ((s.extract 0 p.size).toList == p.toList)) = _
    rw [Lib.extract_toList, Lib.toList_data]
    simp [h]
  · rename_i h
    go_ret
    refine ⟨?_, rfl⟩
    show Ending.returned (Value.bool false) = _
    simp [h]
theorem hp_calls (s p : ByteArray) (w : World) : Calls Tryz.prog 43 #[.string s, .string p] w fun e w' => e = .returned (.bool (Lib.hasPrefix s.data.toList p.data.toList)) ∧ w' = w := by
  go_enter Tryz.func43, Tryz.ntmps43
  go_wp2_with (go_at_call 65; refine (hp_inner _ _ _).mono ?_; rintro e w' ⟨rfl, rfl⟩)
  go_ret
  exact ⟨rfl, rfl⟩
variable [Sig]

set_option maxRecDepth 100000 in
def ks : List Int := [0, 0, 0, 0, 0, 0, 0, 0, 0, 1, 1, 1, 1, 1, 0, 0, 0, 0, 0, 0, 0, 0, 0, 0, 0, 0, 0, 0, 0, 0, 0, 0, 1, 0, 0, 0, 0, 0, 0, 0, 0, 0, 0, 0, 0, 0, 0, 0, 0, 0, 0, 0, 0, 0, 0, 0, 0, 0, 0, 0, 0, 0, 0, 0, 0, 0, 0, 0, 0, 0, 0, 0, 0, 0, 0, 0, 0, 0, 0, 0, 0, 0, 0, 0, 0, 0, 0, 0, 0, 0, 0, 0, 0, 0, 0, 0, 0, 0, 0, 0, 0, 0, 0, 0, 0, 0, 0, 0, 0, 0, 0, 0, 0, 0, 0, 0, 0, 0, 0, 0, 0, 0, 0, 0, 0, 0, 0, 0, 0, 0, 0, 0, 0, 0, 0, 0, 0, 0, 0, 0, 0, 0, 0, 0, 0, 0, 0, 0, 0, 0, 0, 0, 0, 0, 0, 0, 0, 0, 0, 0, 0, 0, 0, 0, 0, 0, 0, 0, 0, 0, 0, 0, 0, 0, 0, 0, 0, 0, 0, 0, 0, 0, 0, 0, 0, 0, 0, 0, 0, 0, 0, 0, 0, 0, 0, 0, 0, 0, 0, 0, 0, 0, 0, 0, 0, 0, 0, 0, 0, 0, 0, 0, 0, 0, 0, 0, 0, 0, 0, 0, 0, 0, 0, 0, 0, 0, 0, 0, 0, 0, 0, 0, 0, 0, 0, 0, 0, 0, 0, 0, 0, 0, 0, 0, 0, 0, 0, 0, 0, 0, 0, 0, 0, 0, 0, 0]
set_option maxRecDepth 100000 in
theorem ks_eq : (Rows.laid_strings_asciiSpace : DataW Unit) = .agg (ks.map fun m => .lit (.int .u8 m)) := by kernel_rfl
def tab : Tab := { g := 1, cs := ks.map fun m => .int .u8 m }
def htab : Tab := { g := 0, cs := [], raw := some (.iface 124 (.agg #[.pointer (some ⟨7, 53, none⟩)])) }
abbrev tabs : List Tab := [tab, htab]
theorem htab_ok {W : World} (h : handlesMet Tryz.prog [("errors.errorType", Rows.laid_errors_errorType)] W) : TabOk W htab := by
  obtain ⟨name, u, ty, e1, e2, e3, e4, e5⟩ := h _ (List.mem_singleton.2 rfl)
  have en : name = [101, 114, 114, 111, 114] := (Option.some.inj e1).symm
  subst en
  obtain rfl := Option.some.inj ((show (Tryz.prog.cutTypes.find? (·.1 == "internal/reflectlite.rtype")).map (·.2) = some 124 by kernel_rfl).symm.trans e2)
  have hm : ty ∈ (List.range 298).filter fun t => Tryz.prog.rowNamed t [101, 114, 114, 111, 114] := List.mem_filter.2 ⟨List.mem_range.2 (by rw [← (show Tryz.prog.types.size = 298 by kernel_rfl)]; exact e3), e4⟩
  rw [show ((List.range 298).filter fun t => Tryz.prog.rowNamed t [101, 114, 114, 111, 114]) = [53] by kernel_rfl] at hm
  obtain rfl := List.mem_singleton.1 hm
  rw [show typeHandle Tryz.prog 53 = .pointer (some ⟨7, 53, none⟩) by kernel_rfl] at e5
  exact htab_of_var (show Tryz.prog.globalNamed "errors.errorType" = some 0 by kernel_rfl) (by decide) e5
theorem as_ok : ∀ args ans, asG 58 60 args = some ans → AnsOk Tryz.prog tabs 25 args ans := by
  refine asG_ok (g := 0) (by kernel_rfl) ⟨htab, .tail _ (.head _), rfl, rfl⟩ (fun z t old w hg ht hf => (as_hit z t old w hg ht hf).mono ?_)
  rintro ev w' ⟨rfl, rfl⟩
  exact ⟨rfl, _, ((((Keeps.alloc _ _).trans (Keeps.alloc _ _)).trans (Keeps.alloc _ _)).trans (Keeps.alloc _ _)), rfl⟩


theorem progOk : ProgOk Tryz.prog := by
  refine ⟨?_, by kernel_rfl⟩
  have h : (Tryz.prog.funcs.toList.all fun fn => !(fn.body.isSome && (fn.name == "runtime.NumGoroutine"))) = true := by kernel_rfl
  intro f fn hf hb
  have := List.all_eq_true.1 h fn (List.mem_of_getElem? (by simpa using hf))
  simpa [hb] using this

def words0 : List AV := [.str 4 1027489342, .str 3 3026478, .str 3 4013373, .str 3 4013345, .str 3 4008490, .str 3 4013116, .str 3 4013630, .str 3 4079166, .str 3 4007462, .str 3 4029564, .str 3 4013887, .str 2 15676, .str 2 15678, .str 2 15677, .str 2 15649, .str 2 10794, .str 2 11051, .str 2 11565, .str 2 15420, .str 2 15934, .str 2 9766, .str 2 31868, .str 2 16191, .str 2 11839, .str 2 15659, .str 2 15661, .str 2 15658, .str 2 15653, .str 2 15654, .str 2 15740, .str 2 15710, .str 2 15933, .str 1 123, .str 1 125, .str 1 40, .str 1 41, .str 1 91, .str 1 93, .str 1 46, .str 1 59, .str 1 44, .str 1 60, .str 1 62, .str 1 43, .str 1 45, .str 1 42, .str 1 37, .str 1 38, .str 1 124, .str 1 94, .str 1 33, .str 1 126, .str 1 63, .str 1 58, .str 1 61]
def words1 : List AV := [.str 1 61, .str 2 15659, .str 2 15661, .str 2 15658, .str 2 15663, .str 2 15653, .str 3 4008490, .str 3 4013116, .str 3 4013630, .str 4 1027489342, .str 2 15654, .str 2 15740, .str 2 15710, .str 3 4007462, .str 3 4029564, .str 3 4013887]
def words2 : List AV := [.str 1 41, .str 1 93, .str 1 125, .str 1 44, .str 1 59, .str 1 58]
def fieldsL : List (Nat × Nat × List AV × Nat) := [(153, 68976301073286139670884947904259644413451383976920394156177472398812003585881917756793480574654228983281323100452884875687550498752482894892006273708944830317505625590989554612949181847272280396482346929183118924564279739930685605866481456277420326540955049339516677063550025067325640278457838931219405568155233088579140098522815447120208924986620969287206030716845630, words0, 55), (54, 2653404042651787359143253744080214768115268567076127594125152396327334126177718161903097665253221655434770202186198874353079885885, words1, 16), (11, 70269903941264299618279465, words2, 6)]
theorem fields_ok : (fieldsL.all fun e => isRow e.2.2.1 9 e.2.2.2 ((fnsF Tryz.prog noOrc 300).call 84 [.str e.1 e.2.1] (hInit tabs))) = true := by kernel_rfl
theorem uniStart : allN (fun n => isV (.bool (bitN 10633823849912963253511222563025453056 n)) ((fnsF Tryz.prog noOrc 300).call 148 [.int .i64 (.ofNat n)] (hInit tabs))) 128 = true := by kernel_rfl
theorem uniPart : allN (fun n => isV (.bool (bitN 10633823849912963253799171464200454144 n)) ((fnsF Tryz.prog noOrc 300).call 149 [.int .i64 (.ofNat n)] (hInit tabs))) 128 = true := by kernel_rfl
theorem uniEnds : allN (fun n => isV (.bool (bitN 9216 n)) ((fnsF Tryz.prog noOrc 300).call 96 [.int .i64 (.ofNat n)] (hInit tabs))) 128 = true := by kernel_rfl
theorem uniBlank : allN (fun n => isV (.bool (bitN 4294973952 n)) ((fnsF Tryz.prog noOrc 300).call 97 [.int .i64 (.ofNat n)] (hInit tabs))) 128 = true := by kernel_rfl
noncomputable def anss : List (Nat × Ansr) := [(25, asG 58 60), (84, rowsG 9 fieldsL), (43, preG), (148, bitG 10633823849912963253511222563025453056), (149, bitG 10633823849912963253799171464200454144), (96, bitG 9216), (97, bitG 4294973952)]
theorem anss_ok : AnssOk Tryz.prog tabs anss := by
  intro p hp
  simp only [anss, List.mem_cons, List.not_mem_nil, or_false] at hp
  rcases hp with rfl | rfl | rfl | rfl | rfl | rfl | rfl
  · exact as_ok
  · exact rowsG_ok progOk (fun _ _ => noOrc_ok) (by kernel_rfl) fields_ok
  · exact preG_ok (by kernel_rfl) hp_calls
  · exact bitG_ok progOk (fun _ _ => noOrc_ok) (by kernel_rfl) uniStart
  · exact bitG_ok progOk (fun _ _ => noOrc_ok) (by kernel_rfl) uniPart
  · exact bitG_ok progOk (fun _ _ => noOrc_ok) (by kernel_rfl) uniEnds
  · exact bitG_ok progOk (fun _ _ => noOrc_ok) (by kernel_rfl) uniBlank
noncomputable def orc : Orc := orcOf (trOf anss)
theorem orc_ok : ∀ W : Wb, TabsB W tabs → OrcOk Tryz.prog W orc := orcOf_ok anss_ok


end Go.Proofs.YtgpibpkplhlihaaGreatDoor
