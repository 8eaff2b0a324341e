/- Patterns of what a class's members may be: fine ones with one constructor at most; or the first that may not be. Each row of items fits one. No condition. · The texts of the law CoverTexts, by their items, and what is known of calls beforehand; the closed runs asked for. No condition. -/
import Derived.Test.YtgpibpkplhlihaaGreatDoorTab
import Derived.Test.YtgpibpkplhlihaaGreatDoorTqC
import Derived.Test.YtgpibpkplhlihaaGreatDoorTqD
import Derived.Test.YtgpibpkplhlihaaGreatDoorTqB
namespace Go.Proofs.YtgpibpkplhlihaaGreatDoor
open Go Go.Ev
set_option linter.unusedVariables false
def repP (s : List Nat) : Nat → List (List Nat)
  | 0 => []
  | m + 1 => s :: repP s m
def mapC (s : List Nat) : List (List (List Nat)) → List (List (List Nat))
  | [] => []
  | q :: l => (s :: q) :: mapC s l
def upTo1 (pr ot : List Nat) : Nat → List (List (List Nat))
  | 0 => [[]]
  | m + 1 => (pr :: repP ot m) :: mapC ot (upTo1 pr ot m)
def from1 (pr ot al : List Nat) : Nat → List (List (List Nat))
  | 0 => []
  | m + 1 => (pr :: repP al m) :: mapC ot (from1 pr ot al m)
def from2 (pr ot al : List Nat) : Nat → List (List (List Nat))
  | 0 => []
  | m + 1 => mapC pr (from1 pr ot al m) ++ mapC ot (from2 pr ot al m)
def Fits : List (List Nat) → List Nat → Prop
  | [], [] => True
  | s :: q, k :: ks => k ∈ s ∧ Fits q ks
  | _, _ => False
theorem mapC_mem {s : List Nat} {q : List (List Nat)} : ∀ {l : List (List (List Nat))}, q ∈ l → (s :: q) ∈ mapC s l
  | x :: l, h => by
    rw [mapC]
    rcases List.mem_cons.1 h with rfl | h
    · exact List.mem_cons_self ..
    · exact List.mem_cons_of_mem _ (mapC_mem h)
theorem fits_rep {s : List Nat} : ∀ {ks : List Nat}, (∀ k ∈ ks, k ∈ s) → Fits (repP s ks.length) ks
  | [], _ => trivial
  | k :: ks, h => ⟨h k (List.mem_cons_self ..), fits_rep fun x hx => h x (List.mem_cons_of_mem _ hx)⟩
def cntP (p : Nat → Bool) : List Nat → Nat
  | [] => 0
  | k :: ks => (if p k then 1 else 0) + cntP p ks
variable {p : Nat → Bool} {pr ot al : List Nat}
theorem fits_0 (ho : ∀ k, k ∈ al → p k = false → k ∈ ot) : ∀ {ks : List Nat}, (∀ k ∈ ks, k ∈ al) → cntP p ks = 0 → Fits (repP ot ks.length) ks
  | [], _, _ => trivial
  | k :: ks, ha, h => by
    rw [cntP] at h
    cases hk : p k with
    | true => rw [hk] at h; simp at h
    | false => exact ⟨ho k (ha k (List.mem_cons_self ..)) hk, fits_0 ho (fun x hx => ha x (List.mem_cons_of_mem _ hx)) (by omega)⟩
theorem fits_up (hp : ∀ k, k ∈ al → p k = true → k ∈ pr) (ho : ∀ k, k ∈ al → p k = false → k ∈ ot) : ∀ {ks : List Nat}, (∀ k ∈ ks, k ∈ al) → cntP p ks ≤ 1 → ∃ q ∈ upTo1 pr ot ks.length, Fits q ks
  | [], _, _ => ⟨[], by simp [upTo1], trivial⟩
  | k :: ks, ha, h => by
    rw [cntP] at h
    have ha' : ∀ x ∈ ks, x ∈ al := fun x hx => ha x (List.mem_cons_of_mem _ hx)
    cases hk : p k with
    | true =>
      rw [hk] at h
      simp at h
      exact ⟨_, List.mem_cons_self .., hp k (ha k (List.mem_cons_self ..)) hk, fits_0 ho ha' (by omega)⟩
    | false =>
      rw [hk] at h
      simp at h
      obtain ⟨q, h1, h2⟩ := fits_up hp ho ha' h
      exact ⟨_, List.mem_cons_of_mem _ (mapC_mem h1), ho k (ha k (List.mem_cons_self ..)) hk, h2⟩
theorem fits_1 (hp : ∀ k, k ∈ al → p k = true → k ∈ pr) (ho : ∀ k, k ∈ al → p k = false → k ∈ ot) : ∀ {ks : List Nat}, (∀ k ∈ ks, k ∈ al) → 1 ≤ cntP p ks → ∃ q ∈ from1 pr ot al ks.length, Fits q ks
  | [], _, h => by simp [cntP] at h
  | k :: ks, ha, h => by
    rw [cntP] at h
    have ha' : ∀ x ∈ ks, x ∈ al := fun x hx => ha x (List.mem_cons_of_mem _ hx)
    cases hk : p k with
    | true => exact ⟨_, List.mem_cons_self .., hp k (ha k (List.mem_cons_self ..)) hk, fits_rep ha'⟩
    | false =>
      rw [hk] at h
      simp at h
      obtain ⟨q, h1, h2⟩ := fits_1 hp ho ha' h
      exact ⟨_, List.mem_cons_of_mem _ (mapC_mem h1), ho k (ha k (List.mem_cons_self ..)) hk, h2⟩
theorem fits_2 (hp : ∀ k, k ∈ al → p k = true → k ∈ pr) (ho : ∀ k, k ∈ al → p k = false → k ∈ ot) : ∀ {ks : List Nat}, (∀ k ∈ ks, k ∈ al) → 2 ≤ cntP p ks → ∃ q ∈ from2 pr ot al ks.length, Fits q ks
  | [], _, h => by simp [cntP] at h
  | k :: ks, ha, h => by
    rw [cntP] at h
    have ha' : ∀ x ∈ ks, x ∈ al := fun x hx => ha x (List.mem_cons_of_mem _ hx)
    cases hk : p k with
    | true =>
      rw [hk] at h
      simp at h
      obtain ⟨q, h1, h2⟩ := fits_1 hp ho ha' (by omega)
      exact ⟨_, List.mem_append_left _ (mapC_mem h1), hp k (ha k (List.mem_cons_self ..)) hk, h2⟩
    | false =>
      rw [hk] at h
      simp at h
      obtain ⟨q, h1, h2⟩ := fits_2 hp ho ha' h
      exact ⟨_, List.mem_append_right _ (mapC_mem h1), ho k (ha k (List.mem_cons_self ..)) hk, h2⟩
theorem fits_get : ∀ {q : List (List Nat)} {ks : List Nat}, Fits q ks → ∀ (i : Nat) (s : List Nat), q[i]? = some s → ks.getD i 0 ∈ s
  | [], [], _, i, s, h => by simp at h
  | s :: q, k :: ks, ⟨h1, h2⟩, 0, s', h => by simp at h; subst h; exact h1
  | s :: q, k :: ks, ⟨h1, h2⟩, i + 1, s', h => by
    rw [List.getElem?_cons_succ] at h
    have := fits_get h2 i s' h
    simpa using this
  | [], _ :: _, h, _, _, _ => h.elim
  | _ :: _, [], h, _, _, _ => h.elim
abbrev mA : List Nat := [0, 1]
abbrev mB : List Nat := [5, 8, 9, 10, 11]
abbrev mC : List Nat := [0, 1, 2, 3, 4, 5, 6, 7, 8, 9, 10, 11]
def bad1 : Nat → List (List (List Nat))
  | 0 => []
  | m + 1 => ([0, 1, 2, 3, 4, 6, 7] :: repP mC m) :: mapC mB (bad1 m)
def bad0 : Nat → List (List (List Nat))
  | 0 => []
  | m + 1 => ([2, 3, 4, 6, 7] :: repP mC m) :: (mapC mA (bad1 m) ++ mapC mB (bad0 m))
def okM : Bool → List Nat → Bool
  | _, [] => true
  | one, k :: ks => if k < 2 then !one && okM true ks else !(decide (k = 2) || decide (k = 3) || decide (k = 4) || decide (k = 6) || decide (k = 7)) && okM one ks
theorem kinds12 {k : Nat} (h : k < 12) : k = 0 ∨ k = 1 ∨ k = 2 ∨ k = 3 ∨ k = 4 ∨ k = 5 ∨ k = 6 ∨ k = 7 ∨ k = 8 ∨ k = 9 ∨ k = 10 ∨ k = 11 := by omega
theorem fits_al : ∀ {ks : List Nat}, (∀ k ∈ ks, k < 12) → Fits (repP mC ks.length) ks := fun h => fits_rep fun k hk => by
  rcases kinds12 (h k hk) with rfl | rfl | rfl | rfl | rfl | rfl | rfl | rfl | rfl | rfl | rfl | rfl <;> decide
theorem fits_ok1 : ∀ {ks : List Nat}, (∀ k ∈ ks, k < 12) → okM true ks = true → Fits (repP mB ks.length) ks
  | [], _, _ => trivial
  | k :: ks, ha, h => by
    have ha' : ∀ x ∈ ks, x < 12 := fun x hx => ha x (List.mem_cons_of_mem _ hx)
    rcases kinds12 (ha k (List.mem_cons_self ..)) with rfl | rfl | rfl | rfl | rfl | rfl | rfl | rfl | rfl | rfl | rfl | rfl <;> simp [okM] at h
    all_goals exact ⟨by decide, fits_ok1 ha' h⟩
theorem fits_ok0 : ∀ {ks : List Nat}, (∀ k ∈ ks, k < 12) → okM false ks = true → ∃ q ∈ upTo1 mA mB ks.length, Fits q ks
  | [], _, _ => ⟨[], by simp [upTo1], trivial⟩
  | k :: ks, ha, h => by
    have ha' : ∀ x ∈ ks, x < 12 := fun x hx => ha x (List.mem_cons_of_mem _ hx)
    have hA : k ∈ mA → okM true ks = true → ∃ q ∈ upTo1 mA mB (k :: ks).length, Fits q (k :: ks) := fun h1 h2 => ⟨_, List.mem_cons_self .., h1, fits_ok1 ha' h2⟩
    have hB : k ∈ mB → okM false ks = true → ∃ q ∈ upTo1 mA mB (k :: ks).length, Fits q (k :: ks) := fun h1 h2 => by
      obtain ⟨q, h3, h4⟩ := fits_ok0 ha' h2
      exact ⟨_, List.mem_cons_of_mem _ (mapC_mem h3), h1, h4⟩
    rcases kinds12 (ha k (List.mem_cons_self ..)) with rfl | rfl | rfl | rfl | rfl | rfl | rfl | rfl | rfl | rfl | rfl | rfl <;> simp [okM] at h
    all_goals first | exact hA (by decide) h | exact hB (by decide) h
theorem fits_bad1 : ∀ {ks : List Nat}, (∀ k ∈ ks, k < 12) → okM true ks = false → ∃ q ∈ bad1 ks.length, Fits q ks
  | [], _, h => by simp [okM] at h
  | k :: ks, ha, h => by
    have ha' : ∀ x ∈ ks, x < 12 := fun x hx => ha x (List.mem_cons_of_mem _ hx)
    have hR := fits_al ha'
    have hB : k ∈ mB → okM true ks = false → ∃ q ∈ bad1 (k :: ks).length, Fits q (k :: ks) := fun h1 h2 => by
      obtain ⟨q, h3, h4⟩ := fits_bad1 ha' h2
      exact ⟨_, .tail _ (mapC_mem h3), h1, h4⟩
    have h0 : k ∈ [0, 1, 2, 3, 4, 6, 7] → ∃ q ∈ bad1 (k :: ks).length, Fits q (k :: ks) := fun h1 => ⟨_, .head _, h1, hR⟩
    rcases kinds12 (ha k (List.mem_cons_self ..)) with rfl | rfl | rfl | rfl | rfl | rfl | rfl | rfl | rfl | rfl | rfl | rfl <;> simp [okM] at h
    all_goals first | exact h0 (by decide) | exact hB (by decide) h
theorem fits_bad0 : ∀ {ks : List Nat}, (∀ k ∈ ks, k < 12) → okM false ks = false → ∃ q ∈ bad0 ks.length, Fits q ks
  | [], _, h => by simp [okM] at h
  | k :: ks, ha, h => by
    have ha' : ∀ x ∈ ks, x < 12 := fun x hx => ha x (List.mem_cons_of_mem _ hx)
    have hR := fits_al ha'
    have hA : k ∈ mA → okM true ks = false → ∃ q ∈ bad0 (k :: ks).length, Fits q (k :: ks) := fun h1 h2 => by
      obtain ⟨q, h3, h4⟩ := fits_bad1 ha' h2
      exact ⟨_, .tail _ (List.mem_append_left _ (mapC_mem h3)), h1, h4⟩
    have hB : k ∈ mB → okM false ks = false → ∃ q ∈ bad0 (k :: ks).length, Fits q (k :: ks) := fun h1 h2 => by
      obtain ⟨q, h3, h4⟩ := fits_bad0 ha' h2
      exact ⟨_, .tail _ (List.mem_append_right _ (mapC_mem h3)), h1, h4⟩
    have h0 : k ∈ [2, 3, 4, 6, 7] → ∃ q ∈ bad0 (k :: ks).length, Fits q (k :: ks) := fun h1 => ⟨_, .head _, h1, hR⟩
    rcases kinds12 (ha k (List.mem_cons_self ..)) with rfl | rfl | rfl | rfl | rfl | rfl | rfl | rfl | rfl | rfl | rfl | rfl <;> simp [okM] at h
    all_goals first | exact h0 (by decide) | exact hA (by decide) h | exact hB (by decide) h
end Go.Proofs.YtgpibpkplhlihaaGreatDoor
namespace Go.Proofs.YtgpibpkplhlihaaGreatDoor
open Go Go.Ev
set_option linter.unusedSectionVars false
def kindsC : List (Nat × Nat) := [(1, 97), (0, 0), (3, 6499938), (3, 2712616), (3, 6120795), (3, 8218235), (5, 210994274407), (13, 9919033539061703353721366931579), (1, 49), (3, 2697322), (5, 177660975912), (4, 1818326629)]
noncomputable def polC : Tr (List (Nat × List Nat)) := (Tr.put (Tr.put (Tr.put (Tr.put (Tr.put (Tr.put (Tr.put (Tr.put .nil 43 [(0, [])]) 44 [(1, [])]) 40 [(0, [])]) 59 [(0, [])]) 86 [(1, [])]) 72 [(0, [])]) 26 [(0, [])]) 247 [(1, [])])
def itsOf (k : List (Nat × Nat)) : List (List Nat) → List (List (Nat × Nat))
  | [] => []
  | _ :: l => k :: itsOf k l
noncomputable def txC (ks : List (List Nat)) : Tx := { on := true, head := (1, 91), its := itsOf kindsC ks, sep := (1, 44), tail := (1, 93), ks := ks, pol := polC, lp := [(3, 0, [0, 1], [0, 1])] }
noncomputable def txD (ks : List (List Nat)) (ps : List (List (List Nat))) : Tx := { on := true, head := (1, 91), its := itsOf kindsC ks, sep := (1, 44), tail := (5, 524526887005), ks := ks, pol := polC, lp := [(3, 0, [0, 1], [0, 1])], pats := ps, pf := 91, po := [12], pk := 1 }
abbrev cP : List Nat := [8, 9, 10, 11]
abbrev cO : List Nat := [0, 1, 2, 3, 4, 5, 6, 7]
abbrev cA : List Nat := [0, 1, 2, 3, 4, 5, 6, 7, 8, 9, 10, 11]
noncomputable def orcCC : Orc := orcOf3 (trOf anssI) (trT [(43, hpT)]) (trM [(44, tmG jPlace lexTqC), (246, tmG jLast itemTqC), (72, tmG jLast belowTqC), (26, tmG jLast copiedTqC), (41, tmG jLast isTqC), (36, leftM), (37, depthM), (40, tokM 5), (59, tokM 1), (22, peekM)])
noncomputable def orcCD : Orc := orcOf3 (trOf anssI) (trT [(43, hpT)]) (trM [(44, tmG jPlace lexTqD), (246, tmG jLast itemTqD), (72, tmG jLast belowTqD), (26, tmG jLast copiedTqD), (41, tmG jLast isTqD), (36, leftM), (37, depthM), (40, tokM 5), (59, tokM 1), (22, peekM)])
def isNode : AV → Bool
  | .agg [.int .i64 _, .str _ _, .slice _ _ _ _ _, .int .i64 _, .int .i64 _] => true
  | .agg [.int .i64 _, .str _ _, .nilslice, .int .i64 _, .int .i64 _] => true
  | _ => false
def isAns (n : Nat) : OR → Bool
  | .val (.tuple [x, p, .int .i64 (.ofNat e)]) _ => isNode x && (isPl p && Nat.beq e n)
  | _ => false
where isPl : AV → Bool
  | .int .i64 _ => true
  | .rng _ _ _ => true
  | _ => false
noncomputable def patOk (q : List (List Nat)) (n : Nat) (x : AV) (h : H) : Bool := h.tx.on && isAns n ((fnsF Tryz.prog orcCC 3000).call 8 [x] ⟨h.next, h.t, h.asm, [], patTx h.tx q⟩)
def allOk (f : List (List Nat) → Bool) : List (List (List Nat)) → Bool
  | [] => true
  | q :: l => (match f q with | true => allOk f l | false => false)
noncomputable def chkC (m : Nat) : OR → Bool
  | .val (.tuple [x, .int .i64 (.ofNat 0), .int .i64 (.ofNat 0)]) h => isNode x && (patOk (repP cO m) 0 x h && allOk (fun q => patOk q 900 x h) (from1 cP cO cA m))
  | _ => false
noncomputable def runC (m : Nat) : Bool := chkC m ((fnsF Tryz.prog orcCC 3000).call 7 [.pre (endI (txC (repP cA m))), .bool false] (hInitT tabs (txC (repP cA m)) []))
noncomputable def runD (m : Nat) : Bool := isAns 0 ((fnsF Tryz.prog orcCD 3000).call 7 [.pre (endI (txD (repP cO m) [])), .bool false] (hInitT tabs (txD (repP cO m) []) []))
noncomputable def runE (m : Nat) : Bool := isAns 1003 ((fnsF Tryz.prog orcCD 3000).call 7 [.pre (endI (txD (repP cA m) (from1 cP cO cA m))), .bool false] (hInitT tabs (txD (repP cA m) (from1 cP cO cA m)) []))
end Go.Proofs.YtgpibpkplhlihaaGreatDoor
