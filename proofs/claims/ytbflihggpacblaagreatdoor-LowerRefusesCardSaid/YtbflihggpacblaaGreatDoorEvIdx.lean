/- errors.As at a struct of one int, as an answer that stores. · strings.IndexByte and strings.Repeat as answers. -/
import Derived.Test.YtbflihggpacblaaGreatDoorEvAns
import Derived.Lib.Bytealg
import Derived.Lib.Repeat
import Derived.Below
set_option linter.unusedVariables false
set_option linter.unusedSimpArgs false
namespace Go.Ev
set_option linter.unusedSectionVars false

noncomputable section
/-- errors.As(e, &t): 't' is set to what 'e' holds; true -/
def asG (e p : Nat) : Ansr := fun args => match args with
  | [.iface u (.agg [.int .i64 z]), .iface q (.ptr b off)] => (match Nat.beq u e && Nat.beq q p && !symB z with | true => some (.set 1 b off (.agg [.int .i64 z]) (.bool true)) | false => none)
  | _ => none
end
theorem asG_form {e p : Nat} {args : List AV} {ans : Ans} (h : asG e p args = some ans) : ∃ z b off, args = [.iface e (.agg [.int .i64 z]), .iface p (.ptr b off)] ∧ symB z = false ∧ ans = .set 1 b off (.agg [.int .i64 z]) (.bool true) := by
  unfold asG at h
  split at h
  · rename_i u z q b off
    split at h
    · rename_i hc
      cases h
      simp only [Bool.and_eq_true, Bool.not_eq_true'] at hc
      obtain ⟨⟨h1, h2⟩, h3⟩ := hc
      have := Nat.eq_of_beq_eq_true h1; subst this
      have := Nat.eq_of_beq_eq_true h2; subst this
      exact ⟨z, b, off, rfl, h3, rfl⟩
    · cases h
  · cases h

theorem store_one (P : Program) (w : World) (t : Addr) (k : IntKind) (z : Int) (old : Value) (ht : w.cell? t = some old) (hf : w.frozen? t = false) : (storeCells t [.int k z]).run P w = .ok () (w.setCell t (.int k z)) := by
  simp only [storeCells, Addr.add]
  rw [Sem.run_bind, run_store P w _ _ _ (by rfl)]
  simp [ht, hf]

theorem asG_ok [Sig] {P : Program} {l : List Tab} {F e p g : Nat} {hv : Value} (hb : (fnOf P F).isSome = true) (hl : ∃ t ∈ l, t.g = g ∧ t.raw = some hv)
    (H : ∀ (z : Int) (t : Addr) (old : Value) (w : World), w.cell? ⟨g, 0, none⟩ = some hv → w.cell? t = some old → w.frozen? t = false →
      Calls P F #[.iface e (.agg #[.int .i64 z]), .iface p (.pointer (some t))] w fun ev w' => ev = .returned (.bool true) ∧ ∃ w4, Keeps w w4 ∧ w' = w4.setCell t (.int .i64 z)) :
    ∀ args ans, asG e p args = some ans → AnsOk P l F args ans := by
  intro args ans h
  obtain ⟨z, b, off, rfl, hz, rfl⟩ := asG_form h
  refine ⟨hasBody_of hb, fun W0 ht E h w us S hu ho => ?_⟩
  have htw := ht.sim S
  obtain ⟨tb, htb, hg, hraw⟩ := hl
  obtain ⟨-, C0, el0, fz0, hC0, -, -, hr0⟩ := htw tb htb
  have hcg : w.cell? ⟨g, 0, none⟩ = some hv := by
    rw [hg] at hC0
    rw [cell_of hC0]
    exact hr0 hv hraw
  have hdz : dec z = z := dec_of hz
  simp only [ansRun] at ho ⊢
  split at ho
  · rename_i h' hst
    try simp only [hst]
    have hst0 := hst
    unfold storeAt at hst
    split at hst
    · rename_i cs el tl hgb
      simp only [AV.cells?] at hst
      split at hst
      · split at hst
        · rename_i lw hlw
          cases hst
          simp only [cvL, cv, cvC, AV.one, hdz] at hu
          split at hu
          · rename_i u1 l1 h1 h2
            cases hu
            cases h1
            split at h2
            · rename_i u2 l2 h3 h4
              cases h2
              cases h4
              split at h3
              · rename_i u3 h5
                cases h3
                split at h5
                · rename_i loc hloc
                  cases h5
                  obtain ⟨C, fz, hC, hfz, hsz, hcells, htl⟩ := S.cellsW hloc hgb
                  have hfz' := hfz rfl
                  subst hfz'
                  obtain ⟨hle, -⟩ := writeL_some off _ cs lw hlw
                  simp only [List.length_cons, List.length_nil] at hle
                  have hin : ∃ x, cs[off]? = some x := ⟨_, List.getElem?_eq_getElem (by omega)⟩
                  obtain ⟨x, hx⟩ := hin
                  obtain ⟨-, old, -, hold⟩ := hcells off x hx
                  have hct : w.cell? ⟨loc.rb, loc.ro + off, none⟩ = some old := by rw [cell_of hC]; exact hold
                  have hft : w.frozen? ⟨loc.rb, loc.ro + off, none⟩ = false := by simp [World.frozen?, hC]
                  have hlt : loc.rb < w.heap.size := by
                    rcases Nat.lt_or_ge loc.rb w.heap.size with h9 | h9
                    · exact h9
                    · rw [Array.getElem?_eq_none h9] at hC; cases hC
                  have hcall := H z ⟨loc.rb, loc.ro + off, none⟩ old w hcg hct hft
                  rw [← callsIn_wide] at hcall
                  refine hcall.mono fun ev w' he => ?_
                  obtain ⟨rfl, w4, hk, rfl⟩ := he
                  have S4 := S.grown hk
                  have hbk := hk.block _ hlt
                  have hct4 : w4.cell? ⟨loc.rb, loc.ro + off, none⟩ = some old := by
                    have hC4 : w4.heap[loc.rb]? = _ := hbk.trans hC
                    rw [cell_of hC4]; exact hold
                  have hft4 : w4.frozen? ⟨loc.rb, loc.ro + off, none⟩ = false := by
                    have hC4 : w4.heap[loc.rb]? = _ := hbk.trans hC
                    simp [World.frozen?, hC4]
                  obtain ⟨w5, hrun, hsim⟩ := writeCells_sound (P := P) S4 (us := [.int .i64 z]) hloc hgb (by simp only [cvC, AV.one, cv, hdz]) hlw
                  rw [store_one P w4 _ _ _ old hct4 hft4] at hrun
                  cases hrun
                  exact ⟨E, _, rfl, .put hloc, hsim, by simp only [cv]⟩
                · cases h5
              · cases h3
            · cases h2
          · cases hu
        · cases hst
      · cases hst
    · cases hst
  · exact ho.elim
theorem Keeps.alloc (w : World) (o : Obj) : Keeps w (w.alloc o) := by
  refine ⟨rfl, rfl, by simp, fun k hk => ?_⟩
  simp only [World.alloc]
  rw [Array.getElem?_push, if_neg (by omega)]
theorem htab_of_var [Sig] {P : Program} {W : World} {name : String} {g : Nat} {v : Value} (hg : P.globalNamed name = some g) (hg64 : g < 64) (hv : W.var? P name = some #[v]) : TabOk W { g := g, cs := [], raw := some v } := by
  simp only [World.var?, hg, Option.bind_some] at hv
  split at hv
  · rename_i C el fz hC
    simp only [Option.some.injEq] at hv
    subst hv
    exact ⟨hg64, _, el, fz, hC, Nat.zero_le _, fun i x hx => by simp at hx, fun u hu => by cases hu; rfl⟩
  · cases hv
end Go.Ev
set_option linter.unusedVariables false
set_option linter.unusedSimpArgs false
namespace Go.Ev
set_option linter.unusedSectionVars false

noncomputable section
/-- where the first byte 'b' stands -/
def idxN : Nat → Nat → Nat → Option Nat
  | 0, _, _ => none
  | n + 1, c, b => match Nat.beq (Nat.mod c 256) b with
    | true => some 0
    | false => (match idxN n (Nat.div c 256) b with | some k => some (Nat.succ k) | none => none)
def idxG : Ansr := fun args => match args with
  | [.str l c, .int .u8 (.ofNat b)] => (match Nat.blt b 256 with
    | true => (match idxN l c b with
      | some k => frc k fun k => some (.val (.int .i64 (.ofNat k)))
      | none => some (.val (.int .i64 (.negSucc 0))))
    | false => none)
  | _ => none
/-- the code of a text that stands there many times -/
def repN (l c : Nat) : Nat → Nat
  | 0 => 0
  | n + 1 => Nat.add (Nat.mod c (Nat.pow 256 l)) (Nat.mul (repN l c n) (Nat.pow 256 l))
def repG : Ansr := fun args => match args with
  | [.str l c, .int .i64 (.ofNat n)] => (match Nat.blt n 1000 && Nat.blt l 1000 with
    | true => frc (repN l c n) fun d => frc (Nat.mul n l) fun m => some (.val (.str m d))
    | false => none)
  | _ => none
end

theorem idxN_eq : ∀ (n c b : Nat), b < 256 → Lib.indexByte (bytesOf n c) (UInt8.ofNat b) = (match idxN n c b with | some k => (.ofNat k : Int) | none => .negSucc 0)
  | 0, _, _, _ => rfl
  | n + 1, c, b, hb => by
    have hq : (UInt8.ofNat (c % 256) == UInt8.ofNat b) = Nat.beq (Nat.mod c 256) b := by
      rw [Bool.eq_iff_iff, beq_iff_eq]
      constructor
      · intro h
        have := congrArg UInt8.toNat h
        simp only [UInt8.toNat_ofNat'] at this
        have h2 : c % 256 = b := by omega
        show Nat.beq (c % 256) b = true
        rw [h2]; exact Nat.beq_refl _
      · intro h
        have h2 : c % 256 = b := Nat.eq_of_beq_eq_true h
        rw [h2]
    have ih := idxN_eq n (c / 256) b hb
    simp only [bytesOf, Lib.indexByte, idxN, hq]
    cases Nat.beq (Nat.mod c 256) b with
    | true => rfl
    | false =>
      rw [ih]
      show (if false = true then (0 : Int) else _) = _
      rw [if_neg (by decide)]
      show _ = (match (match idxN n (c / 256) b with | some k => some (Nat.succ k) | none => none) with | some k => (.ofNat k : Int) | none => .negSucc 0)
      cases idxN n (c / 256) b with
      | none => rfl
      | some k =>
        show (if ((Int.ofNat k) == (-1 : Int)) = true then (-1 : Int) else Int.ofNat k + 1) = Int.ofNat (k + 1)
        have h3 : ((Int.ofNat k) == (-1 : Int)) = false := by rw [beq_eq_false_iff_ne]; intro h; cases h
        rw [h3]
        rfl
theorem repN_eq (l c : Nat) : ∀ n, bytesOf (n * l) (repN l c n) = Lib.repeatL (bytesOf l c) n
  | 0 => by rw [Nat.zero_mul]; rfl
  | n + 1 => by
    have ih := repN_eq l c n
    show bytesOf ((n + 1) * l) (c % 256 ^ l + repN l c n * 256 ^ l) = bytesOf l c ++ Lib.repeatL (bytesOf l c) n
    rw [← ih, bytesOf_append, Nat.succ_mul, Nat.add_comm]

theorem keeps_of_below {w w' : World} (h : Go.RowKit.Below w.heap.size w w') : Keeps w w' := ⟨h.os, h.output, h.size, h.block⟩

section
variable [Sig]
/-- a call that leaves nothing but what nobody sees, by its contract -/
theorem ans_keeps {P : Program} {l : List Tab} {f : FuncId} {args : List AV} {v : AV} (hb : (fnOf P f).isSome = true) (hv : v.plainB = true)
    (H : ∀ (E : Env) (us : List Value), cvL E args = some us → ∀ w, ∃ u, cv E v = some u ∧ Calls P f us.toArray w (fun e w' => e = .returned u ∧ Keeps w w')) : AnsOk P l f args (.val v) := by
  refine ⟨hasBody_of hb, fun W0 ht E h w us S hu _ => ?_⟩
  obtain ⟨u, hv, hc⟩ := H E us hu w
  have hc' : CallsIn Fence.wide 0 P f us.toArray w (fun e w' => e = .returned u ∧ Keeps w w') := by rw [callsIn_wide]; exact hc
  refine hc'.mono fun en w' he => ?_
  obtain ⟨rfl, hk⟩ := he
  exact ⟨E, u, rfl, .refl _ _, S.grown hk, hv⟩
theorem idxG_ok {P : Program} {l : List Tab} {F : Nat} (hb : (fnOf P F).isSome = true)
    (H : ∀ (s : ByteArray) (c : Int) (w : World), Calls P F #[.string s, .int .u8 c] w fun e w' => e = .returned (.int .i64 (Lib.indexByte s.data.toList c.toNat.toUInt8)) ∧ w' = w) : ∀ args ans, idxG args = some ans → AnsOk P l F args ans := by
  intro args ans h
  unfold idxG at h
  split at h
  · rename_i l' c b
    split at h
    · rename_i hlt
      have hb2 : b < 256 := Nat.le_of_ble_eq_true hlt
      have key : ans = .val (.int .i64 (match idxN l' c b with | some k => (.ofNat k : Int) | none => .negSucc 0)) := by
        cases hx : idxN l' c b with
        | none => rw [hx] at h; exact (Option.some.inj h).symm
        | some k => rw [hx] at h; simp only [frc_eq] at h; exact (Option.some.inj h).symm
      subst key
      have hs : symB (match idxN l' c b with | some k => (.ofNat k : Int) | none => .negSucc 0) = false := by
        cases idxN l' c b <;> rfl
      refine ans_pure hb fun E us hu w => ⟨_, by simp only [cv]; rw [dec_of hs], ?_⟩
      simp only [cvL, cv, Option.some.injEq] at hu
      subst hu
      have hd : dec (Int.ofNat b) = (b : Int) := dec_of rfl
      rw [hd]
      have := H (strB l' c) (b : Int) w
      rw [strB_toList] at this
      rw [show ((b : Int).toNat.toUInt8) = UInt8.ofNat b from rfl, idxN_eq _ _ _ hb2] at this
      exact this
    · cases h
  · cases h
theorem repG_ok {P : Program} {l : List Tab} {F : Nat} (hb : (fnOf P F).isSome = true)
    (H : ∀ (s : ByteArray) (c : Nat) (w : World), s.size < 1000 → c < 1000 → Calls P F #[.string s, .int .i64 c] w fun e w' => e = .returned (.string ⟨(Lib.repeatL s.data.toList c).toArray⟩) ∧ Go.RowKit.Below w.heap.size w w') : ∀ args ans, repG args = some ans → AnsOk P l F args ans := by
  intro args ans h
  unfold repG at h
  split at h
  · rename_i l' c n
    split at h
    · rename_i hlt
      rw [Bool.and_eq_true] at hlt
      have h1 : n < 1000 := Nat.le_of_ble_eq_true hlt.1
      have h2 : l' < 1000 := Nat.le_of_ble_eq_true hlt.2
      simp only [frc_eq, Option.some.injEq] at h
      subst h
      refine ans_keeps hb rfl fun E us hu w => ⟨.string (strB (Nat.mul n l') (repN l' c n)), by simp only [cv], ?_⟩
      simp only [cvL, cv, Option.some.injEq] at hu
      subst hu
      have hd : dec (Int.ofNat n) = (n : Int) := dec_of rfl
      rw [hd]
      have := H (strB l' c) n w (by rw [strB_size]; exact h2) h1
      rw [strB_toList, ← repN_eq] at this
      refine this.mono fun e w' he => ⟨he.1, keeps_of_below he.2⟩
    · cases h
  · cases h
end
end Go.Ev
