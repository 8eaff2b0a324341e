/- A range over an iterator whose caller turns blocks of its own alone, in rounds that never leave. No condition. · The names that a node binds: scope.names at any real tree of a few kinds. · The iterator over a node's names: a name itself. No condition. · The iterator over a node's names: the first kid's names. No condition. · The iterator over a node's names: a Default's. No condition. · The iterator over a node's names: the names of all kids. No condition. · The iterator over a node's names: a node whose names are its kids' names. No condition. · The iterator over a node's names: other nodes whose names are their kids' names. No condition. · The iterator over a node's names: the first kid's names. No condition. · The names of a node, gathered behind those that are there. No condition. · The names of each var in a statement, gathered behind those that are there. No condition. · Are these the names, in their row: the law's own look at names. No condition. · The names that a node binds, and those that a list of statements declares for itself. No condition. -/
import Derived.RangeFuncNested
import Derived.RangeFuncBound
import Derived.RangeFuncCalls
import Derived.RangeFuncLeaves
import Derived.RangeFuncWrites
import Derived.Test.YtgpibpkplhlihaaGreatDoorProg
import Derived.Shelf.Abstract
import Derived.Shelf.RegionOpen
import Derived.Stop.RegionWithIn
import Derived.WalkKit
import Derived.OwnWalkIn
import Derived.TacticsInMore
import Derived.LoopNIn
import Derived.LoopIn
import Derived.Deep.QuietTactic
import Derived.BigQuiet
import Derived.IntWalk
import Derived.Deep.RegionHeld3
import Derived.Deep.AppendLies
import Derived.WalkSpells
import Derived.StillTactics
import Derived.OwnWalk
import Derived.Laws.Pointers
import Derived.KernelRfl
import Derived.Deep.RegionWith
import Derived.Maps.AppendAt
import Derived.Maps.OwnIn
import Derived.Tactics2
import Derived.LoopTactic
namespace Go.Proofs.YtgpibpkplhlihaaGreatDoor
open Go Go.RowKit Go.Proofs
variable {F : Fence} {n : Nat} {P : Program}
structure KeepM (M : World → Nat → Prop) (A B : World) : Prop where
 os : B.os = A.os
 tape : B.tape = A.tape
 output : B.output = A.output
 size : A.heap.size ≤ B.heap.size
 keep : ∀ k o, A.heap[k]? = some o → ¬ M A k → B.heap[k]? = some o
 mt : ∀ k, M B k → M A k ∨ A.heap.size ≤ k
theorem at_lt {W : World} {k : Nat} {o : Obj} (h : W.heap[k]? = some o) : k < W.heap.size := (Array.getElem?_eq_some_iff.1 h).1
theorem KeepM.refl {M : World → Nat → Prop} (A : World) : KeepM M A A := ⟨rfl, rfl, rfl, Nat.le_refl _, fun _ _ h _ => h, fun _ h => .inl h⟩
theorem KeepM.trans {M : World → Nat → Prop} {A B C : World} (h : KeepM M A B) (k : KeepM M B C) : KeepM M A C where
 os := k.os.trans h.os
 tape := k.tape.trans h.tape
 output := k.output.trans h.output
 size := Nat.le_trans h.size k.size
 keep := fun i o hi hn => k.keep i o (h.keep i o hi hn) fun hm => (h.mt i hm).elim hn fun hs => absurd (at_lt hi) (by omega)
 mt := fun i hm => (k.mt i hm).elim (fun h2 => h.mt i h2) fun h2 => .inr (Nat.le_trans h.size h2)
theorem KeepM.below {M : World → Nat → Prop} {A B : World} {lo : Nat} (h : KeepM M A B) (hM : ∀ k, M A k → lo ≤ k) (hl : lo ≤ A.heap.size) : Below lo A B :=
 ⟨h.os, h.tape, h.output, h.size, fun k hk => by
  obtain ⟨o, ho⟩ : ∃ o, A.heap[k]? = some o := ⟨A.heap[k]'(by omega), Array.getElem?_eq_getElem (by omega)⟩
  rw [ho, h.keep k o ho fun hm => by have := hM k hm; omega]⟩
structure Stab {σ : Type} (M : World → Nat → Prop) (J : σ → World → Prop) : Prop where
 mv : ∀ s A B, J s A → (∀ k, M A k → B.heap[k]? = A.heap[k]?) → J s B
 mt : ∀ s A B k, J s A → (∀ k, M A k → B.heap[k]? = A.heap[k]?) → M B k → M A k
 lt : ∀ s A k, J s A → M A k → k < A.heap.size
theorem Stab.step {σ : Type} {M : World → Nat → Prop} {J : σ → World → Prop} (hS : Stab M J) {s : σ} {w A B : World} {row : Option Nat} (hJ : J s A) (hK : KeepM M w A) (hg : A.grownBy B row) (hr : ∀ k, row = some k → w.heap.size ≤ k ∧ ¬ M A k) :
  KeepM M w B ∧ J s B ∧ ∀ k, M B k → M A k := by
 have hq : ∀ k, M A k → B.heap[k]? = A.heap[k]? := fun k hk => hg.block k (hS.lt s A k hJ hk) fun e => (hr k e.symm).2 hk
 refine ⟨⟨hg.os.trans hK.os, hg.tape.trans hK.tape, hg.output.trans hK.output, Nat.le_trans hK.size hg.size, fun k o hk hn => ?_, fun k hm => hK.mt k (hS.mt s A B k hJ hq hm)⟩, hS.mv s A B hJ hq, fun k hm => hS.mt s A B k hJ hq hm⟩
 have h1 := hK.keep k o hk hn
 refine (hg.block k (at_lt h1) fun e => ?_).trans h1
 have := (hr k e.symm).1
 have := at_lt hk
 omega
theorem KeepM.shrink {M X : World → Nat → Prop} {w A B : World} (h : KeepM M w A) (k : KeepM (fun W i => M W i ∨ X W i) A B) (hX : ∀ i, X A i → w.heap.size ≤ i) : KeepM M w B where
 os := k.os.trans h.os
 tape := k.tape.trans h.tape
 output := k.output.trans h.output
 size := Nat.le_trans h.size k.size
 keep := fun i o hi hn => by
  refine k.keep i o (h.keep i o hi hn) fun hm => ?_
  have := at_lt hi
  rcases hm with hm | hm
  ·exact (h.mt i hm).elim hn (by omega)
  ·have := hX i hm; omega
 mt := fun i hm => by
  rcases k.mt i (.inl hm) with (hm | hm) | hm
  ·exact h.mt i hm
  ·exact .inr (hX i hm)
  ·exact .inr (Nat.le_trans h.size hm)
theorem KeepM.wide {M : World → Nat → Prop} {X : Nat → Prop} {A B : World} (h : KeepM M A B) : KeepM (fun W i => M W i ∨ X i) A B :=
 ⟨h.os, h.tape, h.output, h.size, fun i o hi hn => h.keep i o hi fun hm => hn (.inl hm), fun i hm => hm.elim (fun h2 => (h.mt i h2).imp .inl id) fun h2 => .inl (.inr h2)⟩
theorem Stab.box {σ : Type} {M : World → Nat → Prop} {J : σ → World → Prop} (hS : Stab M J) (b : Nat) (o : Obj) : Stab (fun A i => M A i ∨ i = b) (fun s A => J s A ∧ A.heap[b]? = some o ∧ ¬ M A b) where
 mv := fun s A B hs hq => ⟨hS.mv s A B hs.1 fun k hk => hq k (.inl hk), (hq b (.inr rfl)).trans hs.2.1, fun hm => hs.2.2 (hS.mt s A B b hs.1 (fun k hk => hq k (.inl hk)) hm)⟩
 mt := fun s A B k hs hq hm => hm.imp (fun hm => hS.mt s A B k hs.1 (fun k hk => hq k (.inl hk)) hm) id
 lt := fun s A k hs hm => hm.elim (fun hm => hS.lt s A k hs.1 hm) fun hm => by subst hm; exact at_lt hs.2.1
def SeqM {α : Type} (F : Fence) (n : Nat) (P : Program) (g : Nat) (lb : Array Value) (encs : α → Array Value) (c lo : Nat) (S : List α → Prop) (N : Nat) (w : World) : Prop :=
 ∀ (l : Nat) (M : World → Nat → Prop) (J : List α → World → Prop) (W : World), Below w.heap.size w W → Stab M J → ¬ M W c → (∀ s A k, J s A → M A k → lo ≤ k) →
  (∀ pre x W1, J pre W1 → pre.length < N → YieldAt F (n - 1) P l (encs x) W1 fun e W' => e = .returned (.bool true) ∧ J (pre ++ [x]) W' ∧ KeepM M W1 W') →
  J [] W →
  CallsIn F n P g (#[.func (.yield l) #[] #[]] ++ lb) W fun e W' => (∃ v, e = .returned v) ∧ ∃ xs, S xs ∧ J xs W' ∧ KeepM M W W'
def bodyM {α : Type} (M : World → Nat → Prop) (I : List α → World → Prop) (xs : List α) (W : World) : Exit → Act → World → Prop
 | .normal, _, W' => KeepM M W W' ∧ I xs W'
 | _, _, _ => False
theorem range_M {α : Type} {g : Operand} {ps : Array Tmp} {assign body : Code} {Q : Exit → Act → World → Prop} {a : Act} {w : World}
  (hro : F.round = none) (h1 : F.depth.isSome = true → 1 ≤ n) {gf : Nat} {lb : Array Value} (hg : a.eval g = .func (.func gf) #[] lb) (hFg : F.fn gf) (eg : ∀ args w, (callFunc gf args).run P w = .ok (.enter gf args) w)
  {encs : α → Array Value} {c lo : Nat} {S : List α → Prop} {N : Nat} {w0 : World} (hseq : SeqM F (n - 1) P gf lb encs c lo S N w0)
  (hb0 : Below w0.heap.size w0 w) (hlo : lo ≤ w.heap.size) (hps : ∀ x, (encs x).size = ps.size)
  (M : World → Nat → Prop) (I : List α → World → Prop) (hS : Stab M I) (hMlo : ∀ s A k, I s A → M A k → lo ≤ k) (hc : ¬ M w c) (hcl : c < w.heap.size) (h0 : I [] w)
  (hround : ∀ (l : Nat) (pre : List α) (x : α) (W : World), l < W.heap.size → ¬ M W l → I pre W → pre.length < N → ∀ K : Act → World → Prop,
   (∀ a' W', KeepM M W W' → I pre W' → (∀ W'', I pre W'' → (∀ k, k ≠ l → W''.heap[k]? = W'.heap[k]?) → (∀ k, M W'' k → M W' k) → W''.heap.size = W'.heap.size → body.wpIn (F.inRound l) (n - 1 - 1) P (bodyM M I (pre ++ [x]) W'') a' W'') → K a' W') →
   assign.wpIn (F.inRound l) (n - 1 - 1) P (Exit.then K (fun _ _ _ => False)) { tmps := (ps.zip (encs x)).foldl (fun t (p, v) => t.setIfInBounds p v) a.tmps, defers := [] } W)
  (hdone : ∀ (D : Nat) (xs : List α) (W : World), w.heap.size ≤ D → S xs → I xs W → KeepM M w W → ¬ M W D → W.heap[D]? = some (.deferred (some [])) → Q .normal { a with defers := { target := .collected D, args := #[] } :: a.defers } W) :
  (Code.rangeFunc g ps assign body).wpIn F n P Q a w := by
 refine wpIn_rangeFunc ?_
 intro fn hfn
 rw [hro]
 obtain ⟨rec, hrec⟩ : ∃ rec : LoopState → Option Code → Loop, rec = fun st pe => { state := st, pending := pe, fn, tmps := a.tmps, params := ps, assign, body, defers := w.heap.size } := ⟨_, rfl⟩
 have s1 := hS.step h0 (KeepM.refl w) (World.grownBy_alloc w (.deferred (some [])) none) (fun k e => by cases e)
 have s2 := hS.step s1.2.1 s1.1 (World.grownBy_alloc (w.alloc (.deferred (some []))) (.loop (rec .ready none)) none) (fun k e => by cases e)
 obtain ⟨W1, hW1⟩ : ∃ W1, (w.alloc (.deferred (some []))).alloc (.loop (rec .ready none)) = W1 := ⟨_, rfl⟩
 have hs1 : W1.heap.size = w.heap.size + 2 := by rw [← hW1]; simp
 have hL1 : W1.heap[w.heap.size + 1]? = some (.loop (rec .ready none)) := by
  rw [← hW1]; have := World.alloc_heap_new (w.alloc (.deferred (some []))) (.loop (rec .ready none)); rwa [World.size_alloc] at this
 have hK1 : W1.heap[w.heap.size]? = some (.deferred (some [])) := by
  rw [← hW1]; exact (Below.heap_alloc _ _ _ (by simp)).trans (World.alloc_heap_new w _)
 have hB1 : Below w.heap.size w W1 := by
  rw [← hW1]; exact ((Below.refl _ w).alloc (Nat.le_refl _) _).alloc (by simp) _
 rw [hW1] at s2
 obtain ⟨hKw, hI1, hMw⟩ := s2
 have hMold : ∀ k, M W1 k → M w k := fun k hk => s1.2.2 k (hMw k hk)
 have hMlt : ∀ k, M W1 k → k < w.heap.size := fun k hk => hS.lt _ _ _ h0 (hMold k hk)
 refine ⟨w.heap.size + 1, [{ target := .collected w.heap.size, args := #[] }], W1, { target := .fn (.func gf) lb, args := #[.func (.yield (w.heap.size + 1)) #[] #[]] }, W1, gf,
  #[.func (.yield (w.heap.size + 1)) #[] #[]] ++ lb, W1, ?_, ?_, ?_, ?_, h1, ?_⟩
 ·rw [← hW1, hrec]; exact run_enterLoop_outer _ _ _ _ _
 ·simp only [resolve, hg]
  simp [go_sem]
 ·intro f' hf'; simp [Target.leads] at hf'; subst hf'; exact hFg
 ·simp [invoke, go_sem, eg]
 ·obtain ⟨X, hX⟩ : ∃ X : Nat → Prop, X = fun k => k = w.heap.size + 1 ∨ k = w.heap.size := ⟨_, rfl⟩
  refine (hseq (w.heap.size + 1) (fun W k => M W k ∨ X k)
   (fun pre W => I pre W ∧ (W.heap[w.heap.size + 1]? = some (.loop (rec .ready none)) ∧ W.heap[w.heap.size]? = some (.deferred (some []))) ∧ ∀ k, X k → ¬ M W k)
   W1 (hb0.trans (hB1.mono hb0.size))
   ⟨fun s A B hs hq => ⟨hS.mv s A B hs.1 fun k hk => hq k (.inl hk), ⟨(hq _ (.inr (by rw [hX]; exact .inl rfl))).trans hs.2.1.1, (hq _ (.inr (by rw [hX]; exact .inr rfl))).trans hs.2.1.2⟩, fun k hk hm => hs.2.2 k hk (hS.mt s A B k hs.1 (fun k hk => hq k (.inl hk)) hm)⟩,
    fun s A B k hs hq hm => hm.imp (fun hm => hS.mt s A B k hs.1 (fun k hk => hq k (.inl hk)) hm) id,
    fun s A k hs hm => hm.elim (fun hm => hS.lt s A k hs.1 hm) fun hm => by
     rw [hX] at hm
     rcases hm with rfl | rfl
     ·exact at_lt hs.2.1.1
     ·exact at_lt hs.2.1.2⟩
   (fun hm => hm.elim (fun hm => hc (hMold c hm)) fun hm => by rw [hX] at hm; omega)
   (fun s A k hs hm => hm.elim (fun hm => hMlo s A k hs.1 hm) fun hm => by rw [hX] at hm; omega)
   ?_ ⟨hI1, ⟨hL1, hK1⟩, fun k hk hm => by have := hMlt k hm; rw [hX] at hk; omega⟩).mono ?_
  ·rintro pre x W ⟨hi', ⟨hl, hk⟩, hXm⟩ hlen
   have hnl : ¬ M W (w.heap.size + 1) := hXm _ (by rw [hX]; exact .inl rfl)
   have hnd : ¬ M W w.heap.size := hXm _ (by rw [hX]; exact .inr rfl)
   have hy := run_yield (P := P) (args := encs x) hl (by rw [hrec]; exact hps x)
   rw [hrec] at hy
   refine ⟨fn, _, assign, body, hy, roundIn_of_wpIn hfn (hround _ pre x W (at_lt hl) hnl hi' hlen _ ?_)⟩
   intro a' W' hk' hiW' hb
   have hl' := hk'.keep _ _ hl hnl
   have hd' := hk'.keep _ _ hk hnd
   have hnl' : ¬ M W' (w.heap.size + 1) := fun hm => (hk'.mt _ hm).elim hnl fun h2 => absurd (at_lt hl) (by omega)
   have hnd' : ¬ M W' w.heap.size := fun hm => (hk'.mt _ hm).elim hnd fun h2 => absurd (at_lt hk) (by omega)
   refine ⟨W'.putObj (w.heap.size + 1) (.loop { rec .ready none with state := .busy }), run_beginRound hl' (by rw [hrec]), ?_⟩
   have hq2 : ∀ k, k ≠ w.heap.size + 1 → (W'.putObj (w.heap.size + 1) (.loop { rec .ready none with state := .busy })).heap[k]? = W'.heap[k]? := fun k hk => World.putObj_heap_other hk
   have hqm : ∀ k, M W' k → (W'.putObj (w.heap.size + 1) (.loop { rec .ready none with state := .busy })).heap[k]? = W'.heap[k]? := fun k hm => hq2 k fun e => hnl' (e ▸ hm)
   have hl2 : (W'.putObj (w.heap.size + 1) (.loop { rec .ready none with state := .busy })).heap[w.heap.size + 1]? = some (.loop { rec .ready none with state := .busy }) := World.putObj_heap_same (at_lt hl')
   have hd2 : (W'.putObj (w.heap.size + 1) (.loop { rec .ready none with state := .busy })).heap[w.heap.size]? = some (.deferred (some [])) := (World.putObj_heap_other (by omega)).trans hd'
   have hm2 : ∀ k, M (W'.putObj (w.heap.size + 1) (.loop { rec .ready none with state := .busy })) k → M W' k := fun k hm => hS.mt pre W' _ k hiW' hqm hm
   have hz2 : (W'.putObj (w.heap.size + 1) (.loop { rec .ready none with state := .busy })).heap.size = W'.heap.size := by simp
   have hi2 := hS.mv pre W' _ hiW' hqm
   obtain ⟨W2, hW2⟩ : ∃ W2, W'.putObj (w.heap.size + 1) (.loop { rec .ready none with state := .busy }) = W2 := ⟨_, rfl⟩
   have e2 : W2.os = W'.os ∧ W2.tape = W'.tape ∧ W2.output = W'.output := by rw [← hW2]; exact ⟨rfl, rfl, rfl⟩
   rw [hW2] at hq2 hqm hl2 hd2 hm2 hz2 hi2 ⊢
   refine wpIn_mono (hb W2 hi2 hq2 hm2 hz2) ?_
   rintro e a3 W3 hp
   cases e with
   | normal =>
    obtain ⟨hk3, hi3⟩ := hp
    have hl3 := hk3.keep _ _ hl2 fun hm => hnl' (hm2 _ hm)
    have hd3 := hk3.keep _ _ hd2 fun hm => hnd' (hm2 _ hm)
    have hnl3 : ¬ M W3 (w.heap.size + 1) := fun hm => (hk3.mt _ hm).elim (fun h2 => hnl' (hm2 _ h2)) fun h2 => absurd (at_lt hl2) (by omega)
    have hnd3 : ¬ M W3 w.heap.size := fun hm => (hk3.mt _ hm).elim (fun h2 => hnd' (hm2 _ h2)) fun h2 => absurd (at_lt hd2) (by omega)
    have hr := run_endRound (P := P) none hl3
    have hq4 : ∀ k, k ≠ w.heap.size + 1 → (W3.putObj (w.heap.size + 1) (.loop (rec .ready none))).heap[k]? = W3.heap[k]? := fun k hk => World.putObj_heap_other hk
    have hqm4 : ∀ k, M W3 k → (W3.putObj (w.heap.size + 1) (.loop (rec .ready none))).heap[k]? = W3.heap[k]? := fun k hm => hq4 k fun e => hnl3 (e ▸ hm)
    have hm4 : ∀ k, M (W3.putObj (w.heap.size + 1) (.loop (rec .ready none))) k → M W3 k := fun k hm => hS.mt _ W3 _ k hi3 hqm4 hm
    have er : ({ rec .ready none with state := .busy } : Loop) = rec .busy none := by rw [hrec]
    have es : ({ ({ rec .ready none with state := .busy } : Loop) with state := .ready, pending := none } : Loop) = rec .ready none := by rw [hrec]
    refine ⟨_, _, hr, rfl, ?_⟩
    simp only [Option.isNone_none, if_true, es]
    refine ⟨⟨hS.mv _ W3 _ hi3 hqm4, ⟨World.putObj_heap_same (at_lt hl3), (World.putObj_heap_other (by omega)).trans hd3⟩, fun k hk hm => ?_⟩, ?_⟩
    ·rw [hX] at hk
     rcases hk with rfl | rfl
     ·exact hnl3 (hm4 _ hm)
     ·exact hnd3 (hm4 _ hm)
    ·refine KeepM.wide ⟨hk3.os.trans (e2.1.trans hk'.os), hk3.tape.trans (e2.2.1.trans hk'.tape), hk3.output.trans (e2.2.2.trans hk'.output), ?_, fun k o ho hn => ?_, fun k hm => ?_⟩
     ·have := hk'.size; have := hk3.size; simp; omega
     ·by_cases e : k = w.heap.size + 1
      ·subst e
       rw [hl] at ho
       rw [← ho]
       exact World.putObj_heap_same (at_lt hl3)
      ·refine (hq4 k e).trans (hk3.keep k o ((hq2 k e).trans (hk'.keep k o ho hn)) fun hm => ?_)
       exact (hk'.mt k (hm2 k hm)).elim hn fun h2 => absurd (at_lt ho) (by omega)
     ·rcases hk3.mt k (hm4 k hm) with h2 | h2
      ·exact hk'.mt k (hm2 k h2)
      ·exact .inr (by have := hk'.size; omega)
   | ret => exact hp.elim
   | exit id => exact hp.elim
   | goto t => exact hp.elim
   | panic ch => exact hp.elim
   | outgrown => exact hp.elim
  ·rintro e W2 ⟨⟨v, rfl⟩, xs, hSx, ⟨hi2, ⟨hl, hk⟩, hXm⟩, hkm⟩
   refine ⟨none, _, by have := run_endLoop (P := P) hl (by rw [hrec]; simp); rw [hrec] at this; exact this, ?_⟩
   have hnl : ¬ M W2 (w.heap.size + 1) := hXm _ (by rw [hX]; exact .inl rfl)
   have hnd : ¬ M W2 w.heap.size := hXm _ (by rw [hX]; exact .inr rfl)
   have hkw : KeepM M w W2 := hKw.shrink hkm fun i hi => by rw [hX] at hi; omega
   obtain ⟨hk5, hi5, hm5⟩ := hS.step hi2 hkw (grownBy_putObj' W2 (w.heap.size + 1) (.loop { rec .ready none with state := .exhausted })) (fun k e => by cases e; exact ⟨by omega, hnl⟩)
   have := hdone w.heap.size xs _ (Nat.le_refl _) hSx hi5 hk5 (fun hm => hnd (hm5 _ hm)) ((World.putObj_heap_other (by omega)).trans hk)
   rw [hrec] at this
   exact this
end Go.Proofs.YtgpibpkplhlihaaGreatDoor
namespace Go.Proofs.YtgpibpkplhlihaaGreatDoor
open Go Go.RowKit Go.Proofs Go.Shelf
set_option linter.unusedVariables false
set_option linter.unusedSimpArgs false
attribute [local go_sem] Oper.semAt_some
inductive NT : Type where
 | node (k : Int) (t : ByteArray) (f : Int) (l : List NT)
mutual
def LiesN (W : World) : NT → Nat → Nat → Prop
 | .node k t f l, b, off => b < W.heap.size ∧ W.cell? ⟨b, off, none⟩ = some (.int .i64 k) ∧ W.cell? ⟨b, off + 1, none⟩ = some (.string t) ∧
   (∃ (a : Option Addr) (cap : Nat), W.cell? ⟨b, off + 2, none⟩ = some (.slice a l.length cap) ∧ l.length ≤ 1000 ∧ LiesNL W l a 0) ∧ W.cell? ⟨b, off + 3, none⟩ = some (.int .i64 f)
def LiesNL (W : World) : List NT → Option Addr → Nat → Prop
 | [], _, _ => True
 | t :: ts, a, i => (∃ b off, a = some ⟨b, off, none⟩ ∧ LiesN W t b (off + i * 5)) ∧ LiesNL W ts a (i + 1)
end
theorem liesNL_at {W : World} : ∀ {l : List NT} {a : Option Addr} {i j : Nat} {t : NT}, LiesNL W l a i → l[j]? = some t → ∃ b off, a = some ⟨b, off, none⟩ ∧ LiesN W t b (off + (i + j) * 5)
 | x :: l, a, i, 0, t, h, ht => by
  rw [LiesNL] at h
  cases ht
  exact h.1
 | x :: l, a, i, j + 1, t, h, ht => by
  rw [LiesNL] at h
  obtain ⟨b, off, e, hL⟩ := liesNL_at (j := j) h.2 ht
  exact ⟨b, off, e, by rw [show i + (j + 1) = i + 1 + j by omega]; exact hL⟩
 | [], _, _, _, _, _, ht => by cases ht
abbrev BN := ByteArray × Int
mutual
inductive Binds : NT → List BN → Prop where
 | ident (t : ByteArray) (f : Int) (l : List NT) : Binds (.node 1 t f l) [(t, f)]
 | many (k : Int) (t : ByteArray) (f : Int) (l : List NT) (xs : List BN) : (k = 42 ∨ k = 43 ∨ k = 46 ∨ k = 60) → BindsL l xs → Binds (.node k t f l) xs
 | last (t : ByteArray) (f : Int) (l : List NT) (x : NT) (xs : List BN) : Binds x xs → Binds (.node 44 t f (l ++ [x])) xs
 | first (k : Int) (t : ByteArray) (f : Int) (x : NT) (l : List NT) (xs : List BN) : (k = 45 ∨ k = 61) → Binds x xs → Binds (.node k t f (x :: l)) xs
inductive BindsL : List NT → List BN → Prop where
 | nil : BindsL [] []
 | cons (x : NT) (l : List NT) (xs ys : List BN) : Binds x xs → BindsL l ys → BindsL (x :: l) (xs ++ ys)
end
def encN (x : BN) : Array Value := #[.agg #[.string x.1, .int .i64 x.2]]
theorem names_any (p : Value) (w : World) (hp : p.oneCell' = true) : Calls Tryz.prog 54 #[p] w fun e w' => e = .returned (.func (.func 80) #[] #[.pointer (some ⟨w.heap.size, 0, none⟩)]) ∧ w' = w.alloc (.cells #[p] 68) := by
 go_enter Tryz.func54, Tryz.ntmps54
 go_wp2
 go_ret
 exact ⟨rfl, rfl⟩
theorem kid_any (b off i : Nat) (k : Int) (w : World) (kb ko len cap : Nat) (hk : k = i) (hi : i < len) (hlen : len ≤ 1000) (hc : w.cell? ⟨b, off + 2, none⟩ = some (.slice (some ⟨kb, ko, none⟩) len cap)) :
  Calls Tryz.prog 55 #[.pointer (some ⟨b, off, none⟩), .int .i64 k] w fun e w' => e = .returned (.pointer (some ⟨kb, ko + i * 5, none⟩)) ∧ w' = w := by
 subst hk
 have j1 : (0 : Int) ≤ (i : Int) := by omega
 have j2 : (i : Int) < (len : Int) := by omega
 have j3 : ((i : Int)).toNat = i := by omega
 go_enter Tryz.func55, Tryz.ntmps55
 go_wp2
 go_ret
 exact ⟨rfl, rfl⟩
theorem grownBy_drew' (W : World) : W.grownBy W.drew none := ⟨rfl, rfl, rfl, Nat.le_refl _, fun _ _ _ => rfl⟩
theorem RoundIn.anyDepth {F : Fence} (hd : F.depth = none) {m m' : Nat} {P : Program} {l : Nat} {f : FuncId} {tmps : Array Value} {assign body : Code} {w : World} {R : Ending → World → Prop}
  (h : RoundIn F m P l f tmps assign body w R) : RoundIn F m' P l f tmps assign body w R := ⟨h.1, fun c cs _ => h.2 c cs fun d h => by rw [hd] at h; cases h⟩
theorem YieldAt.anyDepth {F : Fence} (hd : F.depth = none) {m : Nat} (m' : Nat) {P : Program} {l : Nat} {args : Array Value} {W : World} {R : Ending → World → Prop} (h : YieldAt F m P l args W R) : YieldAt F m' P l args W R := by
 obtain ⟨fn, tmps, assign, body, hy, hR⟩ := h
 exact ⟨fn, tmps, assign, body, hy, RoundIn.anyDepth hd hR⟩
def NamesOk (x : NT) (xs : List BN) : Prop := ∀ (n : Nat) (w00 w : World) (pb po c : Nat), w00.heap.size ≤ c → c < w.heap.size → Below w00.heap.size w00 w → w.cell? ⟨c, 0, none⟩ = some (.pointer (some ⟨pb, po, none⟩)) → LiesN w00 x pb po →
 SeqM Fence.wide n Tryz.prog 80 #[.pointer (some ⟨c, 0, none⟩)] encN c w00.heap.size (fun ys => ys = xs) xs.length w
end Go.Proofs.YtgpibpkplhlihaaGreatDoor
namespace Go.Proofs.YtgpibpkplhlihaaGreatDoor
open Go Go.RowKit Go.Proofs Go.Shelf
set_option linter.unusedVariables false
set_option linter.unusedSimpArgs false
attribute [local go_sem] Oper.semAt_some
set_option maxHeartbeats 4000000 in
set_option maxRecDepth 1000000 in
theorem names_ident (t : ByteArray) (f : Int) (l : List NT) : NamesOk (.node 1 t f l) [(t, f)] := by
 intro n w00 w pb po c hc1 hc2 hB hcell hL l M J W hBW hS hMc hMlo hY h0
 rw [LiesN] at hL
 obtain ⟨l0, l1, l2, -, l4⟩ := hL
 have hcW : W.cell? ⟨c, 0, none⟩ = some (.pointer (some ⟨pb, po, none⟩)) := (hBW.cell (p := ⟨c, 0, none⟩) hc2).trans hcell
 have hB0 : Below w00.heap.size w00 W := hB.trans (hBW.mono (by omega))
 have hpb : pb < W.heap.size := by have := hB0.size; omega
 have hcl : c < W.heap.size := by have := hBW.size; omega
 have c0 := (hB0.cell (p := ⟨pb, po, none⟩) l0).trans l1
 have c1 := (hB0.cell (p := ⟨pb, po + 1, none⟩) l0).trans l2
 have c3 := (hB0.cell (p := ⟨pb, po + 3, none⟩) l0).trans l4
 have s1 := hS.step h0 (KeepM.refl W) (World.grownBy_alloc W (.cells #[.func (.yield l) #[] #[]] 138) none) (fun k e => by cases e)
 have s2 := hS.step s1.2.1 s1.1 (grownBy_drew' (W.alloc (.cells #[.func (.yield l) #[] #[]] 138))) (fun k e => by cases e)
 obtain ⟨fn, tmps, assign, body, hy, hR⟩ := hY [] (t, f) _ s2.2.1 (by simp)
 dsimp only [encN] at hy
 refine callsIn_of_wp Tryz.func80 rfl trivial ?_ rfl
 simp only [Tryz.ntmps80, List.size_toArray, List.length_cons, List.length_nil, Nat.reduceAdd, Nat.reduceSub, Array.replicate_succ, Array.replicate_zero, List.push_toArray, List.append_toArray, List.nil_append, List.cons_append]
 gi_wp2
 gi_region_with (refine ⟨fun h => by simp [Fence.wide] at h, hR.mono ?_⟩; clear hR hy; rintro e W3 ⟨rfl, hJ3, hk3⟩)
 all_goals
  gi_wp2
  refine bodyPost_ret (results_none rfl _ _ _) rfl ?_
  exact ⟨⟨_, rfl⟩, _, rfl, hJ3, s2.1.trans hk3⟩
end Go.Proofs.YtgpibpkplhlihaaGreatDoor
namespace Go.Proofs.YtgpibpkplhlihaaGreatDoor
open Go Go.RowKit Go.Proofs Go.Shelf
set_option linter.unusedVariables false
set_option linter.unusedSimpArgs false
attribute [local go_sem] Oper.semAt_some
set_option maxHeartbeats 4000000 in
set_option maxRecDepth 1000000 in
theorem names_first61 (t : ByteArray) (f : Int) (x : NT) (kl : List NT) (xs : List BN) (hx : NamesOk x xs) : NamesOk (.node 61 t f (x :: kl)) xs := by
 intro n w00 w pb po c hc1 hc2 hB hcell hL l M J W hBW hS hMc hMlo hY h0
 rw [LiesN] at hL
 obtain ⟨l0, l1, l2, ⟨ka, kcap, l3, hlen, hLL⟩, l4⟩ := hL
 obtain ⟨kb, ko, rfl, hLx⟩ := liesNL_at (j := 0) hLL rfl
 have hLx : LiesN w00 x kb ko := by simpa using hLx
 have hcW : W.cell? ⟨c, 0, none⟩ = some (.pointer (some ⟨pb, po, none⟩)) := (hBW.cell (p := ⟨c, 0, none⟩) hc2).trans hcell
 have hB0 : Below w00.heap.size w00 W := hB.trans (hBW.mono (by omega))
 have hpb : pb < W.heap.size := by have := hB0.size; omega
 have hcl : c < W.heap.size := by have := hBW.size; omega
 have c0 := (hB0.cell (p := ⟨pb, po, none⟩) l0).trans l1
 have c2 := (hB0.cell (p := ⟨pb, po + 2, none⟩) l0).trans l3
 have c2' := (((Below.refl W.heap.size W).alloc (Nat.le_refl _) (.cells #[.func (.yield l) #[] #[]] 138)).cell (p := ⟨pb, po + 2, none⟩) hpb).trans c2
 have s1 := hS.step h0 (KeepM.refl W) (World.grownBy_alloc W (.cells #[.func (.yield l) #[] #[]] 138) none) (fun k e => by cases e)
 refine callsIn_of_wp_marks Tryz.func80 rfl trivial ?_ rfl
 simp only [Tryz.ntmps80, List.size_toArray, List.length_cons, List.length_nil, Nat.reduceAdd, Nat.reduceSub, Array.replicate_succ, Array.replicate_zero, List.push_toArray, List.append_toArray, List.nil_append, List.cons_append]
 gi_wp2_with (first
  | (refine ⟨trivial, fun h => by simp [Fence.wide] at h, ?_⟩; gi_at_call 55; refine (callsIn_wide.2 (kid_any pb po 0 0 _ kb ko _ kcap rfl (by simp) hlen c2')).mono ?_; rintro e w' ⟨rfl, rfl⟩)
  | (refine ⟨trivial, fun h => by simp [Fence.wide] at h, ?_⟩; gi_at_call 54; refine (callsIn_wide.2 (names_any _ _ rfl)).mono ?_; rintro e w' ⟨rfl, rfl⟩))
 have hb1 := World.alloc_heap_new W (.cells #[.func (.yield l) #[] #[]] 138)
 have s2 := hS.step s1.2.1 s1.1 (World.grownBy_alloc (W.alloc (.cells #[.func (.yield l) #[] #[]] 138)) (.cells #[.pointer (some ⟨kb, ko, none⟩)] 68) none) (fun k e => by cases e)
 have hb2 := World.alloc_heap_new (W.alloc (.cells #[.func (.yield l) #[] #[]] 138)) (.cells #[.pointer (some ⟨kb, ko, none⟩)] 68)
 have hb3 := (World.grownBy_alloc (W.alloc (.cells #[.func (.yield l) #[] #[]] 138)) (.cells #[.pointer (some ⟨kb, ko, none⟩)] 68) none).block W.heap.size (by simp) (by simp)
 rw [hb1] at hb3
 have hz2 : ((W.alloc (.cells #[.func (.yield l) #[] #[]] 138)).alloc (.cells #[.pointer (some ⟨kb, ko, none⟩)] 68)).heap.size = W.heap.size + 2 := by simp
 rw [World.size_alloc] at hb2
 obtain ⟨W2, hW2⟩ : ∃ W2, (W.alloc (.cells #[.func (.yield l) #[] #[]] 138)).alloc (.cells #[.pointer (some ⟨kb, ko, none⟩)] 68) = W2 := ⟨_, rfl⟩
 rw [hW2] at s2 hb2 hb3 hz2
 have e2 : (W.alloc (.cells #[.func (.yield l) #[] #[]] 138)).alloc (.cells #[.pointer (some ⟨kb, ko, none⟩)] 68) = W2 := hW2
 rw [hW2]
 obtain ⟨hk2, hJ2, hm2⟩ := s2
 have hml : ∀ k, M W2 k → k < W.heap.size := fun k hk => hS.lt _ _ _ h0 (s1.2.2 k (hm2 k hk))
 have hB2 : Below w00.heap.size w00 W2 := by rw [← hW2]; exact (hB0.alloc (by omega) _).alloc (by simp; omega) _
 refine range_M (F := Fence.wide) rfl (fun h => by simp [Fence.wide] at h) (gf := 80) (lb := #[.pointer (some ⟨W.heap.size + 1, 0, none⟩)]) rfl trivial (enters_of Tryz.func80 (by kernel_rfl) rfl)
  (hx (n - 1) w00 W2 kb (ko) (W.heap.size + 1) (by omega) (by omega) hB2 (by simp [World.cell?, hb2]) hLx) (Below.refl _ _) (by omega) (fun _ => rfl)
  (fun A i => M A i ∨ i = W.heap.size) (fun pre A => J pre A ∧ A.heap[W.heap.size]? = some (.cells #[.func (.yield l) #[] #[]] 138) ∧ ¬ M A W.heap.size) (hS.box _ _)
  (fun s A k hs hm => hm.elim (fun hm => hMlo s A k hs.1 hm) fun hm => by omega) (fun hm => hm.elim (fun hm => by have := hml _ hm; omega) fun hm => by omega) (by omega)
  ⟨hJ2, hb3, fun hm => by have := hml _ hm; omega⟩ ?round ?done
 case round =>
  intro l2 pre y Wr hl2 hnl ⟨hJ, hbx, hnb⟩ hlen K hK
  dsimp only [encN]
  gi_wp2
  have t1 := (hS.box W.heap.size (.cells #[.func (.yield l) #[] #[]] 138)).step (s := pre) ⟨hJ, hbx, hnb⟩ (KeepM.refl Wr) (World.grownBy_alloc Wr (.cells #[.string y.fst, .int .i64 y.snd] 64) none) (fun k e => by cases e)
  refine hK _ _ t1.1 t1.2.1 fun W4 ⟨hJ4, hbx4, hnb4⟩ hq4 hm4 hz4 => ?_
  have hx4 := (hq4 Wr.heap.size (by omega)).trans (World.alloc_heap_new Wr (.cells #[.string y.fst, .int .i64 y.snd] 64))
  have d0 : W4.cell? ⟨Wr.heap.size, 0, none⟩ = some (.string y.fst) := by simp [World.cell?, hx4]
  have d1 : W4.cell? ⟨Wr.heap.size, 1, none⟩ = some (.int .i64 y.snd) := by simp [World.cell?, hx4]
  have dy : W4.cell? ⟨W.heap.size, 0, none⟩ = some (.func (.yield l) #[] #[]) := by simp [World.cell?, hbx4]
  obtain ⟨fn, tmps, assign, body, hy, hR⟩ := YieldAt.anyDepth rfl (n - 1 - 1 - 1) (hY pre y W4 hJ4 hlen)
  dsimp only [encN] at hy
  gi_wp2
  refine ⟨fun h => by simp [Fence.wide] at h, hR.mono ?_⟩
  rintro e W5 ⟨rfl, hJ5, hk5⟩
  gi_wp2
  exact ⟨hk5.wide, hJ5, hk5.keep _ _ hbx4 hnb4, fun hm => (hk5.mt _ hm).elim hnb4 fun h2 => absurd (at_lt hbx4) (by omega)⟩
 case done =>
  rintro D ys W3 hD rfl ⟨hJ3, hbx3, hnb3⟩ hk3 hnd hK
  gi_wp2
  have hk4 : KeepM M W W3 := hk2.shrink (X := fun _ i => i = W.heap.size) hk3 fun i hi => by omega
  obtain ⟨hk5, hJ5, -⟩ := hS.step hJ3 hk4 (grownBy_putObj' W3 D (.deferred none)) (fun k e => by cases e; exact ⟨by omega, fun hm => hnd (.inl hm)⟩)
  refine ⟨by simp, .inl ⟨_, _, rfl, run_takeDeferred hK, ?_⟩⟩
  exact ⟨_, results_none rfl _ _ _, ⟨_, rfl⟩, _, rfl, hJ5, hk5⟩
end Go.Proofs.YtgpibpkplhlihaaGreatDoor
namespace Go.Proofs.YtgpibpkplhlihaaGreatDoor
open Go Go.RowKit Go.Proofs Go.Shelf
set_option linter.unusedVariables false
set_option linter.unusedSimpArgs false
attribute [local go_sem] Oper.semAt_some
set_option maxHeartbeats 4000000 in
set_option maxRecDepth 1000000 in
theorem names_first45 (t : ByteArray) (f : Int) (x : NT) (kl : List NT) (xs : List BN) (hx : NamesOk x xs) : NamesOk (.node 45 t f (x :: kl)) xs := by
 intro n w00 w pb po c hc1 hc2 hB hcell hL l M J W hBW hS hMc hMlo hY h0
 rw [LiesN] at hL
 obtain ⟨l0, l1, l2, ⟨ka, kcap, l3, hlen, hLL⟩, l4⟩ := hL
 obtain ⟨kb, ko, rfl, hLx⟩ := liesNL_at (j := 0) hLL rfl
 have hLx : LiesN w00 x kb ko := by simpa using hLx
 have hcW : W.cell? ⟨c, 0, none⟩ = some (.pointer (some ⟨pb, po, none⟩)) := (hBW.cell (p := ⟨c, 0, none⟩) hc2).trans hcell
 have hB0 : Below w00.heap.size w00 W := hB.trans (hBW.mono (by omega))
 have hpb : pb < W.heap.size := by have := hB0.size; omega
 have hcl : c < W.heap.size := by have := hBW.size; omega
 have c0 := (hB0.cell (p := ⟨pb, po, none⟩) l0).trans l1
 have c2 := (hB0.cell (p := ⟨pb, po + 2, none⟩) l0).trans l3
 have c2' := (((Below.refl W.heap.size W).alloc (Nat.le_refl _) (.cells #[.func (.yield l) #[] #[]] 138)).cell (p := ⟨pb, po + 2, none⟩) hpb).trans c2
 have s1 := hS.step h0 (KeepM.refl W) (World.grownBy_alloc W (.cells #[.func (.yield l) #[] #[]] 138) none) (fun k e => by cases e)
 refine callsIn_of_wp_marks Tryz.func80 rfl trivial ?_ rfl
 simp only [Tryz.ntmps80, List.size_toArray, List.length_cons, List.length_nil, Nat.reduceAdd, Nat.reduceSub, Array.replicate_succ, Array.replicate_zero, List.push_toArray, List.append_toArray, List.nil_append, List.cons_append]
 gi_wp2_with (first
  | (refine ⟨trivial, fun h => by simp [Fence.wide] at h, ?_⟩; gi_at_call 55; refine (callsIn_wide.2 (kid_any pb po 0 0 _ kb ko _ kcap rfl (by simp) hlen c2')).mono ?_; rintro e w' ⟨rfl, rfl⟩)
  | (refine ⟨trivial, fun h => by simp [Fence.wide] at h, ?_⟩; gi_at_call 54; refine (callsIn_wide.2 (names_any _ _ rfl)).mono ?_; rintro e w' ⟨rfl, rfl⟩))
 have hb1 := World.alloc_heap_new W (.cells #[.func (.yield l) #[] #[]] 138)
 have s2 := hS.step s1.2.1 s1.1 (World.grownBy_alloc (W.alloc (.cells #[.func (.yield l) #[] #[]] 138)) (.cells #[.pointer (some ⟨kb, ko, none⟩)] 68) none) (fun k e => by cases e)
 have hb2 := World.alloc_heap_new (W.alloc (.cells #[.func (.yield l) #[] #[]] 138)) (.cells #[.pointer (some ⟨kb, ko, none⟩)] 68)
 have hb3 := (World.grownBy_alloc (W.alloc (.cells #[.func (.yield l) #[] #[]] 138)) (.cells #[.pointer (some ⟨kb, ko, none⟩)] 68) none).block W.heap.size (by simp) (by simp)
 rw [hb1] at hb3
 have hz2 : ((W.alloc (.cells #[.func (.yield l) #[] #[]] 138)).alloc (.cells #[.pointer (some ⟨kb, ko, none⟩)] 68)).heap.size = W.heap.size + 2 := by simp
 rw [World.size_alloc] at hb2
 obtain ⟨W2, hW2⟩ : ∃ W2, (W.alloc (.cells #[.func (.yield l) #[] #[]] 138)).alloc (.cells #[.pointer (some ⟨kb, ko, none⟩)] 68) = W2 := ⟨_, rfl⟩
 rw [hW2] at s2 hb2 hb3 hz2
 have e2 : (W.alloc (.cells #[.func (.yield l) #[] #[]] 138)).alloc (.cells #[.pointer (some ⟨kb, ko, none⟩)] 68) = W2 := hW2
 rw [hW2]
 obtain ⟨hk2, hJ2, hm2⟩ := s2
 have hml : ∀ k, M W2 k → k < W.heap.size := fun k hk => hS.lt _ _ _ h0 (s1.2.2 k (hm2 k hk))
 have hB2 : Below w00.heap.size w00 W2 := by rw [← hW2]; exact (hB0.alloc (by omega) _).alloc (by simp; omega) _
 refine range_M (F := Fence.wide) rfl (fun h => by simp [Fence.wide] at h) (gf := 80) (lb := #[.pointer (some ⟨W.heap.size + 1, 0, none⟩)]) rfl trivial (enters_of Tryz.func80 (by kernel_rfl) rfl)
  (hx (n - 1) w00 W2 kb (ko) (W.heap.size + 1) (by omega) (by omega) hB2 (by simp [World.cell?, hb2]) hLx) (Below.refl _ _) (by omega) (fun _ => rfl)
  (fun A i => M A i ∨ i = W.heap.size) (fun pre A => J pre A ∧ A.heap[W.heap.size]? = some (.cells #[.func (.yield l) #[] #[]] 138) ∧ ¬ M A W.heap.size) (hS.box _ _)
  (fun s A k hs hm => hm.elim (fun hm => hMlo s A k hs.1 hm) fun hm => by omega) (fun hm => hm.elim (fun hm => by have := hml _ hm; omega) fun hm => by omega) (by omega)
  ⟨hJ2, hb3, fun hm => by have := hml _ hm; omega⟩ ?round ?done
 case round =>
  intro l2 pre y Wr hl2 hnl ⟨hJ, hbx, hnb⟩ hlen K hK
  dsimp only [encN]
  gi_wp2
  have t1 := (hS.box W.heap.size (.cells #[.func (.yield l) #[] #[]] 138)).step (s := pre) ⟨hJ, hbx, hnb⟩ (KeepM.refl Wr) (World.grownBy_alloc Wr (.cells #[.string y.fst, .int .i64 y.snd] 64) none) (fun k e => by cases e)
  refine hK _ _ t1.1 t1.2.1 fun W4 ⟨hJ4, hbx4, hnb4⟩ hq4 hm4 hz4 => ?_
  have hx4 := (hq4 Wr.heap.size (by omega)).trans (World.alloc_heap_new Wr (.cells #[.string y.fst, .int .i64 y.snd] 64))
  have d0 : W4.cell? ⟨Wr.heap.size, 0, none⟩ = some (.string y.fst) := by simp [World.cell?, hx4]
  have d1 : W4.cell? ⟨Wr.heap.size, 1, none⟩ = some (.int .i64 y.snd) := by simp [World.cell?, hx4]
  have dy : W4.cell? ⟨W.heap.size, 0, none⟩ = some (.func (.yield l) #[] #[]) := by simp [World.cell?, hbx4]
  obtain ⟨fn, tmps, assign, body, hy, hR⟩ := YieldAt.anyDepth rfl (n - 1 - 1 - 1) (hY pre y W4 hJ4 hlen)
  dsimp only [encN] at hy
  gi_wp2
  refine ⟨fun h => by simp [Fence.wide] at h, hR.mono ?_⟩
  rintro e W5 ⟨rfl, hJ5, hk5⟩
  gi_wp2
  exact ⟨hk5.wide, hJ5, hk5.keep _ _ hbx4 hnb4, fun hm => (hk5.mt _ hm).elim hnb4 fun h2 => absurd (at_lt hbx4) (by omega)⟩
 case done =>
  rintro D ys W3 hD rfl ⟨hJ3, hbx3, hnb3⟩ hk3 hnd hK
  gi_wp2
  have hk4 : KeepM M W W3 := hk2.shrink (X := fun _ i => i = W.heap.size) hk3 fun i hi => by omega
  obtain ⟨hk5, hJ5, -⟩ := hS.step hJ3 hk4 (grownBy_putObj' W3 D (.deferred none)) (fun k e => by cases e; exact ⟨by omega, fun hm => hnd (.inl hm)⟩)
  refine ⟨by simp, .inl ⟨_, _, rfl, run_takeDeferred hK, ?_⟩⟩
  exact ⟨_, results_none rfl _ _ _, ⟨_, rfl⟩, _, rfl, hJ5, hk5⟩
end Go.Proofs.YtgpibpkplhlihaaGreatDoor
namespace Go.Proofs.YtgpibpkplhlihaaGreatDoor
open Go Go.RowKit Go.Proofs Go.Shelf
set_option linter.unusedVariables false
set_option linter.unusedSimpArgs false
attribute [local go_sem] Oper.semAt_some
def markD (D : Nat) : Deferred := { target := .collected D, args := #[] }
theorem leaves_marks {F : Fence} {n : Nat} {P : Program} {fn : Func} {tmps : Array Value} {R : Ending → World → Prop} (Φ : World → Prop) :
  ∀ (Ds : List Nat) (w : World), Ds.Nodup → (∀ D ∈ Ds, w.heap[D]? = some (.deferred (some []))) → (∀ A D, D ∈ Ds → Φ A → Φ (A.putObj D (.deferred none))) → Φ w →
   (∀ w', Φ w' → LeavesIn F n P fn tmps R [] .returning w') → LeavesInM F n P fn tmps R (Ds.map markD) .returning w
 | [], w, _, _, _, h, hl => hl w h
 | D :: Ds, w, hn, hD, hp, h, hl => by
  rw [List.nodup_cons] at hn
  refine ⟨by simp, .inl ⟨D, _, rfl, run_takeDeferred (hD D (List.mem_cons_self ..)), ?_⟩⟩
  exact leaves_marks Φ Ds _ hn.2 (fun E hE => (World.putObj_heap_other fun e => hn.1 (by rw [← e]; exact hE)).trans (hD E (List.mem_cons_of_mem _ hE))) (fun A E hE => hp A E (List.mem_cons_of_mem _ hE)) (hp w D (List.mem_cons_self ..) h) hl
theorem results_cell1 {fn : Func} {p : Tmp} {t1 : TypeId} (h : fn.results = #[.cell p t1]) (tmps : Array Value) (P : Program) (w : World) :
  (results fn tmps).run P w = ((asAddr (tmps.getD p undef)).run P w).andThen fun a w₁ => (loadVar t1 a).run P w₁ := by
 simp only [results, h]
 simp [Sem.run_bind, Result.andThen]
theorem KeepM.congr {M M' : World → Nat → Prop} {A B : World} (h : KeepM M A B) (e : ∀ A k, M A k ↔ M' A k) : KeepM M' A B :=
 ⟨h.os, h.tape, h.output, h.size, fun i o hi hn => h.keep i o hi fun hm => hn ((e _ _).1 hm), fun i hm => (h.mt i ((e _ _).2 hm)).imp (e _ _).1 id⟩
theorem flat_take {yss : List (List BN)} {i : Nat} {ys : List BN} (h : yss[i]? = some ys) : (yss.take (i + 1)).flatten = (yss.take i).flatten ++ ys := by
 rw [List.take_add_one, h]
 simp
theorem flat_len {yss : List (List BN)} {i : Nat} {ys : List BN} (h : yss[i]? = some ys) : (yss.take i).flatten.length + ys.length ≤ yss.flatten.length := by
 have h1 : yss.flatten.length = (yss.take (i + 1)).flatten.length + (yss.drop (i + 1)).flatten.length := by
  rw [← List.length_append, ← List.flatten_append, List.take_append_drop]
 rw [h1, flat_take h, List.length_append]
 omega
theorem loop_inv {F : Fence} {n : Nat} {P : Program} {c : Code} {Q : Exit → Act → World → Prop} (Inv : Nat → Act → World → Prop)
  (hstep : ∀ m a w, Inv m a w → c.wpIn F n P (Exit.then (fun a' w' => ∃ m', m = m' + 1 ∧ Inv m' a' w') Q) a w) {m : Nat} {a : Act} {w : World} (h : Inv m a w) : (Code.loop c).wpIn F n P Q a w := by
 refine wpIn_loop_rounds (m + 1) ?_
 induction m generalizing a w with
 | zero =>
  refine wpIn_mono (hstep 0 a w h) fun e a' w' he => ?_
  cases e with
  | normal => obtain ⟨m', hm, -⟩ := he; omega
  | _ => exact he
 | succ m ih =>
  refine wpIn_mono (hstep (m + 1) a w h) fun e a' w' he => ?_
  cases e with
  | normal =>
   obtain ⟨m', hm, hi⟩ := he
   obtain rfl : m = m' := by omega
   exact ih hi
  | _ => exact he
set_option maxHeartbeats 4000000 in
set_option maxRecDepth 1000000 in
theorem each_ok (n : Nat) (w00 W : World) (pb po : Nat) (k : Int) (t : ByteArray) (f : Int) (kids : List NT) (hL : LiesN w00 (.node k t f kids) pb po) (hB0 : Below w00.heap.size w00 W) (yss : List (List BN)) (hyl : yss.length = kids.length)
  (hN : ∀ (i : Nat) (x : NT) (ys : List BN), kids[i]? = some x → yss[i]? = some ys → NamesOk x ys) (l : Nat) (M : World → Nat → Prop) (J : List BN → World → Prop) (hS : Stab M J) (hMlo : ∀ s A k, J s A → M A k → w00.heap.size ≤ k)
  (hY : ∀ pre x W1, J pre W1 → pre.length < yss.flatten.length → YieldAt Fence.wide n Tryz.prog l (encN x) W1 fun e W' => e = .returned (.bool true) ∧ J (pre ++ [x]) W' ∧ KeepM M W1 W') (h0 : J [] W) :
  CallsIn Fence.wide n Tryz.prog 81 #[.pointer (some ⟨pb, po, none⟩), .func (.yield l) #[] #[]] W fun e W' => e = .returned (.bool true) ∧ J yss.flatten W' ∧ KeepM M W W' := by
 rw [LiesN] at hL
 obtain ⟨l0, l1, l2, ⟨ka, kcap, l3, hlen, hLL⟩, l4⟩ := hL
 have hpb : pb < W.heap.size := by have := hB0.size; omega
 have c2 := (hB0.cell (p := ⟨pb, po + 2, none⟩) l0).trans l3
 have s1 := hS.step h0 (KeepM.refl W) (World.grownBy_alloc W (.cells #[.func (.yield l) #[] #[]] 138) none) (fun k e => by cases e)
 have s2 := hS.step s1.2.1 s1.1 (World.grownBy_alloc (W.alloc (.cells #[.func (.yield l) #[] #[]] 138)) (.cells #[.bool false] 4) none) (fun k e => by cases e)
 refine callsIn_of_wp_marks Tryz.func81 rfl trivial ?_ rfl
 simp only [Tryz.ntmps81, List.size_toArray, List.length_cons, List.length_nil, Nat.reduceAdd, Nat.reduceSub, Array.replicate_succ, Array.replicate_zero, List.push_toArray, List.append_toArray, List.nil_append, List.cons_append]
 gi_wp2
 refine loop_inv (fun m a wr => ∃ (i : Nat) (u2 u5 u6 u13 u14 u15 u16 u17 u18 u19 u20 u21 u22 u23 u24 u25 u26 u27 : Value) (Ds : List Nat), i + m = kids.length ∧ a = { tmps := #[.pointer (some ⟨pb, po, none⟩), .func (.yield l) #[] #[], u2, .pointer (some ⟨W.heap.size, 0, none⟩), .pointer (some ⟨W.heap.size + 1, 0, none⟩), u5, u6, .pointer (some ⟨pb, po, none⟩), .pointer (some ⟨pb, po, none⟩), .pointer (some ⟨pb, po + 2, none⟩), .slice ka kids.length kcap, .int .i64 (kids.length : Int), .int .i64 (i : Int), u13, u14, u15, u16, u17, u18, u19, u20, u21, u22, u23, u24, u25, u26, u27], defers := Ds.map markD } ∧ Ds.Nodup ∧
    (∀ D ∈ Ds, wr.heap[D]? = some (.deferred (some [])) ∧ ¬ M wr D ∧ W.heap.size + 2 ≤ D) ∧ J (yss.take i).flatten wr ∧ KeepM M W wr ∧
    (wr.heap[W.heap.size]? = some (.cells #[.func (.yield l) #[] #[]] 138) ∧ ¬ M wr W.heap.size) ∧ (wr.heap[W.heap.size + 1]? = some (.cells #[.bool false] 4) ∧ ¬ M wr (W.heap.size + 1))) ?step (m := kids.length) ?start
 case start =>
  refine ⟨0, _, _, _, _, _, _, _, _, _, _, _, _, _, _, _, _, _, _, [], by omega, rfl, List.nodup_nil, (fun D hD => by cases hD), s2.2.1, s2.1, ⟨?_, fun hm => ?_⟩, ?_, fun hm => ?_⟩
  ·exact ((World.grownBy_alloc (W.alloc (.cells #[.func (.yield l) #[] #[]] 138)) (.cells #[.bool false] 4) none).block W.heap.size (by simp) (by simp)).trans (World.alloc_heap_new W _)
  ·have := hS.lt _ _ _ h0 (s1.2.2 _ (s2.2.2 _ hm)); omega
  ·have := World.alloc_heap_new (W.alloc (.cells #[.func (.yield l) #[] #[]] 138)) (.cells #[.bool false] 4)
   rwa [World.size_alloc] at this
  ·have := hS.lt _ _ _ h0 (s1.2.2 _ (s2.2.2 _ hm)); omega
 case step =>
  rintro m a wr ⟨i, u2, u5, u6, u13, u14, u15, u16, u17, u18, u19, u20, u21, u22, u23, u24, u25, u26, u27, Ds, him, rfl, hnd, hDs, hJ, hk, ⟨hb0, hn0⟩, hb1, hn1⟩
  have hBr : Below w00.heap.size w00 wr := hB0.trans (hk.below (fun k hm => hMlo _ _ _ h0 hm) (by have := hB0.size; omega))
  have hpb2 : pb < wr.heap.size := by have := hBr.size; omega
  have c2 := (hBr.cell (p := ⟨pb, po + 2, none⟩) l0).trans l3
  rcases Nat.lt_or_ge i kids.length with hi | hi
  ·have g1 : (i : Int) < (kids.length : Int) := by omega
   have g2 : (0 : Int) ≤ (i : Int) := by omega
   have g4 : (i : Int).toNat = i := by omega
   have g3 : IntKind.i64.wrap ((i : Int) + 1) = (i : Int) + 1 := IntWalk.i64_in _ (by omega)
   obtain ⟨x, hx⟩ : ∃ x, kids[i]? = some x := ⟨_, List.getElem?_eq_getElem hi⟩
   obtain ⟨ys, hys⟩ : ∃ ys, yss[i]? = some ys := ⟨_, List.getElem?_eq_getElem (by omega)⟩
   obtain ⟨kb, ko, rfl, hLx⟩ := liesNL_at hLL hx
   rw [Nat.zero_add] at hLx
   gi_wp2_with (refine ⟨trivial, fun h => by simp [Fence.wide] at h, ?_⟩; gi_at_call 54; refine (callsIn_wide.2 (names_any _ _ rfl)).mono ?_; rintro e w' ⟨rfl, rfl⟩)
   have b1 : (wr.alloc (.cells #[.pointer (some ⟨kb, ko + i * 5, none⟩)] 68)).heap[wr.heap.size]? = some (.cells #[.pointer (some ⟨kb, ko + i * 5, none⟩)] 68) := World.alloc_heap_new wr _
   obtain ⟨hk2, hJ2, hm2⟩ := hS.step hJ hk (World.grownBy_alloc wr (.cells #[.pointer (some ⟨kb, ko + i * 5, none⟩)] 68) none) (fun k e => by cases e)
   have hB2 : Below w00.heap.size w00 (wr.alloc (.cells #[.pointer (some ⟨kb, ko + i * 5, none⟩)] 68)) := hBr.alloc (by have := hBr.size; omega) _
   have ho : ∀ k, k < wr.heap.size → (wr.alloc (.cells #[.pointer (some ⟨kb, ko + i * 5, none⟩)] 68)).heap[k]? = wr.heap[k]? := fun k hk => (World.grownBy_alloc wr (.cells #[.pointer (some ⟨kb, ko + i * 5, none⟩)] 68) none).block k hk (by simp)
   have hz2 : (wr.alloc (.cells #[.pointer (some ⟨kb, ko + i * 5, none⟩)] 68)).heap.size = wr.heap.size + 1 := by simp
   obtain ⟨W2, hW2⟩ : ∃ W2, wr.alloc (.cells #[.pointer (some ⟨kb, ko + i * 5, none⟩)] 68) = W2 := ⟨_, rfl⟩
   rw [hW2] at b1 hk2 hJ2 hm2 hB2 ho hz2 ⊢
   have hlt0 := at_lt hb0
   have hlt1 := at_lt hb1
   have hml : ∀ k, M W2 k → k < wr.heap.size := fun k hk => hS.lt _ _ _ hJ (hm2 k hk)
   have hWs := hk.size
   have hSt := ((Stab.box (M := M) (J := fun (pre : List BN) A => J ((yss.take i).flatten ++ pre) A) ⟨fun s A B hs hq => hS.mv _ A B hs hq, fun s A B k hs hq hm => hS.mt _ A B k hs hq hm, fun s A k hs hm => hS.lt _ A k hs hm⟩ W.heap.size (.cells #[.func (.yield l) #[] #[]] 138)).box (W.heap.size + 1) (.cells #[.bool false] 4))
   refine range_M (F := Fence.wide) rfl (fun h => by simp [Fence.wide] at h) (gf := 80) (lb := #[.pointer (some ⟨wr.heap.size, 0, none⟩)]) rfl trivial (enters_of Tryz.func80 (by kernel_rfl) rfl)
    (hN i x ys hx hys (n - 1) w00 W2 kb (ko + i * 5) wr.heap.size (by have := hBr.size; omega) (by omega) hB2 (by simp [World.cell?, b1]) hLx) (Below.refl _ _) (by have := hB2.size; omega) (fun _ => rfl)
    (fun A q => (M A q ∨ q = W.heap.size) ∨ q = W.heap.size + 1)
    (fun pre A => (J ((yss.take i).flatten ++ pre) A ∧ A.heap[W.heap.size]? = some (.cells #[.func (.yield l) #[] #[]] 138) ∧ ¬ M A W.heap.size) ∧ A.heap[W.heap.size + 1]? = some (.cells #[.bool false] 4) ∧ ¬ (M A (W.heap.size + 1) ∨ W.heap.size + 1 = W.heap.size))
    hSt
    (fun s A k hs hm => hm.elim (fun hm => hm.elim (fun hm => hMlo _ A k hs.1.1 hm) fun hm => by have := hB0.size; omega) fun hm => by have := hB0.size; omega)
    (fun hm => hm.elim (fun hm => hm.elim (fun hm => by have := hml _ hm; omega) fun hm => by omega) fun hm => by omega) (by omega)
    ⟨⟨by simpa using hJ2, (ho _ hlt0).trans hb0, fun hm => hn0 (hm2 _ hm)⟩, (ho _ hlt1).trans hb1, fun hm => hm.elim (fun hm => hn1 (hm2 _ hm)) (by omega)⟩ ?round ?done
   case round =>
    intro l2 pre y Wr hl2 hnl ⟨⟨hJ3, hbx, hnb⟩, hbx1, hnb1⟩ hplen K hK
    dsimp only [encN]
    gi_wp2
    have t1 := hSt.step (s := pre) ⟨⟨hJ3, hbx, hnb⟩, hbx1, hnb1⟩ (KeepM.refl Wr) (World.grownBy_alloc Wr (.cells #[.string y.fst, .int .i64 y.snd] 64) none) (fun k e => by cases e)
    refine hK _ _ t1.1 t1.2.1 fun W4 ⟨⟨hJ4, hbx4, hnb4⟩, hbx14, hnb14⟩ hq4 hm4 hz4 => ?_
    have hx4 := (hq4 Wr.heap.size (by omega)).trans (World.alloc_heap_new Wr (.cells #[.string y.fst, .int .i64 y.snd] 64))
    have d0 : W4.cell? ⟨Wr.heap.size, 0, none⟩ = some (.string y.fst) := by simp [World.cell?, hx4]
    have d1 : W4.cell? ⟨Wr.heap.size, 1, none⟩ = some (.int .i64 y.snd) := by simp [World.cell?, hx4]
    have dy : W4.cell? ⟨W.heap.size, 0, none⟩ = some (.func (.yield l) #[] #[]) := by simp [World.cell?, hbx4]
    obtain ⟨fn, tmps, assign, body, hy, hR⟩ := YieldAt.anyDepth rfl (n - 1 - 1 - 1) (hY ((yss.take i).flatten ++ pre) y W4 hJ4 (by have := flat_len hys; rw [List.length_append]; omega))
    dsimp only [encN] at hy
    gi_wp2
    refine ⟨fun h => by simp [Fence.wide] at h, hR.mono ?_⟩
    rintro e W5 ⟨rfl, hJ5, hk5⟩
    gi_wp2
    refine ⟨hk5.wide.wide, ⟨by rw [← List.append_assoc]; exact hJ5, hk5.keep _ _ hbx4 hnb4, fun hm => (hk5.mt _ hm).elim hnb4 fun h2 => absurd (at_lt hbx4) (by omega)⟩, hk5.keep _ _ hbx14 fun hm => hnb14 (.inl hm), fun hm => hm.elim (fun hm => (hk5.mt _ hm).elim (fun h2 => hnb14 (.inl h2)) fun h2 => absurd (at_lt hbx14) (by omega)) (by omega)⟩
   case done =>
    rintro D zs W3 hD rfl ⟨⟨hJ3, hbx, hnb⟩, hbx1, hnb1⟩ hk3 hnd3 hK3
    gi_wp2
    obtain ⟨m', rfl⟩ : ∃ m', m = m' + 1 := ⟨m - 1, by omega⟩
    have hk4 : KeepM M W W3 := hk2.shrink (X := fun _ q => q = W.heap.size ∨ q = W.heap.size + 1) (hk3.congr fun A q => or_assoc) fun q hq => by omega
    refine ⟨m', rfl, i + 1, _, _, _, _, _, _, _, _, _, _, _, _, _, _, _, _, _, _, D :: Ds, by omega, rfl, ?_, ?_, ?_, hk4, ⟨hbx, hnb⟩, hbx1, fun hm => hnb1 (.inl hm)⟩
    ·refine List.nodup_cons.2 ⟨fun hm => ?_, hnd⟩
     have := at_lt (hDs D hm).1
     omega
    ·intro E hE
     rcases List.mem_cons.1 hE with rfl | hE
     ·exact ⟨hK3, fun hm => hnd3 (.inl (.inl hm)), by omega⟩
     ·obtain ⟨e1, e2, e3⟩ := hDs E hE
      have e4 := at_lt e1
      refine ⟨hk3.keep _ _ ((ho _ e4).trans e1) fun hm => ?_, fun hm => ?_, e3⟩
      ·rcases hm with (hm | hm) | hm
       ·exact e2 (hm2 _ hm)
       ·omega
       ·omega
      ·rcases hk3.mt E (.inl (.inl hm)) with ((h2 | h2) | h2) | h2
       ·exact e2 (hm2 _ h2)
       ·omega
       ·omega
       ·omega
    ·rw [flat_take hys]; exact hJ3
  ·have g1 : ¬ (i : Int) < (kids.length : Int) := by omega
   have d1 : wr.cell? ⟨W.heap.size + 1, 0, none⟩ = some (.bool false) := by simp [World.cell?, hb1]
   have d2 : wr.frozen? ⟨W.heap.size + 1, 0, none⟩ = false := by simp [World.frozen?, hb1]
   gi_wp2
   have hJf : J yss.flatten wr := by rw [List.take_of_length_le (by omega)] at hJ; exact hJ
   obtain ⟨hk5, hJ5, hm5⟩ := hS.step hJf hk (grownBy_setCell' wr (W.heap.size + 1) (.bool true)) (fun k e => by cases e; exact ⟨by omega, hn1⟩)
   refine leaves_marks (fun A => J yss.flatten A ∧ KeepM M W A ∧ A.cell? ⟨W.heap.size + 1, 0, none⟩ = some (.bool true) ∧ ∀ D ∈ Ds, ¬ M A D) Ds _ hnd (fun D hD => ?_) (fun A D hD ⟨a1, a2, a3, a4⟩ => ?_) ⟨hJ5, hk5, World.cell?_setCell_same' _ _ _ (by rw [d1]; rfl), fun D hD hm => (hDs D hD).2.1 (hm5 _ hm)⟩ (fun w' ⟨a1, a2, a3, a4⟩ => ?_)
   ·have := (hDs D hD).2.2
    exact ((grownBy_setCell' wr (W.heap.size + 1) (.bool true)).block D (at_lt (hDs D hD).1) (by simp; omega)).trans (hDs D hD).1
   ·have := (hDs D hD).2.2
    obtain ⟨b1, b2, b3⟩ := hS.step a1 a2 (grownBy_putObj' A D (.deferred none)) (fun k e => by cases e; exact ⟨by omega, a4 D hD⟩)
    exact ⟨b2, b1, (World.cell?_of_block (w := A) (a := ⟨W.heap.size + 1, 0, none⟩) (World.putObj_heap_other (show W.heap.size + 1 ≠ D by omega))).trans a3, fun E hE hm => a4 E hE (b3 _ hm)⟩
   ·refine ⟨.bool true, ?_, rfl, a1, a2⟩
    rw [results_cell1 rfl]
    simp [go_sem, a3]
end Go.Proofs.YtgpibpkplhlihaaGreatDoor
namespace Go.Proofs.YtgpibpkplhlihaaGreatDoor
open Go Go.RowKit Go.Proofs Go.Shelf
set_option linter.unusedVariables false
set_option linter.unusedSimpArgs false
attribute [local go_sem] Oper.semAt_some
def PartsN (l : List NT) (xs : List BN) : Prop := ∃ yss : List (List BN), yss.length = l.length ∧ xs = yss.flatten ∧ ∀ (i : Nat) (x : NT) (ys : List BN), l[i]? = some x → yss[i]? = some ys → NamesOk x ys
set_option maxHeartbeats 4000000 in
set_option maxRecDepth 1000000 in
theorem names_many60 (t : ByteArray) (f : Int) (kids : List NT) (xs : List BN) (hp : PartsN kids xs) : NamesOk (.node 60 t f kids) xs := by
 obtain ⟨yss, hyl, rfl, hN⟩ := hp
 intro n w00 w pb po c hc1 hc2 hB hcell hL l M J W hBW hS hMc hMlo hY h0
 have hL2 := hL
 rw [LiesN] at hL
 obtain ⟨l0, l1, -, -, -⟩ := hL
 have hcW : W.cell? ⟨c, 0, none⟩ = some (.pointer (some ⟨pb, po, none⟩)) := (hBW.cell (p := ⟨c, 0, none⟩) hc2).trans hcell
 have hB0 : Below w00.heap.size w00 W := hB.trans (hBW.mono (by omega))
 have hpb : pb < W.heap.size := by have := hB0.size; omega
 have hcl : c < W.heap.size := by have := hBW.size; omega
 have c0 := (hB0.cell (p := ⟨pb, po, none⟩) l0).trans l1
 have s1 := hS.step h0 (KeepM.refl W) (World.grownBy_alloc W (.cells #[.func (.yield l) #[] #[]] 138) none) (fun k e => by cases e)
 have hB1 : Below w00.heap.size w00 (W.alloc (.cells #[.func (.yield l) #[] #[]] 138)) := hB0.alloc (by have := hB0.size; omega) _
 refine callsIn_of_wp Tryz.func80 rfl trivial ?_ rfl
 simp only [Tryz.ntmps80, List.size_toArray, List.length_cons, List.length_nil, Nat.reduceAdd, Nat.reduceSub, Array.replicate_succ, Array.replicate_zero, List.push_toArray, List.append_toArray, List.nil_append, List.cons_append]
 gi_wp2_with (refine ⟨trivial, fun h => by simp [Fence.wide] at h, ?_⟩; gi_at_call 81; refine (each_ok (n - 1) w00 _ pb po 60 t f kids hL2 hB1 yss hyl hN l M J hS hMlo hY s1.2.1).mono ?_; rintro e W3 ⟨rfl, hJ3, hk3⟩)
 refine bodyPost_ret (results_none rfl _ _ _) rfl ?_
 exact ⟨⟨_, rfl⟩, _, rfl, hJ3, s1.1.trans hk3⟩
end Go.Proofs.YtgpibpkplhlihaaGreatDoor
namespace Go.Proofs.YtgpibpkplhlihaaGreatDoor
open Go Go.RowKit Go.Proofs Go.Shelf
set_option linter.unusedVariables false
set_option linter.unusedSimpArgs false
attribute [local go_sem] Oper.semAt_some
set_option maxHeartbeats 4000000 in
set_option maxRecDepth 1000000 in
theorem names_many42 (t : ByteArray) (f : Int) (kids : List NT) (xs : List BN) (hp : PartsN kids xs) : NamesOk (.node 42 t f kids) xs := by
 obtain ⟨yss, hyl, rfl, hN⟩ := hp
 intro n w00 w pb po c hc1 hc2 hB hcell hL l M J W hBW hS hMc hMlo hY h0
 have hL2 := hL
 rw [LiesN] at hL
 obtain ⟨l0, l1, -, -, -⟩ := hL
 have hcW : W.cell? ⟨c, 0, none⟩ = some (.pointer (some ⟨pb, po, none⟩)) := (hBW.cell (p := ⟨c, 0, none⟩) hc2).trans hcell
 have hB0 : Below w00.heap.size w00 W := hB.trans (hBW.mono (by omega))
 have hpb : pb < W.heap.size := by have := hB0.size; omega
 have hcl : c < W.heap.size := by have := hBW.size; omega
 have c0 := (hB0.cell (p := ⟨pb, po, none⟩) l0).trans l1
 have s1 := hS.step h0 (KeepM.refl W) (World.grownBy_alloc W (.cells #[.func (.yield l) #[] #[]] 138) none) (fun k e => by cases e)
 have hB1 : Below w00.heap.size w00 (W.alloc (.cells #[.func (.yield l) #[] #[]] 138)) := hB0.alloc (by have := hB0.size; omega) _
 refine callsIn_of_wp Tryz.func80 rfl trivial ?_ rfl
 simp only [Tryz.ntmps80, List.size_toArray, List.length_cons, List.length_nil, Nat.reduceAdd, Nat.reduceSub, Array.replicate_succ, Array.replicate_zero, List.push_toArray, List.append_toArray, List.nil_append, List.cons_append]
 gi_wp2_with (refine ⟨trivial, fun h => by simp [Fence.wide] at h, ?_⟩; gi_at_call 81; refine (each_ok (n - 1) w00 _ pb po 42 t f kids hL2 hB1 yss hyl hN l M J hS hMlo hY s1.2.1).mono ?_; rintro e W3 ⟨rfl, hJ3, hk3⟩)
 refine bodyPost_ret (results_none rfl _ _ _) rfl ?_
 exact ⟨⟨_, rfl⟩, _, rfl, hJ3, s1.1.trans hk3⟩
set_option maxHeartbeats 4000000 in
set_option maxRecDepth 1000000 in
theorem names_many43 (t : ByteArray) (f : Int) (kids : List NT) (xs : List BN) (hp : PartsN kids xs) : NamesOk (.node 43 t f kids) xs := by
 obtain ⟨yss, hyl, rfl, hN⟩ := hp
 intro n w00 w pb po c hc1 hc2 hB hcell hL l M J W hBW hS hMc hMlo hY h0
 have hL2 := hL
 rw [LiesN] at hL
 obtain ⟨l0, l1, -, -, -⟩ := hL
 have hcW : W.cell? ⟨c, 0, none⟩ = some (.pointer (some ⟨pb, po, none⟩)) := (hBW.cell (p := ⟨c, 0, none⟩) hc2).trans hcell
 have hB0 : Below w00.heap.size w00 W := hB.trans (hBW.mono (by omega))
 have hpb : pb < W.heap.size := by have := hB0.size; omega
 have hcl : c < W.heap.size := by have := hBW.size; omega
 have c0 := (hB0.cell (p := ⟨pb, po, none⟩) l0).trans l1
 have s1 := hS.step h0 (KeepM.refl W) (World.grownBy_alloc W (.cells #[.func (.yield l) #[] #[]] 138) none) (fun k e => by cases e)
 have hB1 : Below w00.heap.size w00 (W.alloc (.cells #[.func (.yield l) #[] #[]] 138)) := hB0.alloc (by have := hB0.size; omega) _
 refine callsIn_of_wp Tryz.func80 rfl trivial ?_ rfl
 simp only [Tryz.ntmps80, List.size_toArray, List.length_cons, List.length_nil, Nat.reduceAdd, Nat.reduceSub, Array.replicate_succ, Array.replicate_zero, List.push_toArray, List.append_toArray, List.nil_append, List.cons_append]
 gi_wp2_with (refine ⟨trivial, fun h => by simp [Fence.wide] at h, ?_⟩; gi_at_call 81; refine (each_ok (n - 1) w00 _ pb po 43 t f kids hL2 hB1 yss hyl hN l M J hS hMlo hY s1.2.1).mono ?_; rintro e W3 ⟨rfl, hJ3, hk3⟩)
 refine bodyPost_ret (results_none rfl _ _ _) rfl ?_
 exact ⟨⟨_, rfl⟩, _, rfl, hJ3, s1.1.trans hk3⟩
set_option maxHeartbeats 4000000 in
set_option maxRecDepth 1000000 in
theorem names_many46 (t : ByteArray) (f : Int) (kids : List NT) (xs : List BN) (hp : PartsN kids xs) : NamesOk (.node 46 t f kids) xs := by
 obtain ⟨yss, hyl, rfl, hN⟩ := hp
 intro n w00 w pb po c hc1 hc2 hB hcell hL l M J W hBW hS hMc hMlo hY h0
 have hL2 := hL
 rw [LiesN] at hL
 obtain ⟨l0, l1, -, -, -⟩ := hL
 have hcW : W.cell? ⟨c, 0, none⟩ = some (.pointer (some ⟨pb, po, none⟩)) := (hBW.cell (p := ⟨c, 0, none⟩) hc2).trans hcell
 have hB0 : Below w00.heap.size w00 W := hB.trans (hBW.mono (by omega))
 have hpb : pb < W.heap.size := by have := hB0.size; omega
 have hcl : c < W.heap.size := by have := hBW.size; omega
 have c0 := (hB0.cell (p := ⟨pb, po, none⟩) l0).trans l1
 have s1 := hS.step h0 (KeepM.refl W) (World.grownBy_alloc W (.cells #[.func (.yield l) #[] #[]] 138) none) (fun k e => by cases e)
 have hB1 : Below w00.heap.size w00 (W.alloc (.cells #[.func (.yield l) #[] #[]] 138)) := hB0.alloc (by have := hB0.size; omega) _
 refine callsIn_of_wp Tryz.func80 rfl trivial ?_ rfl
 simp only [Tryz.ntmps80, List.size_toArray, List.length_cons, List.length_nil, Nat.reduceAdd, Nat.reduceSub, Array.replicate_succ, Array.replicate_zero, List.push_toArray, List.append_toArray, List.nil_append, List.cons_append]
 gi_wp2_with (refine ⟨trivial, fun h => by simp [Fence.wide] at h, ?_⟩; gi_at_call 81; refine (each_ok (n - 1) w00 _ pb po 46 t f kids hL2 hB1 yss hyl hN l M J hS hMlo hY s1.2.1).mono ?_; rintro e W3 ⟨rfl, hJ3, hk3⟩)
 refine bodyPost_ret (results_none rfl _ _ _) rfl ?_
 exact ⟨⟨_, rfl⟩, _, rfl, hJ3, s1.1.trans hk3⟩
end Go.Proofs.YtgpibpkplhlihaaGreatDoor
namespace Go.Proofs.YtgpibpkplhlihaaGreatDoor
open Go Go.RowKit Go.Proofs Go.Shelf
set_option linter.unusedVariables false
set_option linter.unusedSimpArgs false
attribute [local go_sem] Oper.semAt_some
theorem grown_drewN' (W : World) (n : Nat) : W.grownBy (W.drewN n) none := ⟨rfl, rfl, rfl, Nat.le_refl _, fun _ _ _ => rfl⟩
theorem below_drewN' {B : Nat} {a b : World} (h : Below B a b) (n : Nat) : Below B a (b.drewN n) := ⟨h.os, h.tape, h.output, h.size, h.block⟩
set_option maxHeartbeats 4000000 in
set_option maxRecDepth 1000000 in
theorem names_last (t : ByteArray) (f : Int) (x : NT) (kl : List NT) (xs : List BN) (hx : NamesOk x xs) : NamesOk (.node 44 t f (kl ++ [x])) xs := by
 intro n w00 w pb po c hc1 hc2 hB hcell hL l M J W hBW hS hMc hMlo hY h0
 rw [LiesN] at hL
 obtain ⟨l0, l1, l2, ⟨ka, kcap, l3, hlen, hLL⟩, l4⟩ := hL
 obtain ⟨kb, ko, rfl, hLx⟩ := liesNL_at (j := kl.length) (t := x) hLL (by simp)
 rw [Nat.zero_add] at hLx
 have hln : (kl ++ [x]).length = kl.length + 1 := by simp
 rw [hln] at l3 hlen
 have g1 : IntKind.i64.wrap (((kl.length + 1 : Nat) : Int) - 1) = (kl.length : Int) := by rw [show ((kl.length + 1 : Nat) : Int) - 1 = (kl.length : Int) by omega]; exact IntWalk.i64_in _ (by omega)
 have hcW : W.cell? ⟨c, 0, none⟩ = some (.pointer (some ⟨pb, po, none⟩)) := (hBW.cell (p := ⟨c, 0, none⟩) hc2).trans hcell
 have hB0 : Below w00.heap.size w00 W := hB.trans (hBW.mono (by omega))
 have hpb : pb < W.heap.size := by have := hB0.size; omega
 have hcl : c < W.heap.size := by have := hBW.size; omega
 have c0 := (hB0.cell (p := ⟨pb, po, none⟩) l0).trans l1
 have c2 := (hB0.cell (p := ⟨pb, po + 2, none⟩) l0).trans l3
 have c2' := (((Below.refl W.heap.size W).alloc (Nat.le_refl _) (.cells #[.func (.yield l) #[] #[]] 138)).cell (p := ⟨pb, po + 2, none⟩) hpb).trans c2
 have c2d : ((W.alloc (.cells #[.func (.yield l) #[] #[]] 138)).drew).cell? ⟨pb, po + 2, none⟩ = some (.slice (some ⟨kb, ko, none⟩) (kl.length + 1) kcap) := c2'
 have g2 : IntKind.i64.wrap (kl.length : Int) = (kl.length : Int) := IntWalk.i64_in _ (by omega)
 have s1 := hS.step h0 (KeepM.refl W) (World.grownBy_alloc W (.cells #[.func (.yield l) #[] #[]] 138) none) (fun k e => by cases e)
 refine callsIn_of_wp_marks Tryz.func80 rfl trivial ?_ rfl
 simp only [Tryz.ntmps80, List.size_toArray, List.length_cons, List.length_nil, Nat.reduceAdd, Nat.reduceSub, Array.replicate_succ, Array.replicate_zero, List.push_toArray, List.append_toArray, List.nil_append, List.cons_append]
 gi_wp2
 refine wpIn_wide.2 ?_
 go_quiet ((go_at_call 55; exact Calls.quiet_of_same (kid_any pb po kl.length (kl.length : Int) _ kb ko _ kcap rfl (Nat.lt_succ_self _) hlen c2')))
 have s1d := hS.step s1.2.1 s1.1 (grown_drewN' (W.alloc (.cells #[.func (.yield l) #[] #[]] 138)) nq) (fun k e => by cases e)
 have hb1 : ((W.alloc (.cells #[.func (.yield l) #[] #[]] 138)).drewN nq).heap[W.heap.size]? = some (.cells #[.func (.yield l) #[] #[]] 138) := World.alloc_heap_new W (.cells #[.func (.yield l) #[] #[]] 138)
 have hzA : ((W.alloc (.cells #[.func (.yield l) #[] #[]] 138)).drewN nq).heap.size = W.heap.size + 1 := World.size_alloc ..
 have hBV : Below w00.heap.size w00 ((W.alloc (.cells #[.func (.yield l) #[] #[]] 138)).drewN nq) := below_drewN' (hB0.alloc (by omega) _) nq
 obtain ⟨V, hV⟩ : ∃ V, (W.alloc (.cells #[.func (.yield l) #[] #[]] 138)).drewN nq = V := ⟨_, rfl⟩
 rw [hV] at s1d hb1 hzA hBV ⊢
 gi_wp2_with (refine ⟨trivial, fun h => by simp [Fence.wide] at h, ?_⟩; gi_at_call 54; refine (callsIn_wide.2 (names_any _ _ rfl)).mono ?_; rintro e w' ⟨rfl, rfl⟩)
 have hb2 := World.alloc_heap_new V (.cells #[.pointer (some ⟨kb, ko + kl.length * 5, none⟩)] 68)
 have s2 := hS.step s1d.2.1 s1d.1 (World.grownBy_alloc V (.cells #[.pointer (some ⟨kb, ko + kl.length * 5, none⟩)] 68) none) (fun k e => by cases e)
 have hb3 := (World.grownBy_alloc V (.cells #[.pointer (some ⟨kb, ko + kl.length * 5, none⟩)] 68) none).block W.heap.size (by rw [hzA]; omega) (by simp)
 rw [hb1] at hb3
 have hz2 : ((V).alloc (.cells #[.pointer (some ⟨kb, ko + kl.length * 5, none⟩)] 68)).heap.size = W.heap.size + 2 := by rw [World.size_alloc, hzA]
 rw [hzA] at hb2
 obtain ⟨W2, hW2⟩ : ∃ W2, V.alloc (.cells #[.pointer (some ⟨kb, ko + kl.length * 5, none⟩)] 68) = W2 := ⟨_, rfl⟩
 rw [hW2] at s2 hb2 hb3 hz2
 have e2 : V.alloc (.cells #[.pointer (some ⟨kb, ko + kl.length * 5, none⟩)] 68) = W2 := hW2
 rw [hW2]
 obtain ⟨hk2, hJ2, hm2⟩ := s2
 have hml : ∀ k, M W2 k → k < W.heap.size := fun k hk => hS.lt _ _ _ h0 (s1.2.2 k (s1d.2.2 k (hm2 k hk)))
 have hB2 : Below w00.heap.size w00 W2 := by rw [← hW2]; exact hBV.alloc (by omega) _
 refine range_M (F := Fence.wide) rfl (fun h => by simp [Fence.wide] at h) (gf := 80) (lb := #[.pointer (some ⟨W.heap.size + 1, 0, none⟩)]) rfl trivial (enters_of Tryz.func80 (by kernel_rfl) rfl)
  (hx (n - 1) w00 W2 kb (ko + kl.length * 5) (W.heap.size + 1) (by omega) (by omega) hB2 (by simp [World.cell?, hb2]) hLx) (Below.refl _ _) (by omega) (fun _ => rfl)
  (fun A i => M A i ∨ i = W.heap.size) (fun pre A => J pre A ∧ A.heap[W.heap.size]? = some (.cells #[.func (.yield l) #[] #[]] 138) ∧ ¬ M A W.heap.size) (hS.box _ _)
  (fun s A k hs hm => hm.elim (fun hm => hMlo s A k hs.1 hm) fun hm => by omega) (fun hm => hm.elim (fun hm => by have := hml _ hm; omega) fun hm => by omega) (by omega)
  ⟨hJ2, hb3, fun hm => by have := hml _ hm; omega⟩ ?round ?done
 case round =>
  intro l2 pre y Wr hl2 hnl ⟨hJ, hbx, hnb⟩ hlen K hK
  dsimp only [encN]
  gi_wp2
  have t1 := (hS.box W.heap.size (.cells #[.func (.yield l) #[] #[]] 138)).step (s := pre) ⟨hJ, hbx, hnb⟩ (KeepM.refl Wr) (World.grownBy_alloc Wr (.cells #[.string y.fst, .int .i64 y.snd] 64) none) (fun k e => by cases e)
  refine hK _ _ t1.1 t1.2.1 fun W4 ⟨hJ4, hbx4, hnb4⟩ hq4 hm4 hz4 => ?_
  have hx4 := (hq4 Wr.heap.size (by omega)).trans (World.alloc_heap_new Wr (.cells #[.string y.fst, .int .i64 y.snd] 64))
  have d0 : W4.cell? ⟨Wr.heap.size, 0, none⟩ = some (.string y.fst) := by simp [World.cell?, hx4]
  have d1 : W4.cell? ⟨Wr.heap.size, 1, none⟩ = some (.int .i64 y.snd) := by simp [World.cell?, hx4]
  have dy : W4.cell? ⟨W.heap.size, 0, none⟩ = some (.func (.yield l) #[] #[]) := by simp [World.cell?, hbx4]
  obtain ⟨fn, tmps, assign, body, hy, hR⟩ := YieldAt.anyDepth rfl (n - 1 - 1 - 1) (hY pre y W4 hJ4 hlen)
  dsimp only [encN] at hy
  gi_wp2
  refine ⟨fun h => by simp [Fence.wide] at h, hR.mono ?_⟩
  rintro e W5 ⟨rfl, hJ5, hk5⟩
  gi_wp2
  exact ⟨hk5.wide, hJ5, hk5.keep _ _ hbx4 hnb4, fun hm => (hk5.mt _ hm).elim hnb4 fun h2 => absurd (at_lt hbx4) (by omega)⟩
 case done =>
  rintro D ys W3 hD rfl ⟨hJ3, hbx3, hnb3⟩ hk3 hnd hK
  gi_wp2
  have hk4 : KeepM M W W3 := hk2.shrink (X := fun _ i => i = W.heap.size) hk3 fun i hi => by omega
  obtain ⟨hk5, hJ5, -⟩ := hS.step hJ3 hk4 (grownBy_putObj' W3 D (.deferred none)) (fun k e => by cases e; exact ⟨by omega, fun hm => hnd (.inl hm)⟩)
  refine ⟨by simp, .inl ⟨_, _, rfl, run_takeDeferred hK, ?_⟩⟩
  exact ⟨_, results_none rfl _ _ _, ⟨_, rfl⟩, _, rfl, hJ5, hk5⟩
end Go.Proofs.YtgpibpkplhlihaaGreatDoor
namespace Go.Proofs.YtgpibpkplhlihaaGreatDoor
open Go Go.RowKit Go.Proofs Go.Shelf
set_option linter.unusedVariables false
set_option linter.unusedSimpArgs false
attribute [local go_sem] Oper.semAt_some
structure Hid (p : Prop) : Prop where
 h : p
theorem infoName : (Tryz.prog.info? 64).map (fun i => (i.zero, i.size, i.bytes)) = some (some (.agg #[.string ⟨#[]⟩, .int .i64 0]), 2, 24) := by kernel_rfl
def cellsB (l : List BN) : List Value := l.flatMap fun x => [.string x.1, .int .i64 x.2]
theorem cellsB_app (l m : List BN) : cellsB (l ++ m) = cellsB l ++ cellsB m := by simp [cellsB]
def MG (B : Nat) (W : World) (k : Nat) : Prop := k = B ∨ ∃ v, Boxed W B 40 v ∧ v.ownBlock = some k
def Owned (base : Nat) (v : Value) (l : List BN) (W : World) : Prop := W.ownsRow base 64 2 v l.length (cellsB l)
theorem boxed_inj {W : World} {B : Nat} {t : TypeId} {v u : Value} (h : Boxed W B t v) (k : Boxed W B t u) : v = u := by
 have := (show W.heap[B]? = _ from h).symm.trans k
 simpa using this
theorem own_at {W : World} {base e size n : Nat} {v : Value} {xs : List Value} (h : W.ownsRow base e size v n xs) {k : Nat} (hk : v.ownBlock = some k) : base ≤ k ∧ k < W.heap.size := by
 rcases h.2 with ⟨rfl, _⟩ | ⟨g, cap, cur, rfl, hb, hg, _⟩
 ·cases hk
 ·simp only [Value.ownBlock, Option.some.injEq] at hk
  subst hk
  exact ⟨hb, at_lt hg⟩
theorem own_same {W W' : World} {base e size n : Nat} {v : Value} {xs : List Value} (h : W.ownsRow base e size v n xs) (hk : ∀ k, v.ownBlock = some k → W'.heap[k]? = W.heap[k]?) : W'.ownsRow base e size v n xs := by
 refine ⟨h.1, ?_⟩
 rcases h.2 with h2 | ⟨g, cap, cur, h1, h2, h3, h4⟩
 ·exact .inl h2
 ·exact .inr ⟨g, cap, cur, h1, h2, (hk g (by rw [h1]; rfl)).trans h3, h4⟩
theorem stabG (B base : Nat) (pre0 : List BN) : Stab (MG B) (fun (pre : List BN) W => ∃ v, Boxed W B 40 v ∧ Owned base v (pre0 ++ pre) W) where
 mv := fun s A C ⟨v, hv, ho⟩ hq => ⟨v, (hq B (.inl rfl)).trans hv, own_same ho fun k hk => hq k (.inr ⟨v, hv, hk⟩)⟩
 mt := fun s A C k ⟨v, hv, ho⟩ hq hm => hm.imp id fun ⟨u, hu, hk⟩ => ⟨u, (hq B (.inl rfl)).symm.trans hu, hk⟩
 lt := fun s A k ⟨v, hv, ho⟩ hm => hm.elim (fun e => e ▸ hv.lt) fun ⟨u, hu, hk⟩ => (own_at ho (boxed_inj hu hv ▸ hk)).2
theorem keepM_app {W w1 : World} {B base k m : Nat} {v v' : Value} {tmp : Obj} {xs ys : List Value} (hv : Boxed W B 40 v) (hrow : W.ownsRow base 64 2 v k xs) (hbl : base ≤ W.heap.size) (hB : base ≤ B) (hown' : w1.ownsRow base 64 2 v' m ys)
  (hgrow : (W.alloc tmp).grownBy w1 v.ownBlock) (hat : v'.ownBlock = v.ownBlock ∨ v'.ownBlock = some (W.heap.size + 1)) :
  KeepM (MG B) W (w1.setCell ⟨B, 0, none⟩ v') ∧ Boxed (w1.setCell ⟨B, 0, none⟩ v') B 40 v' ∧ (w1.setCell ⟨B, 0, none⟩ v').ownsRow base 64 2 v' m ys := by
 obtain ⟨a1, a2, a3, -, -⟩ := hv.appended (by decide) hrow hbl hB hown' hgrow
 have hg := grownBy_setCell' w1 B v'
 have hz : W.heap.size + 1 ≤ w1.heap.size := by have := hgrow.size; rwa [World.size_alloc] at this
 refine ⟨⟨hg.os.trans hgrow.os, hg.tape.trans hgrow.tape, hg.output.trans hgrow.output, by have := hg.size; omega, fun i o hi hn => ?_, fun i hm => ?_⟩, a2, a3⟩
 ·have hl := at_lt hi
  refine (hg.block i (by omega) fun e => hn (.inl (by simpa using e))).trans ((hgrow.block i (by rw [World.size_alloc]; omega) fun e => hn (.inr ⟨v, hv, e.symm⟩)).trans ?_)
  exact ((World.grownBy_alloc W tmp none).block i hl (by simp)).trans hi
 ·rcases hm with rfl | ⟨u, hu, hk⟩
  ·exact .inl (.inl rfl)
  ·obtain rfl := boxed_inj hu a2
   rcases hat with h | h
   ·exact .inl (.inr ⟨v, hv, by rw [← h]; exact hk⟩)
   ·rw [h] at hk
    cases hk
    exact .inr (by omega)
set_option maxHeartbeats 4000000 in
set_option maxRecDepth 1000000 in
theorem gathered_ok (n : Nat) (x : NT) (xs pre0 : List BN) (hx : NamesOk x xs) (v : Value) (w00 w : World) (pb po base : Nat) (hB : Below w00.heap.size w00 w) (hbase : w00.heap.size ≤ base) (hbw : base ≤ w.heap.size) (hL : LiesN w00 x pb po) (hown : Owned base v pre0 w) (hbd : pre0.length + xs.length ≤ 1000) :
  CallsIn Fence.wide n Tryz.prog 31 #[.pointer (some ⟨pb, po, none⟩), v] w fun e w' => ∃ v', e = .returned v' ∧ Owned base v' (pre0 ++ xs) w' ∧ Below base w w' := by
 have hlo : w00.heap.size ≤ w.heap.size := hB.size
 have hnil : v.oneCell' = true := by
  rcases hown.2 with ⟨rfl, _⟩ | ⟨g, cap, cur, rfl, _⟩ <;> rfl
 refine callsIn_of_wp_marks Tryz.func31 rfl trivial ?_ rfl
 simp only [Tryz.ntmps31, List.size_toArray, List.length_cons, List.length_nil, Nat.reduceAdd, Nat.reduceSub, Array.replicate_succ, Array.replicate_zero, List.push_toArray, List.append_toArray, List.nil_append, List.cons_append]
 gi_wp2_with (refine ⟨trivial, fun h => by simp [Fence.wide] at h, ?_⟩; gi_at_call 54; refine (callsIn_wide.2 (names_any _ _ rfl)).mono ?_; rintro e w' ⟨rfl, rfl⟩)
 have hv1 : Boxed (w.alloc (.cells #[v] 40)) w.heap.size 40 v := Boxed.new w _ v
 have hv2 := hv1.alloc (.cells #[.pointer (some ⟨pb, po, none⟩)] 68)
 have ho2 := (World.ownsRow.alloc (World.ownsRow.alloc hown (.cells #[v] 40)) (.cells #[.pointer (some ⟨pb, po, none⟩)] 68))
 have hb2 := World.alloc_heap_new (w.alloc (.cells #[v] 40)) (.cells #[.pointer (some ⟨pb, po, none⟩)] 68)
 rw [World.size_alloc] at hb2
 have hz2 : ((w.alloc (.cells #[v] 40)).alloc (.cells #[.pointer (some ⟨pb, po, none⟩)] 68)).heap.size = w.heap.size + 2 := by simp
 have hB2 : Below w.heap.size w ((w.alloc (.cells #[v] 40)).alloc (.cells #[.pointer (some ⟨pb, po, none⟩)] 68)) := ((Below.refl _ w).alloc (Nat.le_refl _) _).alloc (by simp) _
 obtain ⟨W2, hW2⟩ : ∃ W2, (w.alloc (.cells #[v] 40)).alloc (.cells #[.pointer (some ⟨pb, po, none⟩)] 68) = W2 := ⟨_, rfl⟩
 rw [hW2] at hv2 ho2 hb2 hz2 hB2 ⊢
 have hB3 : Below w00.heap.size w00 W2 := hB.trans (hB2.mono hlo)
 have hMl : ∀ k, MG w.heap.size W2 k → base ≤ k ∧ k ≠ w.heap.size + 1 := fun k hm => hm.elim (fun e => by omega) fun ⟨u, hu, hk⟩ => by
  obtain rfl := boxed_inj hu hv2
  have h1 := (own_at ho2 hk).1
  have h2 := (own_at hown hk).2
  omega
 obtain ⟨i0, hi0, q0, q1, q2⟩ := info_parts infoName
 refine range_M (F := Fence.wide) rfl (fun h => by simp [Fence.wide] at h) (gf := 80) (lb := #[.pointer (some ⟨w.heap.size + 1, 0, none⟩)]) rfl trivial (enters_of Tryz.func80 (by kernel_rfl) rfl)
  (hx (n - 1) w00 W2 pb po (w.heap.size + 1) (by omega) (by omega) hB3 (by simp [World.cell?, hb2]) hL) (Below.refl _ _) (by omega) (fun _ => rfl)
  (MG w.heap.size) _ (stabG w.heap.size base pre0)
  (fun s A k ⟨u, hu, ho⟩ hm => hm.elim (fun e => by omega) fun ⟨u', hu', hk⟩ => by
   obtain rfl := boxed_inj hu hu'
   have := (own_at ho hk).1
   omega) (fun hm => (hMl _ hm).2 rfl) (by omega)
  ⟨v, hv2, by rw [List.append_nil]; exact ho2⟩ ?round ?done
 case round =>
  intro l2 pre y Wr hl2 hnl ⟨u, hu, hou⟩ hlen K hK
  dsimp only [encN]
  gi_wp2
  have t1 := (stabG w.heap.size base pre0).step (s := pre) ⟨u, hu, hou⟩ (KeepM.refl Wr) (World.grownBy_alloc Wr (.cells #[.string y.fst, .int .i64 y.snd] 64) none) (fun k e => by cases e)
  refine hK _ _ t1.1 t1.2.1 fun W4 ⟨u4, hu4, ho4⟩ hq4 hm4 hz4 => ?_
  have hx4 := (hq4 Wr.heap.size (by omega)).trans (World.alloc_heap_new Wr (.cells #[.string y.fst, .int .i64 y.snd] 64))
  have d0 : W4.cell? ⟨Wr.heap.size, 0, none⟩ = some (.string y.fst) := by simp [World.cell?, hx4]
  have d1 : W4.cell? ⟨Wr.heap.size, 1, none⟩ = some (.int .i64 y.snd) := by simp [World.cell?, hx4]
  have hvc := hu4.cell
  have hvf := hu4.frozen
  have hwl := hu4.lt
  have hbase4 : base ≤ W4.heap.size := by omega
  have hxl := at_lt hx4
  clear hz4
  obtain ⟨k, hk⟩ : ∃ k, Hid (k = (pre0 ++ pre).length) := ⟨_, ⟨rfl⟩⟩
  have ho4k : W4.ownsRow base 64 2 u4 k (cellsB (pre0 ++ pre)) := by rw [hk.h]; exact ho4
  have hkl : k ≤ 1000 := by rw [hk.h, List.length_append]; omega
  gi_wp2_with (gi_at_builtin; refine wpListIn_append_own_at _ rfl _ _ _ rfl base 64 i0 _ 2 24 Tryz.underlying40 hi0 q0 q1 q2 rfl (by decide) u4 k (cellsB (pre0 ++ pre)) rfl (World.ownsRow.alloc ho4k _) ⟨W4.heap.size, 0, none⟩ 1 1 [.string y.fst, .int .i64 y.snd] rfl rfl (World.news_of_block (cs := #[.string y.fst, .int .i64 y.snd]) (t := 64) (fr := (0, 0)) (World.alloc_heap_new W4 _)) (by simp [Value.oneCell']) (by have : maxLen = 9223372036854775807 := rfl; omega) (by omega) (by rw [World.size_alloc]; omega) ?_; intro v' w1 hown' hgrow _ hat; obtain ⟨g', cap', rfl⟩ := ownsRow_succ hown'; obtain ⟨r1, r2, r3⟩ := keepM_app hu4 ho4k hbase4 hbw hown' hgrow (by rw [World.size_alloc] at hat; exact hat); have hv1' : Boxed w1 w.heap.size 40 u4 := (hu4.alloc _).kept hgrow (hu4.not_row (by decide) ho4k); have hc1 := hv1'.cell; have hf1 := hv1'.frozen)
  have hlen2 : k + 1 = (pre0 ++ (pre ++ [y])).length   := by rw [hk.h]; simp only [List.length_append, List.length_singleton]; omega
  have hc2 : cellsB (pre0 ++ pre) ++ [.string y.fst, .int .i64 y.snd] = cellsB (pre0 ++ (pre ++ [y])) := by rw [← List.append_assoc, cellsB_app (pre0 ++ pre)]; rfl
  refine ⟨r1, _, r2, ?_⟩
  unfold Owned
  rw [← hlen2, ← hc2]
  exact r3
 case done =>
  rintro D ys W3 hD rfl ⟨u, hu, hou⟩ hk3 hnd hK
  have hvc := hu.cell
  have hvf := hu.frozen
  gi_wp2
  have hbel : Below base w W3 := (hB2.mono hbw).trans (hk3.below (fun k hm => (hMl k hm).1) (by omega))
  refine ⟨by simp, .inl ⟨_, _, rfl, run_takeDeferred hK, ?_⟩⟩
  exact ⟨_, results_tmp rfl _ _ _, u, rfl, own_same hou fun k hk => World.putObj_heap_other fun e => hnd (.inr ⟨u, hu, e ▸ hk⟩), hbel.grown (grownBy_putObj' W3 D (.deferred none)) (by have := hbel.size; omega) (fun k e => by cases e; omega)⟩
end Go.Proofs.YtgpibpkplhlihaaGreatDoor
namespace Go.Proofs.YtgpibpkplhlihaaGreatDoor
open Go Go.RowKit Go.Proofs Go.Shelf
set_option linter.unusedVariables false
set_option linter.unusedSimpArgs false
attribute [local go_sem] Oper.semAt_some
def VarsOk (x : NT) (xs : List BN) : Prop := ∀ (n : Nat) (w00 w : World) (pb po base : Nat) (v : Value) (pre0 : List BN), Below w00.heap.size w00 w → w00.heap.size ≤ base → base ≤ w.heap.size → LiesN w00 x pb po → Owned base v pre0 w → pre0.length + xs.length ≤ 1000 →
 CallsIn Fence.wide n Tryz.prog 33 #[.pointer (some ⟨pb, po, none⟩), v] w fun e w' => ∃ v', e = .returned v' ∧ Owned base v' (pre0 ++ xs) w' ∧ Below base w w'
def PartsV (l : List NT) (xs : List BN) : Prop := ∃ yss : List (List BN), yss.length = l.length ∧ xs = yss.flatten ∧ ∀ (i : Nat) (x : NT) (ys : List BN), l[i]? = some x → yss[i]? = some ys → VarsOk x ys
def intV : Value → Int
 | .int _ n => n
 | _ => 0
theorem flatV_take {yss : List (List BN)} {i : Nat} {ys : List BN} (h : yss[i]? = some ys) : (yss.take (i + 1)).flatten = (yss.take i).flatten ++ ys := by
 rw [List.take_add_one, h]
 simp
theorem flatV_len {yss : List (List BN)} {i : Nat} {ys : List BN} (h : yss[i]? = some ys) : (yss.take i).flatten.length + ys.length ≤ yss.flatten.length := by
 have h1 : yss.flatten.length = (yss.take (i + 1)).flatten.length + (yss.drop (i + 1)).flatten.length := by
  rw [← List.length_append, ← List.flatten_append, List.take_append_drop]
 rw [h1, flatV_take h, List.length_append]
 omega
set_option maxHeartbeats 4000000 in
set_option maxRecDepth 1000000 in
theorem vars_let (f : Int) (kids : List NT) : VarsOk (.node 60 ⟨#[108, 101, 116]⟩ f kids) [] := by
 intro n w00 w pb po base v pre0 hB hb1 hb2 hL hown hbd
 have hL2 := hL
 rw [LiesN] at hL
 obtain ⟨l0, l1, l2, ⟨ka, kcap, l3, hlen, hLL⟩, l4⟩ := hL
 have hpb : pb < w.heap.size := by have := hB.size; omega
 have c0 := (hB.cell (p := ⟨pb, po, none⟩) l0).trans l1
 have c1 := (hB.cell (p := ⟨pb, po + 1, none⟩) l0).trans l2
 refine callsIn_of_wp Tryz.func33 rfl trivial ?_ rfl
 simp only [Tryz.ntmps33, List.size_toArray, List.length_cons, List.length_nil, Nat.reduceAdd, Nat.reduceSub, Array.replicate_succ, Array.replicate_zero, List.push_toArray, List.append_toArray, List.nil_append, List.cons_append]
 gi_wp2
 refine bodyPost_ret (results_tmp rfl _ _ _) rfl ?_
 exact ⟨_, rfl, by rw [List.append_nil]; exact hown, Below.refl _ _⟩
set_option maxHeartbeats 4000000 in
set_option maxRecDepth 1000000 in
theorem Vars_ok (n : Nat) (w00 w : World) (kids : List NT) (xs : List BN) (ka : Option Addr) (kcap : Nat) (hp : PartsV kids xs) (hB : Below w00.heap.size w00 w) (hL : LiesNL w00 kids ka 0) (hlen : kids.length ≤ 1000) (hbd : xs.length ≤ 1000) :
  CallsIn Fence.wide n Tryz.prog 16 #[.slice ka kids.length kcap] w fun e w' => ∃ v', e = .returned v' ∧ Owned w.heap.size v' xs w' ∧ Below w.heap.size w w' := by
 obtain ⟨yss, hyl, rfl, hV⟩ := hp
 have hb1 : w00.heap.size ≤ w.heap.size := hB.size
 refine callsIn_of_wp Tryz.func16 rfl trivial ?_ rfl
 simp only [Tryz.ntmps16, List.size_toArray, List.length_cons, List.length_nil, Nat.reduceAdd, Nat.reduceSub, Array.replicate_succ, Array.replicate_zero, List.push_toArray, List.append_toArray, List.nil_append, List.cons_append]
 gi_wp2
 gi_loopw [3, 7] (fun u i wr => ∃ j : Nat, j ≤ kids.length ∧ i = .int .i64 (j : Int) ∧ Owned w.heap.size u (yss.take j).flatten wr ∧ Below w.heap.size w wr) (fun u i _ => (kids.length - (intV i).toNat))
 case atStart => exact ⟨0, Nat.zero_le _, rfl, ⟨rfl, .inl ⟨rfl, rfl⟩⟩, Below.refl _ _⟩
 case round =>
  obtain ⟨j, hj, rfl, ho, hb⟩ := hrel
  have hBr : Below w00.heap.size w00 wr := hB.trans (hb.mono hb1)
  rcases Nat.lt_or_ge j kids.length with hi | hi
  ·have g1 : (j : Int) < (kids.length : Int) := by omega
   have g2 : (0 : Int) ≤ (j : Int) := by omega
   have g4 : (j : Int).toNat = j := by omega
   have g3 : IntKind.i64.wrap ((j : Int) + 1) = (j : Int) + 1 := IntWalk.i64_in _ (by omega)
   obtain ⟨x, hx⟩ : ∃ x, kids[j]? = some x := ⟨_, List.getElem?_eq_getElem hi⟩
   obtain ⟨ys, hys⟩ : ∃ ys, yss[j]? = some ys := ⟨_, List.getElem?_eq_getElem (by omega)⟩
   obtain ⟨kb, ko, rfl, hLx⟩ := liesNL_at hL hx
   rw [Nat.zero_add] at hLx
   gi_wp2_with (refine ⟨trivial, fun h => by simp [Fence.wide] at h, ?_⟩; gi_at_call 33; refine (hV j x ys hx hys (n - 1) w00 wr kb (ko + j * 5) w.heap.size _ (yss.take j).flatten hBr hb1 (by have := hb.size; omega) hLx ho (by have := flatV_len hys; omega)).mono ?_; rintro e w' ⟨v', rfl, ho', hb'⟩)
   exact ⟨⟨j + 1, hi, rfl, by rw [flatV_take hys]; exact ho', hb.trans hb'⟩, by simp only [intV]; omega⟩
  ·have g1 : ¬ (j : Int) < (kids.length : Int) := by omega
   gi_wp2
   rw [List.take_of_length_le (by omega)] at ho
   refine bodyPost_ret (results_tmp rfl _ _ _) rfl ?_
   exact ⟨_, rfl, ho, hb⟩
end Go.Proofs.YtgpibpkplhlihaaGreatDoor
namespace Go.Proofs.YtgpibpkplhlihaaGreatDoor
open Go Go.RowKit Go.Proofs Go.Shelf
set_option linter.unusedVariables false
set_option linter.unusedSimpArgs false
theorem cellsB_at : ∀ {L : List BN} {j : Nat} {x : BN}, L[j]? = some x → (cellsB L)[j * 2]? = some (.string x.1) ∧ (cellsB L)[j * 2 + 1]? = some (.int .i64 x.2)
 | y :: L, 0, x, h => by cases h; exact ⟨rfl, rfl⟩
 | y :: L, j + 1, x, h => by
  have := cellsB_at (L := L) (j := j) (x := x) h
  have e : cellsB (y :: L) = .string y.1 :: .int .i64 y.2 :: cellsB L := rfl
  rw [e, show (j + 1) * 2 = j * 2 + 1 + 1 by omega]
  exact this
theorem own_shape {base : Nat} {v : Value} {L : List BN} {w : World} (h : Owned base v L w) : ∃ a cap, v = .slice a L.length cap ∧ ∀ j x, L[j]? = some x → ∃ g, a = some ⟨g, 0, none⟩ ∧ w.cell? ⟨g, j * 2, none⟩ = some (.string x.1) ∧ w.cell? ⟨g, j * 2 + 1, none⟩ = some (.int .i64 x.2) := by
 rcases h.2 with ⟨rfl, h0⟩ | ⟨g, cap, cur, rfl, hb, hg, h1, h2, h3, h4⟩
 ·exact ⟨none, 0, by rw [h0], fun j x hx => by
   have := (List.getElem?_eq_some_iff.1 hx).1
   omega⟩
 ·refine ⟨some ⟨g, 0, none⟩, cap, rfl, fun j x hx => ⟨g, rfl, ?_⟩⟩
  have hj := (List.getElem?_eq_some_iff.1 hx).1
  have key : ∀ (i : Nat) (z : Value), i < L.length * 2 → (cellsB L)[i]? = some z → w.cell? ⟨g, i, none⟩ = some z := by
   intro i z hi hz
   simp only [World.cell?, hg]
   have : (cur.toList.take (L.length * 2))[i]? = some z := by rw [h4]; exact hz
   rw [List.getElem?_take, if_pos hi] at this
   simpa using this
  obtain ⟨e1, e2⟩ := cellsB_at hx
  exact ⟨key _ _ (by omega) e1, key _ _ (by omega) e2⟩
def intD : Value → Int
 | .int _ n => n
 | _ => 0
set_option maxHeartbeats 4000000 in
set_option maxRecDepth 1000000 in
theorem named_ok (w : World) (base : Nat) (v : Value) (L : List BN) (a : Option Addr) (cap : Nat) (hown : Owned base v L w) (hw : ∀ j x, L[j]? = some x → ∃ b off, a = some ⟨b, off, none⟩ ∧ w.cell? ⟨b, off + j, none⟩ = some (.string x.1))
  (hinc : ∀ j x y, L[j]? = some x → L[j + 1]? = some y → x.2 < y.2) (hlen : L.length ≤ 1000) :
  Calls Tryz.prog 13 #[v, .slice a L.length cap] w fun e w' => e = .returned (.bool true) ∧ ∃ q, w' = w.drewN q := by
 obtain ⟨b, cb, rfl, hB⟩ := own_shape hown
 go_enter Tryz.func13, Tryz.ntmps13
 go_wp2
 go_loopw [5] (fun i wr => ∃ j q : Nat, j ≤ L.length ∧ i = .int .i64 (j : Int) ∧ wr = w.drewN q) (fun i _ => (L.length - (intD i).toNat))
 case atStart => exact ⟨0, 0, Nat.zero_le _, rfl, rfl⟩
 case round =>
  obtain ⟨j, q, hj, rfl, rfl⟩ := hrel
  rcases Nat.lt_or_ge j L.length with hi | hi
  ·have g1 : (j : Int) < (L.length : Int) := by omega
   have g2 : (0 : Int) ≤ (j : Int) := by omega
   have g4 : (j : Int).toNat = j := by omega
   have g3 : IntKind.i64.wrap ((j : Int) + 1) = (j : Int) + 1 := IntWalk.i64_in _ (by omega)
   obtain ⟨x, hx⟩ : ∃ x, L[j]? = some x := ⟨_, List.getElem?_eq_getElem hi⟩
   obtain ⟨g, rfl, c0, c1⟩ := hB j x hx
   obtain ⟨wb, wo, rfl, cw⟩ := hw j x hx
   cases j with
   | zero =>
    simp only [Nat.zero_mul, Nat.zero_add, Nat.add_zero] at c0 c1 cw
    go_wp2
    go_quiet (fail)
    go_wp2
    exact ⟨⟨1, q + nq, by omega, rfl, rfl⟩, by simp only [intD]; omega⟩
   | succ i =>
    obtain ⟨y, hy⟩ : ∃ y, L[i]? = some y := ⟨_, List.getElem?_eq_getElem (by omega)⟩
    obtain ⟨g', e', d0, d1⟩ := hB i y hy
    cases e'
    have hlt := hinc i y x hy hx
    have k1 : (0 : Int) < ((i + 1 : Nat) : Int) := by omega
    have k2 : IntKind.i64.wrap (((i + 1 : Nat) : Int) - 1) = (i : Int) := by rw [show ((i + 1 : Nat) : Int) - 1 = (i : Int) by omega]; exact IntWalk.i64_in _ (by omega)
    have k3 : ¬ (x.2 ≤ y.2) := by omega
    go_wp2
    go_quiet (fail)
    go_wp2
    exact ⟨⟨i + 2, q + nq, by omega, rfl, rfl⟩, by simp only [intD]; omega⟩
  ·have g1 : ¬ (j : Int) < (L.length : Int) := by omega
   go_wp2
   go_ret
   exact ⟨rfl, q, rfl⟩
end Go.Proofs.YtgpibpkplhlihaaGreatDoor
namespace Go.Proofs.YtgpibpkplhlihaaGreatDoor
open Go Go.RowKit Go.Proofs Go.Shelf
set_option linter.unusedVariables false
set_option linter.unusedSimpArgs false
attribute [local go_sem] Oper.semAt_some
mutual
theorem liesN_below {w w' : World} (hk : Below w.heap.size w w') : ∀ (t : NT) (b off : Nat), LiesN w t b off → LiesN w' t b off
 | .node k t f l, b, off, h => by
  rw [LiesN] at h ⊢
  obtain ⟨h0, h1, h2, ⟨a, cap, h3, h4, h5⟩, h6⟩ := h
  exact ⟨Nat.lt_of_lt_of_le h0 hk.size, (hk.cell (p := ⟨b, off, none⟩) h0).trans h1, (hk.cell (p := ⟨b, off + 1, none⟩) h0).trans h2, ⟨a, cap, (hk.cell (p := ⟨b, off + 2, none⟩) h0).trans h3, h4, liesNL_below hk l a 0 h5⟩, (hk.cell (p := ⟨b, off + 3, none⟩) h0).trans h6⟩
theorem liesNL_below {w w' : World} (hk : Below w.heap.size w w') : ∀ (l : List NT) (a : Option Addr) (i : Nat), LiesNL w l a i → LiesNL w' l a i
 | [], _, _, _ => trivial
 | t :: ts, a, i, h => by
  rw [LiesNL] at h ⊢
  obtain ⟨⟨b, off, e, h1⟩, h2⟩ := h
  exact ⟨⟨b, off, e, liesN_below hk t b _ h1⟩, liesNL_below hk ts a (i + 1) h2⟩
end
set_option maxHeartbeats 4000000 in
set_option maxRecDepth 1000000 in
theorem names_hole (t : ByteArray) (f : Int) (kl : List NT) : NamesOk (.node 0 t f kl) [] := by
 intro n w00 w pb po c hc1 hc2 hB hcell hL l M J W hBW hS hMc hMlo hY h0
 rw [LiesN] at hL
 obtain ⟨l0, l1, l2, -, l4⟩ := hL
 have hcW : W.cell? ⟨c, 0, none⟩ = some (.pointer (some ⟨pb, po, none⟩)) := (hBW.cell (p := ⟨c, 0, none⟩) hc2).trans hcell
 have hB0 : Below w00.heap.size w00 W := hB.trans (hBW.mono (by omega))
 have hpb : pb < W.heap.size := by have := hB0.size; omega
 have hcl : c < W.heap.size := by have := hBW.size; omega
 have c0 := (hB0.cell (p := ⟨pb, po, none⟩) l0).trans l1
 have s1 := hS.step h0 (KeepM.refl W) (World.grownBy_alloc W (.cells #[.func (.yield l) #[] #[]] 138) none) (fun k e => by cases e)
 refine callsIn_of_wp Tryz.func80 rfl trivial ?_ rfl
 simp only [Tryz.ntmps80, List.size_toArray, List.length_cons, List.length_nil, Nat.reduceAdd, Nat.reduceSub, Array.replicate_succ, Array.replicate_zero, List.push_toArray, List.append_toArray, List.nil_append, List.cons_append]
 gi_wp2
 refine bodyPost_ret (results_none rfl _ _ _) rfl ?_
 exact ⟨⟨_, rfl⟩, _, rfl, s1.2.1, s1.1⟩
set_option maxHeartbeats 4000000 in
set_option maxRecDepth 1000000 in
theorem Bound_ok (n : Nat) (w : World) (k : Int) (t : ByteArray) (f o : Int) (a : Option Addr) (cap : Nat) (l : List NT) (xs : List BN) (hx : NamesOk (.node k t f l) xs) (hL : LiesNL w l a 0) (hlen : l.length ≤ 1000) (hbd : xs.length ≤ 1000) :
  CallsIn Fence.wide n Tryz.prog 14 #[.agg #[.int .i64 k, .string t, .slice a l.length cap, .int .i64 f, .int .i64 o]] w fun e w' => ∃ v', e = .returned v' ∧ Owned w.heap.size v' xs w' ∧ Below w.heap.size w w' := by
 obtain ⟨W, hW⟩ : ∃ W, w.alloc (.cells #[.int .i64 k, .string t, .slice a l.length cap, .int .i64 f, .int .i64 o] 28) = W := ⟨_, rfl⟩
 have hz : W.heap.size = w.heap.size + 1 := by rw [← hW, World.size_alloc]
 have hg := World.grownBy_alloc w (.cells #[.int .i64 k, .string t, .slice a l.length cap, .int .i64 f, .int .i64 o] 28) none
 rw [hW] at hg
 have hbW : Below w.heap.size w W := by rw [← hW]; exact (Below.refl _ _).alloc (Nat.le_refl _) _
 have hnew := World.alloc_heap_new w (.cells #[.int .i64 k, .string t, .slice a l.length cap, .int .i64 f, .int .i64 o] 28)
 rw [hW] at hnew
 have hLW : LiesN W (.node k t f l) w.heap.size 0 := by
  rw [LiesN]
  exact ⟨by omega, by simp [World.cell?, hnew], by simp [World.cell?, hnew], ⟨a, cap, by simp [World.cell?, hnew], hlen, liesNL_below hbW l a 0 hL⟩, by simp [World.cell?, hnew]⟩
 refine callsIn_of_wp Tryz.func14 rfl trivial ?_ rfl
 simp only [Tryz.ntmps14, List.size_toArray, List.length_cons, List.length_nil, Nat.reduceAdd, Nat.reduceSub, Array.replicate_succ, Array.replicate_zero, List.push_toArray, List.append_toArray, List.nil_append, List.cons_append]
 gi_wp2_with (refine ⟨trivial, fun h => by simp [Fence.wide] at h, ?_⟩; gi_at_call 31; refine (gathered_ok (n - 1) _ xs [] hx _ W W w.heap.size 0 W.heap.size (Below.refl _ _) (Nat.le_refl _) (Nat.le_refl _) hLW ⟨rfl, .inl ⟨rfl, rfl⟩⟩ (by simpa using hbd)).mono ?_; rintro e w' ⟨v', rfl, ho', hb'⟩)
 refine bodyPost_ret (results_tmp rfl _ _ _) rfl ?_
 refine ⟨_, rfl, ⟨ho'.1, ho'.2.imp id fun ⟨g, cp, cur, e, h1, h2⟩ => ⟨g, cp, cur, e, by omega, h2⟩⟩, hbW.trans (hb'.mono (by omega))⟩
def PartsB (l : List NT) (xs : List BN) : Prop := ∃ yss : List (List BN), yss.length = l.length ∧ xs = yss.flatten ∧ ∀ (i : Nat) (x : NT) (ys : List BN), l[i]? = some x → yss[i]? = some ys → NamesOk x ys ∧ ∃ f kl, x = .node 60 ⟨#[108, 101, 116]⟩ f kl
set_option maxHeartbeats 4000000 in
set_option maxRecDepth 1000000 in
theorem exported_let (n : Nat) (w00 w : World) (hB : Below w00.heap.size w00 w) (f : Int) (kl : List NT) (pb po : Nat) (hL : LiesN w00 (.node 60 ⟨#[108, 101, 116]⟩ f kl) pb po) :
  CallsIn Fence.wide n Tryz.prog 32 #[.pointer (some ⟨pb, po, none⟩)] w fun e w' => e = .returned (.pointer (some ⟨pb, po, none⟩)) ∧ w' = w := by
 rw [LiesN] at hL
 obtain ⟨l0, l1, -, -, -⟩ := hL
 have hpb : pb < w.heap.size := by have := hB.size; omega
 have c0 := (hB.cell (p := ⟨pb, po, none⟩) l0).trans l1
 refine callsIn_of_wp Tryz.func32 rfl trivial ?_ rfl
 simp only [Tryz.ntmps32, List.size_toArray, List.length_cons, List.length_nil, Nat.reduceAdd, Nat.reduceSub, Array.replicate_succ, Array.replicate_zero, List.push_toArray, List.append_toArray, List.nil_append, List.cons_append]
 gi_wp2
 refine bodyPost_ret (results_tmp rfl _ _ _) rfl ?_
 exact ⟨rfl, rfl⟩
set_option maxHeartbeats 4000000 in
set_option maxRecDepth 1000000 in
theorem Lexical_ok (n : Nat) (w00 w : World) (kids : List NT) (xs : List BN) (ka : Option Addr) (kcap : Nat) (hp : PartsB kids xs) (hB : Below w00.heap.size w00 w) (hL : LiesNL w00 kids ka 0) (hlen : kids.length ≤ 1000) (hbd : xs.length ≤ 1000) :
  CallsIn Fence.wide n Tryz.prog 15 #[.slice ka kids.length kcap] w fun e w' => ∃ v', e = .returned v' ∧ Owned w.heap.size v' xs w' ∧ Below w.heap.size w w' := by
 obtain ⟨yss, hyl, rfl, hV⟩ := hp
 have hb1 : w00.heap.size ≤ w.heap.size := hB.size
 refine callsIn_of_wp Tryz.func15 rfl trivial ?_ rfl
 simp only [Tryz.ntmps15, List.size_toArray, List.length_cons, List.length_nil, Nat.reduceAdd, Nat.reduceSub, Array.replicate_succ, Array.replicate_zero, List.push_toArray, List.append_toArray, List.nil_append, List.cons_append]
 gi_wp2
 gi_loopw [3, 8] (fun u i wr => ∃ j : Nat, j ≤ kids.length ∧ i = .int .i64 (j : Int) ∧ Owned w.heap.size u (yss.take j).flatten wr ∧ Below w.heap.size w wr) (fun u i _ => (kids.length - (intV i).toNat))
 case atStart => exact ⟨0, Nat.zero_le _, rfl, ⟨rfl, .inl ⟨rfl, rfl⟩⟩, Below.refl _ _⟩
 case round =>
  obtain ⟨j, hj, rfl, ho, hb⟩ := hrel
  have hBr : Below w00.heap.size w00 wr := hB.trans (hb.mono hb1)
  rcases Nat.lt_or_ge j kids.length with hi | hi
  ·have g1 : (j : Int) < (kids.length : Int) := by omega
   have g2 : (0 : Int) ≤ (j : Int) := by omega
   have g4 : (j : Int).toNat = j := by omega
   have g3 : IntKind.i64.wrap ((j : Int) + 1) = (j : Int) + 1 := IntWalk.i64_in _ (by omega)
   obtain ⟨x, hx⟩ : ∃ x, kids[j]? = some x := ⟨_, List.getElem?_eq_getElem hi⟩
   obtain ⟨ys, hys⟩ : ∃ ys, yss[j]? = some ys := ⟨_, List.getElem?_eq_getElem (by omega)⟩
   obtain ⟨kb, ko, rfl, hLx⟩ := liesNL_at hL hx
   rw [Nat.zero_add] at hLx
   obtain ⟨hNx, fx, kx, rfl⟩ := hV j x ys hx hys
   have hLx' := hLx
   rw [LiesN] at hLx'
   obtain ⟨m0, m1, m2, -, -⟩ := hLx'
   have hkb : kb < wr.heap.size := by have := hBr.size; omega
   have c0 := (hBr.cell (p := ⟨kb, ko + j * 5, none⟩) m0).trans m1
   have c1 := (hBr.cell (p := ⟨kb, ko + j * 5 + 1, none⟩) m0).trans m2
   gi_wp2_with (first
    | (refine ⟨trivial, fun h => by simp [Fence.wide] at h, ?_⟩; gi_at_call 32; refine (exported_let (n - 1) w00 wr hBr fx kx kb (ko + j * 5) hLx).mono ?_; rintro e w' ⟨rfl, rfl⟩)
    | (refine ⟨trivial, fun h => by simp [Fence.wide] at h, ?_⟩; gi_at_call 31; refine (gathered_ok (n - 1) _ ys _ hNx _ w00 _ kb (ko + j * 5) w.heap.size hBr hb1 (by have := hb.size; omega) hLx ho (by have := flatV_len hys; omega)).mono ?_; rintro e w' ⟨v', rfl, ho', hb'⟩))
   exact ⟨⟨j + 1, hi, rfl, by rw [flatV_take hys]; exact ho', hb.trans hb'⟩, by simp only [intV]; omega⟩
  ·have g1 : ¬ (j : Int) < (kids.length : Int) := by omega
   gi_wp2
   rw [List.take_of_length_le (by omega)] at ho
   refine bodyPost_ret (results_tmp rfl _ _ _) rfl ?_
   exact ⟨_, rfl, ho, hb⟩
end Go.Proofs.YtgpibpkplhlihaaGreatDoor
