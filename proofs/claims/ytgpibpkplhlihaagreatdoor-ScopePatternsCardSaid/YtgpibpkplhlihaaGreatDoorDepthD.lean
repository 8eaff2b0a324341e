/- A range over an iterator that keeps a state of its own in cells, whose rounds write the caller's boxes alone and never leave. No condition. · The iterator over a tree's nodes: its contract at any real tree of 4,194,304 nodes, 8000 deep, at most. · How many nodes a tree has and how deep it is: the program's measure at any real tree of 4,194,304 nodes, 8000 deep, at most. · How deep a tree is: the program's Depth at any real tree of 4,194,304 nodes, 8000 deep, at most. -/
import Derived.RangeFuncNested
import Derived.RangeFuncBound
import Derived.RangeFuncCalls
import Derived.RangeFuncLeaves
import Derived.RangeFuncWrites
import Derived.Test.YtgpibpkplhlihaaGreatDoorLeft
import Derived.Shelf.Abstract
import Derived.Shelf.RegionOpen
import Derived.WalkKit
import Derived.OwnWalkIn
import Derived.TacticsInMore
import Derived.LoopNIn
import Derived.LoopIn
import Derived.Deep.QuietTactic
import Derived.BigQuiet
import Derived.IntWalk
import Derived.Deep.RegionHeld3
import Derived.Deep.AppendLies
import Derived.WalkSpells
import Derived.StillTactics
import Derived.OwnWalk
import Derived.Laws.Pointers
import Derived.KernelRfl
namespace Go.Proofs.YtgpibpkplhlihaaGreatDoor
open Go Go.RowKit Go.Proofs
variable {F : Fence} {n : Nat} {P : Program}
structure RoundK (lo hi : Nat) (A B : World) : Prop where
 below : Below lo A B
 cells : ∀ k o, hi ≤ k → A.heap[k]? = some o → o.isCells = true → B.heap[k]? = some o
theorem RoundK.trans {lo hi : Nat} {A B C : World} (h : RoundK lo hi A B) (k : RoundK lo hi B C) : RoundK lo hi A C :=
 ⟨h.below.trans k.below, fun i o hi ho hc => k.cells i o hi (h.cells i o hi ho hc) hc⟩
structure BodyK (lo hi : Nat) (A B : World) : Prop where
 below : Below lo A B
 above : ∀ k o, hi ≤ k → A.heap[k]? = some o → B.heap[k]? = some o
theorem BodyK.round {lo hi : Nat} {A B : World} (h : BodyK lo hi A B) : RoundK lo hi A B := ⟨h.below, fun k o hk ho _ => h.above k o hk ho⟩
theorem roundK_put {lo hi : Nat} {W : World} {l : Nat} {o o' : Obj} (hl : lo ≤ l) (h : W.heap[l]? = some o) (hc : o.isCells = false) : RoundK lo hi W (W.putObj l o') := by
 refine ⟨(Below.refl lo W).grown (grownBy_putObj' W l o') ?_ (fun k e => by cases e; exact hl), ?_⟩
 ·exact Nat.le_of_lt (Nat.lt_of_le_of_lt hl (Array.getElem?_eq_some_iff.1 h).1)
 ·intro k o2 _ hk hc2
  by_cases e : k = l
  ·subst e
   rw [h] at hk; cases hk
   rw [hc] at hc2; cases hc2
  ·exact (World.putObj_heap_other (fun e2 => e (by omega))).trans hk
theorem below_put {B : Nat} {W : World} {l : Nat} {o o' : Obj} (hl : B ≤ l) (h : W.heap[l]? = some o) : Below B W (W.putObj l o') :=
 (Below.refl B W).grown (grownBy_putObj' W l o') (Nat.le_of_lt (Nat.lt_of_le_of_lt hl (Array.getElem?_eq_some_iff.1 h).1)) (fun k e => by cases e; exact hl)
def SeqAll {α : Type} (F : Fence) (n : Nat) (P : Program) (g : Nat) (lb : Array Value) (encs : α → Array Value) (lo hi : Nat) (S : List α → Prop) (N : Nat) (w : World) : Prop :=
 ∀ (l : Nat) (J : List α → World → Prop) (W : World), Below w.heap.size w W → (∀ s A B, J s A → Below W.heap.size A B → J s B) →
  (∀ pre x W1, J pre W1 → pre.length < N → YieldAt F (n - 1) P l (encs x) W1 fun e W' => e = .returned (.bool true) ∧ J (pre ++ [x]) W' ∧ RoundK lo hi W1 W') →
  J [] W →
  CallsIn F n P g (#[.func (.yield l) #[] #[]] ++ lb) W fun e W' => (∃ v, e = .returned v) ∧ ∃ xs, S xs ∧ J xs W'
def bodyK {α : Type} (lo hi : Nat) (I : List α → World → Prop) (xs : List α) (W : World) : Exit → Act → World → Prop
 | .normal, _, W' => BodyK lo hi W W' ∧ I xs W'
 | _, _, _ => False
theorem range_all {α : Type} {g : Operand} {ps : Array Tmp} {assign body : Code} {Q : Exit → Act → World → Prop} {a : Act} {w : World}
  (hro : F.round = none) (h1 : 1 ≤ n) {gf : Nat} {lb : Array Value} (hg : a.eval g = .func (.func gf) #[] lb) (hFg : F.fn gf) (eg : ∀ args w, (callFunc gf args).run P w = .ok (.enter gf args) w)
  {encs : α → Array Value} {lo hi : Nat} {S : List α → Prop} {N : Nat} {w0 : World} (hseq : SeqAll F (n - 1) P gf lb encs lo hi S N w0)
  (hlo : lo ≤ w.heap.size) (hhi : hi ≤ w.heap.size) (hb0 : Below w0.heap.size w0 w) (hps : ∀ x, (encs x).size = ps.size)
  (I : List α → World → Prop) (hI : ∀ s A B, I s A → Below w.heap.size A B → I s B) (h0 : I [] w) (a₁ : α → Act)
  (hassign : ∀ (l : Nat) (x : α) (W : World) (K : Act → World → Prop), K (a₁ x) W →
   assign.wpIn (F.inRound l) (n - 1 - 1) P (Exit.then K (fun _ _ _ => False)) { tmps := (ps.zip (encs x)).foldl (fun t (p, v) => t.setIfInBounds p v) a.tmps, defers := [] } W)
  (hbody : ∀ (l : Nat) (pre : List α) (x : α) (W : World), I pre W → pre.length < N → body.wpIn (F.inRound l) (n - 1 - 1) P (bodyK lo hi I (pre ++ [x]) W) (a₁ x) W)
  (hdone : ∀ (D : Nat) (xs : List α) (W : World), w.heap.size ≤ D → S xs → I xs W → W.heap[D]? = some (.deferred (some [])) → Q .normal { a with defers := { target := .collected D, args := #[] } :: a.defers } W) :
  (Code.rangeFunc g ps assign body).wpIn F n P Q a w := by
 refine wpIn_rangeFunc ?_
 intro fn hfn
 rw [hro]
 obtain ⟨rec, hrec⟩ : ∃ rec : LoopState → Option Code → Loop, rec = fun st pe => { state := st, pending := pe, fn, tmps := a.tmps, params := ps, assign, body, defers := w.heap.size } := ⟨_, rfl⟩
 obtain ⟨W1, hW1⟩ : ∃ W1, (w.alloc (.deferred (some []))).alloc (.loop (rec .ready none)) = W1 := ⟨_, rfl⟩
 have hs1 : W1.heap.size = w.heap.size + 2 := by rw [← hW1]; simp
 have hL1 : W1.heap[w.heap.size + 1]? = some (.loop (rec .ready none)) := by
  rw [← hW1]; have := World.alloc_heap_new (w.alloc (.deferred (some []))) (.loop (rec .ready none)); rwa [World.size_alloc] at this
 have hK1 : W1.heap[w.heap.size]? = some (.deferred (some [])) := by
  rw [← hW1]; exact (Below.heap_alloc _ _ _ (by simp)).trans (World.alloc_heap_new w _)
 have hB1 : Below w.heap.size w W1 := by
  rw [← hW1]; exact ((Below.refl _ w).alloc (Nat.le_refl _) _).alloc (by simp) _
 have hI1 : I [] W1 := hI _ _ _ h0 hB1
 refine ⟨w.heap.size + 1, [{ target := .collected w.heap.size, args := #[] }], W1, { target := .fn (.func gf) lb, args := #[.func (.yield (w.heap.size + 1)) #[] #[]] }, W1, gf,
  #[.func (.yield (w.heap.size + 1)) #[] #[]] ++ lb, W1, ?_, ?_, ?_, ?_, fun _ => h1, ?_⟩
 ·rw [← hW1, hrec]; exact run_enterLoop_outer _ _ _ _ _
 ·simp only [resolve, hg]
  simp [go_sem]
 ·intro f' hf'; simp [Target.leads] at hf'; subst hf'; exact hFg
 ·simp [invoke, go_sem, eg]
 ·refine (hseq (w.heap.size + 1)
   (fun pre W => I pre W ∧ W.heap[w.heap.size + 1]? = some (.loop (rec .ready none)) ∧ W.heap[w.heap.size]? = some (.deferred (some [])))
   W1 (hb0.trans (hB1.mono hb0.size))
   (fun s A B hs hB => ⟨hI s A B hs.1 (hB.mono (by omega)), (hB.block _ (by omega)).trans hs.2.1, (hB.block _ (by omega)).trans hs.2.2⟩)
   ?_ ⟨hI1, hL1, hK1⟩).mono ?_
  ·rintro pre x W ⟨hi', hl, hk⟩ hlen
   have hlt : w.heap.size + 1 < W.heap.size := (Array.getElem?_eq_some_iff.1 hl).1
   have hy := run_yield (P := P) (args := encs x) hl (by rw [hrec]; exact hps x)
   rw [hrec] at hy
   refine ⟨fn, _, assign, body, hy, roundIn_of_wpIn hfn (hassign _ x W _ ⟨_, run_beginRound hl (by rw [hrec]), ?_⟩)⟩
   have hl2 : (W.putObj (w.heap.size + 1) (.loop { rec .ready none with state := .busy })).heap[w.heap.size + 1]? = some (.loop { rec .ready none with state := .busy }) := World.putObj_heap_same hlt
   have hk2 : (W.putObj (w.heap.size + 1) (.loop { rec .ready none with state := .busy })).heap[w.heap.size]? = some (.deferred (some [])) := (World.putObj_heap_other (by omega)).trans hk
   have hw2 : RoundK lo hi W (W.putObj (w.heap.size + 1) (.loop { rec .ready none with state := .busy })) := roundK_put (by omega) hl rfl
   refine wpIn_mono (hbody _ pre x _ (hI _ _ _ hi' (below_put (by omega) hl)) hlen) ?_
   rintro e a3 W3 hp
   cases e with
   | normal =>
    obtain ⟨hk3, hi3⟩ := hp
    have hl3 := hk3.above _ _ (by omega) hl2
    have hd3 := hk3.above _ _ (by omega) hk2
    have hr := run_endRound (P := P) none hl3
    refine ⟨_, _, hr, rfl, ⟨hI _ _ _ hi3 (below_put (by omega) hl3), ?_, (World.putObj_heap_other (by omega)).trans hd3⟩, (hw2.trans hk3.round).trans (roundK_put (by omega) hl3 rfl)⟩
    rw [hrec]
    exact World.putObj_heap_same (Array.getElem?_eq_some_iff.1 hl3).1
   | ret => exact hp.elim
   | exit id => exact hp.elim
   | goto t => exact hp.elim
   | panic ch => exact hp.elim
   | outgrown => exact hp.elim
  ·rintro e W2 ⟨⟨v, rfl⟩, xs, hS, hi2, hl, hk⟩
   exact ⟨none, _, by have := run_endLoop (P := P) hl (by rw [hrec]; simp); rw [hrec] at this; exact this, hdone _ xs _ (Nat.le_refl _) hS (hI _ _ _ hi2 (below_put (by omega) hl)) ((World.putObj_heap_other (by omega)).trans hk)⟩
end Go.Proofs.YtgpibpkplhlihaaGreatDoor
namespace Go.Proofs.YtgpibpkplhlihaaGreatDoor
open Go Go.RowKit Go.Proofs Go.Ev Go.Shelf
set_option linter.unusedVariables false
set_option linter.unusedSimpArgs false
attribute [local go_sem] Oper.semAt_some
structure Dp where
 d : Nat
 p : Pl
def cellsOf (l : List Dp) : List Value := l.flatMap fun x => [.int .i64 x.d, x.p.ptr]
def szD (l : List Dp) : Nat := (l.map fun x => x.p.t.sz).sum
abbrev DA := { x : Nat × Nat × Nat // 1 ≤ x.1 ∧ x.1 ≤ 8000 }
def encD (x : DA) : Array Value := #[.int .i64 x.1.1, .pointer (some ⟨x.1.2.1, x.1.2.2, none⟩)]
theorem cellsOf_app (l m : List Dp) : cellsOf (l ++ m) = cellsOf l ++ cellsOf m := by simp [cellsOf]
theorem cellsOf_len : ∀ (l : List Dp), (cellsOf l).length = l.length * 2
 | [] => rfl
 | x :: l => by
  have := cellsOf_len l
  simp only [cellsOf, List.flatMap_cons, List.length_append, List.length_cons, List.length_nil] at this ⊢
  omega
theorem szD_app (l m : List Dp) : szD (l ++ m) = szD l + szD m := by simp [szD]
theorem szD_one (p : Dp) : szD [p] = p.p.t.sz := by simp [szD]
theorem lenD_le : ∀ l : List Dp, l.length ≤ szD l
 | [] => Nat.le_refl _
 | p :: l => by
  have := lenD_le l
  have h2 := sz_pos p.p.t
  simp only [szD, List.map_cons, List.sum_cons, List.length_cons] at this ⊢
  omega
theorem dp_pos : ∀ (t : Tree), 1 ≤ t.dp
 | .node k l => by rw [Tree.dp]; omega
def DStk (w00 : World) (lo base sz : Nat) (J : List DA → World → Prop) (wr : World) (v : Value) (k : Nat) : Prop :=
 ∃ (pre : List DA) (l : List Dp), wr.ownsRow base 168 2 v l.length (cellsOf l) ∧ (∀ x ∈ l, Lies w00 x.p.t x.p.b x.p.off ∧ 1 ≤ x.d ∧ x.d + x.p.t.dp ≤ 8001) ∧ szD l = k ∧ pre.length + k = sz ∧ J pre wr ∧ (pre ≠ [] ∨ l ≠ []) ∧ Below lo w00 wr ∧ base ≤ wr.heap.size
theorem own_top2 {W : World} {base e n g cap : Nat} {xs : List Value} {x y : Value} (h : W.ownsRow base e 2 (.slice (some ⟨g, 0, none⟩) (n + 1) cap) (n + 1) (xs ++ [x, y])) (hx : xs.length = n * 2) : W.cell? ⟨g, n * 2, none⟩ = some x ∧ W.cell? ⟨g, n * 2 + 1, none⟩ = some y ∧ base ≤ g ∧ n + 1 ≤ cap := by
 obtain ⟨_, h2⟩ := h
 rcases h2 with ⟨h0, _⟩ | ⟨g', cap', cur, hv, hg, hh, hn, hcap, hsz, htake⟩
 ·cases h0
 ·cases hv
  have key : ∀ (i : Nat) (z : Value), i < (n + 1) * 2 → (xs ++ [x, y])[i]? = some z → W.cell? ⟨g, i, none⟩ = some z := by
   intro i z hi hz
   simp only [World.cell?, hh]
   have : (cur.toList.take ((n + 1) * 2))[i]? = some z := by rw [htake]; exact hz
   rw [List.getElem?_take, if_pos hi] at this
   simpa using this
  refine ⟨key _ _ (by omega) ?_, key _ _ (by omega) ?_, hg, hn⟩
  ·rw [List.getElem?_append_right (by omega), hx]; simp
  ·rw [List.getElem?_append_right (by omega), hx]; simp
theorem own_succ2 {W : World} {base : Nat} {e : TypeId} {size : Nat} {v : Value} {k : Nat} {xs : List Value} (h : W.ownsRow base e size v (k + 1) xs) : ∃ g cap, v = .slice (some ⟨g, 0, none⟩) (k + 1) cap := by
 rcases h.2 with ⟨_, h0⟩ | ⟨g, cap, _, rfl, _⟩
 ·omega
 ·exact ⟨g, cap, rfl⟩
theorem own_keep {W W' : World} {base e size n : Nat} {v : Value} {xs : List Value} (h : W.ownsRow base e size v n xs) (hk : ∀ k o, base ≤ k → W.heap[k]? = some o → o.isCells = true → W'.heap[k]? = some o) : W'.ownsRow base e size v n xs := by
 refine ⟨h.1, ?_⟩
 rcases h.2 with h2 | ⟨g, cap, cur, h1, h2, h3, h4⟩
 ·exact .inl h2
 ·exact .inr ⟨g, cap, cur, h1, h2, hk _ _ h2 h3 rfl, h4⟩
theorem len_leT2 : ∀ l : List Tree, l.length ≤ Tree.szL l
 | [] => Nat.le_refl _
 | p :: l => by
  have := len_leT2 l
  have h2 := sz_pos p
  rw [Tree.szL, List.length_cons]
  omega
def intOf2 : Value → Int
 | .int _ n => n
 | _ => 0
theorem infoPlace : (Tryz.prog.info? 168).map (fun i => (i.zero, i.size, i.bytes)) = some (some (.agg #[.int .i64 0, .pointer none]), 2, 16) := by kernel_rfl
def NotAt (v : Value) (bx : Nat) : Prop := v.ownBlock ≠ some bx
set_option maxHeartbeats 4000000 in
set_option maxRecDepth 1000000 in
theorem walk1_all (n lo hi pb po c : Nat) (t : Tree) (w00 w : World) (hlo : w00.heap.size = lo) (hhi : lo ≤ hi) (hc1 : hi ≤ c) (hc2 : c < w.heap.size) (hBw : Below lo w00 w) (hcell : w.cell? ⟨c, 0, none⟩ = some (.pointer (some ⟨pb, po, none⟩)))
  (hL : Lies w00 t pb po) (hs : t.sz ≤ 4194304) (hd : t.dp ≤ 8000) : SeqAll Fence.wide n Tryz.prog 129 #[.pointer (some ⟨c, 0, none⟩)] encD lo hi (fun xs => xs ≠ []) t.sz w := by
 intro l J W hBW hJ hY h0
 have hcW : W.cell? ⟨c, 0, none⟩ = some (.pointer (some ⟨pb, po, none⟩)) := (hBW.cell (p := ⟨c, 0, none⟩) hc2).trans hcell
 have hlW : lo ≤ W.heap.size := by have := hBW.size; omega
 refine callsIn_of_wp Tryz.func129 rfl trivial ?_ rfl
 simp only [Tryz.ntmps129, List.size_toArray, List.length_cons, List.length_nil, Nat.reduceAdd, Nat.reduceSub, Array.replicate_succ, Array.replicate_zero, List.push_toArray, List.append_toArray, List.nil_append, List.cons_append]
 gi_wp2
 gi_loopw [3] (fun v wr => ∃ k, DStk w00 lo W.heap.size t.sz J wr v k) (fun v wr => leastOf (DStk w00 lo W.heap.size t.sz J wr v))
 case atStart =>
  refine ⟨t.sz, [], [⟨1, pb, po, t⟩], ?_, ?_, ?_, ?_, hJ _ _ _ h0 ((Below.refl _ W).alloc (Nat.le_refl _) _), .inr (by simp), (hBw.trans (hBW.mono (by omega))).alloc hlW _, by simp⟩
  ·exact World.ownsRow_lit _ _ _ (Nat.le_refl _) (by decide) rfl
  ·intro x hx
   rw [List.mem_singleton] at hx
   subst hx
   exact ⟨hL, Nat.le_refl _, by show 1 + t.dp ≤ 8001; omega⟩
  ·exact szD_one _
  ·simp
 case round =>
  obtain ⟨⟨pre, l2, hown, hall, hsz, hk, hJp, hne, hB, hbs⟩, hmin⟩ := leastOf_spec hrel
  rcases List.eq_nil_or_concat l2 with rfl | ⟨rest, ⟨d, qb, qo, qt⟩, rfl⟩
  ·obtain ⟨a, cap, rfl⟩ : ∃ a cap, u3 = .slice a 0 cap := by
    rcases hown.2 with ⟨e1, -⟩ | ⟨g, cap, cur, e1, -⟩
    ·exact ⟨_, _, e1⟩
    ·exact ⟨_, _, e1⟩
   gi_wp2
   go_end0
   exact ⟨⟨_, rfl⟩, pre, hne.resolve_right (by simp), hJp⟩
  ·rw [List.concat_eq_append] at hown hall hsz hne
   have hn1 : (rest ++ [(⟨d, qb, qo, qt⟩ : Dp)]).length = rest.length + 1 := by simp
   rw [hn1, cellsOf_app] at hown
   obtain ⟨g, cap, rfl⟩ := own_succ2 hown
   obtain ⟨hcell0, hcell1, hgb, hcap⟩ := own_top2 hown (cellsOf_len rest)
   rw [szD_app, szD_one] at hsz
   change szD rest + qt.sz = _ at hsz
   have hlen : rest.length ≤ 4194304 := by have := lenD_le rest; omega
   obtain ⟨hLq, hd1, hd2⟩ := hall _ (List.mem_append_right _ (List.mem_singleton_self _))
   simp only at hLq hd1 hd2
   have j1 : IntKind.i64.wrap (rest.length : Int) = (rest.length : Int) := IntWalk.i64_in _ (by omega)
   have j4 : (rest.length : Int) < (rest.length : Int) + 1 := by omega
   have j2 : (0 : Int) ≤ (rest.length : Int) := by omega
   have j3 : ((rest.length : Int)).toNat = rest.length := by omega
   have j5 : (rest.length : Int) ≤ (cap : Int) := by omega
   have j6 : rest.length ≤ cap := by omega
   simp only [Pl.ptr] at hcell1
   have hpop : wr.ownsRow W.heap.size 168 2 (.slice (some ⟨g, 0, none⟩) rest.length cap) rest.length (cellsOf rest) := ownsRow_pop (cellsOf_len rest) hown
   have hgl : g < wr.heap.size := by
    rcases hown.2 with ⟨e1, -⟩ | ⟨g', cap', cur, e1, -, e2, -⟩
    ·cases e1
    ·cases e1; exact (Array.getElem?_eq_some_iff.1 e2).1
   have hdp := dp_pos qt
   have hpos := sz_pos qt
   have hJ1 : J pre (wr.alloc (.cells #[.int .i64 d, .pointer (some ⟨qb, qo, none⟩)] 168)) := hJ _ _ _ hJp ((Below.refl _ wr).alloc hbs _)
   have hx8 : d ≤ 8000 := by omega
   obtain ⟨x, hx⟩ : ∃ x : DA, x = ⟨(d, qb, qo), ⟨hd1, hx8⟩⟩ := ⟨_, rfl⟩
   obtain ⟨fn, tmps, assign, body, hy, hR⟩ := hY pre x _ hJ1 (by omega)
   rw [hx] at hy
   dsimp only [encD] at hy
   gi_wp2
   refine ⟨fun h => by simp [Fence.wide] at h, hR.mono ?_⟩
   rintro e W3 ⟨rfl, hJ3, hk3⟩
   have hB1 : Below lo wr (wr.alloc (.cells #[.int .i64 d, .pointer (some ⟨qb, qo, none⟩)] 168)) := (Below.refl _ wr).alloc (by omega) _
   have hB3 : Below lo w00 W3 := (hB.trans hB1).trans hk3.below
   have hbx : W3.heap[wr.heap.size]? = some (.cells #[.int .i64 d, .pointer (some ⟨qb, qo, none⟩)] 168) := hk3.cells _ _ (by have := hBW.size; omega) (World.alloc_heap_new wr _) rfl
   have b0 : W3.cell? ⟨wr.heap.size, 0, none⟩ = some (.int .i64 d) := by simp [World.cell?, hbx]
   have b1 : W3.cell? ⟨wr.heap.size, 1, none⟩ = some (.pointer (some ⟨qb, qo, none⟩)) := by simp [World.cell?, hbx]
   have hown3 : W3.ownsRow W.heap.size 168 2 (.slice (some ⟨g, 0, none⟩) rest.length cap) rest.length (cellsOf rest) := own_keep (hpop.alloc _) (fun k o hk ho hc => hk3.cells k o (by have := hBW.size; omega) ho hc)
   have hs3 : wr.heap.size < W3.heap.size := by have := hk3.below.size; simp at this; omega
   clear hy hR hown hpop hcell0 hcell1
   cases qt with
   | node k kids =>
   rw [Tree.sz] at hsz
   rw [Tree.dp] at hd2
   rw [Lies] at hLq
   obtain ⟨h0q, -, -, ⟨ka, kcap, c2, hkids⟩, -, -⟩ := hLq
   have hkl : kids.length ≤ 4194304 := by have := len_leT2 kids; omega
   have e2 : W3.cell? ⟨qb, qo + 2, none⟩ = _ := (hB3.cell (p := ⟨qb, qo + 2, none⟩) (by show qb < lo; omega)).trans c2
   obtain ⟨M, hM⟩ : ∃ M, M = szD rest + Tree.szL kids := ⟨_, rfl⟩
   have k1 : IntKind.i64.wrap ((kids.length : Int) - 1) = (kids.length : Int) - 1 := IntWalk.i64_in _ (by omega)
   gi_wp2
   obtain ⟨wo, hwo⟩ : ∃ wo, wo = wr := ⟨_, rfl⟩
   subst hwo
   gi_loopw [3, 5] (fun v i wq => ∃ (j : Nat) (l3 : List Dp), j ≤ kids.length ∧ i = .int .i64 ((j : Int) - 1) ∧ wq.ownsRow W.heap.size 168 2 v l3.length (cellsOf l3) ∧ (∀ y ∈ l3, Lies w00 y.p.t y.p.b y.p.off ∧ 1 ≤ y.d ∧ y.d + y.p.t.dp ≤ 8001) ∧ szD l3 + Tree.szL (kids.take j) = M ∧ J (pre ++ [x]) wq ∧ Below lo w00 wq ∧ wo.heap.size < wq.heap.size ∧ NotAt v wo.heap.size ∧ wq.heap[wo.heap.size]? = some (.cells #[.int .i64 d, .pointer (some ⟨qb, qo, none⟩)] 168)) (fun v i _ => (intOf2 i + 1).toNat)
   case atStart =>
    refine ⟨kids.length, rest, Nat.le_refl _, rfl, hown3, fun y hy => hall y (List.mem_append_left _ hy), ?_, hJ3, hB3, hs3, ?_, hbx⟩
    ·rw [List.take_length]; exact hM.symm
    ·simp only [NotAt, Value.ownBlock, ne_eq, Option.some.injEq]; omega
   case round =>
    obtain ⟨j, l3, hj, rfl, hown4, hall4, hsz4, hJ4, hB4, hs4, hna, hbx4⟩ := hrel
    have f2 := (hB4.cell (p := ⟨qb, qo + 2, none⟩) (by show qb < lo; omega)).trans c2
    have hln : l3.length ≤ 4194304 := by have := lenD_le l3; omega
    have b0 : wr.cell? ⟨wo.heap.size, 0, none⟩ = some (.int .i64 d) := by simp [World.cell?, hbx4]
    have b1 : wr.cell? ⟨wo.heap.size, 1, none⟩ = some (.pointer (some ⟨qb, qo, none⟩)) := by simp [World.cell?, hbx4]
    cases j with
    | zero =>
     gi_wp2
     rw [List.take_zero, Tree.szL] at hsz4
     have hln2 : (pre ++ [x]).length + M = t.sz := by rw [List.length_append, List.length_singleton]; omega
     have hh : DStk w00 lo W.heap.size t.sz J _ _ M := ⟨pre ++ [x], l3, hown4, hall4, by omega, hln2, hJ4, .inl (by simp), hB4, by omega⟩
     exact ⟨⟨M, hh⟩, Nat.lt_of_le_of_lt ((leastOf_spec ⟨M, hh⟩).2 M hh) (by omega)⟩
    | succ j =>
     have e1 : ((j + 1 : Nat) : Int) - 1 = (j : Int) := by omega
     rw [e1]
     obtain ⟨t2, ht2⟩ : ∃ t2, kids[j]? = some t2 := ⟨_, List.getElem?_eq_getElem hj⟩
     obtain ⟨kb, ko, hka, hLt⟩ := liesL_at hkids ht2
     obtain ⟨q, hq⟩ : ∃ q : Dp, q = ⟨d + 1, kb, ko + j * 5, t2⟩ := ⟨_, rfl⟩
     cases hka
     have g1 : (j : Int) < (kids.length : Int) := by omega
     have g2 : (0 : Int) ≤ (j : Int) := by omega
     have g4 : (j : Int).toNat = j := by omega
     have g3 : IntKind.i64.wrap ((j : Int) - 1) = (j : Int) - 1 := IntWalk.i64_in _ (by omega)
     have g5 : IntKind.i64.wrap ((d : Int) + 1) = (d : Int) + 1 := IntWalk.i64_in _ (by omega)
     obtain ⟨i0, hi0, hz0, hz1, hz2⟩ := info_parts infoPlace
     have hqb : qb < lo := by omega
     have hnq : u3.ownBlock ≠ some qb := by
      rcases hown4.2 with ⟨e1, -⟩ | ⟨g5, cap5, cur5, e1, e2, -⟩
      ·subst e1; simp [Value.ownBlock]
      ·subst e1; simp only [Value.ownBlock, ne_eq, Option.some.injEq]; omega
     have hsl : W.heap.size ≤ wr.heap.size := by omega
     have hna2 : u3.ownBlock ≠ some wo.heap.size := hna
     have hql : qb < wr.heap.size := by omega
     gi_wp2
     refine wpIn_wide.2 ?_
     go_region_held3 (fun w' => w'.cell? ⟨wo.heap.size, 0, none⟩ = some (.int .i64 d) ∧ w'.cell? ⟨wo.heap.size, 1, none⟩ = some (.pointer (some ⟨qb, qo, none⟩)) ∧ w'.cell? ⟨qb, qo + 2, none⟩ = some (.slice (some ⟨kb, ko, none⟩) kids.length kcap))
      (first
       | go_keep
       | (go_split_ands
          refine ⟨?_, ?_, ?_⟩
          · (rw [hgrow.cell_far _ (by simp; omega) (Ne.symm hna2)]; assumption)
          · (rw [hgrow.cell_far _ (by simp; omega) (Ne.symm hna2)]; assumption)
          · (rw [hgrow.cell_far _ (by simp; omega) (Ne.symm hnq)]; assumption)))
      ((refine step_append_lies _ (by rfl) _ _ _ (by rfl) W.heap.size 168 i0 _ 2 16 Tryz.underlying169 hi0 hz0 hz1 hz2 rfl (by omega) u3 l3.length (cellsOf l3) (by rfl) ((hown4.alloc _).drew)
          ⟨wr.heap.size, 0, none⟩ 1 1 [.int .i64 ((d : Int) + 1), .pointer (some ⟨kb, ko + j * 5, none⟩)] (by rfl) (by rfl) (World.news_of_block (cs := #[.int .i64 ((d : Int) + 1), .pointer (some ⟨kb, ko + j * 5, none⟩)]) (t := 168) (fr := (0, 0)) (heap_alloc_new wr _)) (by simp [Value.oneCell'])
          (by omega) (by have : maxLen = 9223372036854775807 := rfl; omega) (by omega) (by simp; omega) (wr.heap.size + 1) (by simp) ?_; intro gg cap1 w1 hown1 hgrow hat hlt))
     have h3b : Below W.heap.size wr w1 := (((Below.refl _ wr).alloc hsl _).drew).grown hgrow (by simp; omega) (fun k e => by
      rcases hown4.2 with ⟨e1, -⟩ | ⟨g5, cap5, cur5, e1, e2, -⟩
      ·subst e1; simp [Value.ownBlock] at e
      ·subst e1; simp only [Value.ownBlock, Option.some.injEq] at e; omega)
     have hw1 : wo.heap.size < w1.heap.size := Nat.lt_of_lt_of_le hs4 h3b.size
     have hna3 : NotAt (.slice (some ⟨gg, 0, none⟩) (l3.length + 1) cap1) wo.heap.size := by
      simp only [NotAt, Value.ownBlock, ne_eq, Option.some.injEq]
      rcases hat with h9 | h9
      ·intro e; rw [e] at h9; exact hna2 h9
      ·omega
     have hbx9 : w1.heap[wo.heap.size]? = some (.cells #[.int .i64 d, .pointer (some ⟨qb, qo, none⟩)] 168) := by
      rw [hgrow.block _ (by simp; omega) (Ne.symm hna2)]
      exact ((((Below.refl (wr.heap.size) wr).alloc (Nat.le_refl _) _).drew).block _ hs4).trans hbx4
     have hA : ∃ (j1 : Nat) (l4 : List Dp), j1 ≤ kids.length ∧ Value.int .i64 ((j : Int) - 1) = .int .i64 ((j1 : Int) - 1) ∧ w1.ownsRow W.heap.size 168 2 (.slice (some ⟨gg, 0, none⟩) (l3.length + 1) cap1) l4.length (cellsOf l4) ∧ (∀ y ∈ l4, Lies w00 y.p.t y.p.b y.p.off ∧ 1 ≤ y.d ∧ y.d + y.p.t.dp ≤ 8001) ∧ szD l4 + Tree.szL (kids.take j1) = M ∧ J (pre ++ [x]) w1 ∧ Below lo w00 w1 ∧ wo.heap.size < w1.heap.size ∧ NotAt (.slice (some ⟨gg, 0, none⟩) (l3.length + 1) cap1) wo.heap.size ∧ w1.heap[wo.heap.size]? = some (.cells #[.int .i64 d, .pointer (some ⟨qb, qo, none⟩)] 168) := by
      refine ⟨j, l3 ++ [q], by omega, rfl, ?_, ?_, ?_, hJ _ _ _ hJ4 h3b, hB4.trans (h3b.mono hlW), hw1, hna3, hbx9⟩
      ·rw [List.length_append, cellsOf_app, hq]
       have : cellsOf [(⟨d + 1, kb, ko + j * 5, t2⟩ : Dp)] = [.int .i64 ((d : Int) + 1), .pointer (some ⟨kb, ko + j * 5, none⟩)] := by simp [cellsOf, Pl.ptr]
       rw [this]
       exact hown1
      ·intro y hy
       rcases List.mem_append.1 hy with hy | hy
       ·exact hall4 y hy
       ·rw [List.mem_singleton] at hy
        rw [hy, hq]
        rw [Nat.zero_add] at hLt
        have := dpL_at ht2
        exact ⟨hLt, by show 1 ≤ d + 1; omega, by show d + 1 + t2.dp ≤ 8001; omega⟩
      ·rw [szD_app, szD_one, hq]; have := szL_take kids j t2 ht2; show _ + t2.sz + _ = _; omega
     gi_wp2
     exact ⟨hA, by simp only [intOf2]; omega⟩
end Go.Proofs.YtgpibpkplhlihaaGreatDoor
namespace Go.Proofs.YtgpibpkplhlihaaGreatDoor
open Go Go.RowKit Go.Proofs Go.Ev Go.Shelf
set_option linter.unusedVariables false
set_option linter.unusedSimpArgs false
attribute [local go_sem] Oper.semAt_some
theorem walk_any (p : Value) (w : World) (hp : p.oneCell' = true) : Calls Tryz.prog 82 #[p] w fun e w' => e = .returned (.func (.func 129) #[] #[.pointer (some ⟨w.heap.size, 0, none⟩)]) ∧ w' = w.alloc (.cells #[p] 68) := by
 go_enter Tryz.func82, Tryz.ntmps82
 go_wp2
 go_ret
 exact ⟨rfl, rfl⟩
structure Keep (p : Prop) : Prop where
 h : p
theorem results_cell3 {fn : Func} {p q r : Tmp} {t1 t2 t3 : TypeId} (h : fn.results = #[.cell p t1, .cell q t2, .cell r t3]) (tmps : Array Value) (P : Program) (w : World) :
  (results fn tmps).run P w =
   ((asAddr (tmps.getD p undef)).run P w).andThen fun a w₁ => ((loadVar t1 a).run P w₁).andThen fun v w₂ => ((asAddr (tmps.getD q undef)).run P w₂).andThen fun a2 w₃ => ((loadVar t2 a2).run P w₃).andThen fun v2 w₄ => ((asAddr (tmps.getD r undef)).run P w₄).andThen fun a3 w₅ => ((loadVar t3 a3).run P w₅).andThen fun v3 w₆ => .ok (.tuple #[v, v2, v3]) w₆ := by
 simp only [results, h]
 simp [Sem.run_bind, Result.andThen]
theorem heap_set_far (W : World) (p : Addr) (u : Value) {k : Nat} (h : p.block ≠ k) : (W.setCell p u).heap[k]? = W.heap[k]? := by
 simp [World.setCell, Array.getElem?_modify, h]
theorem set_two (W : World) (lo : Nat) (u v : Value) (h0 : (W.cell? ⟨lo, 0, none⟩).isSome = true) (h1 : (W.cell? ⟨lo + 1, 0, none⟩).isSome = true) :
  BodyK lo (lo + 3) W ((W.setCell ⟨lo, 0, none⟩ u).setCell ⟨lo + 1, 0, none⟩ v) ∧ ((W.setCell ⟨lo, 0, none⟩ u).setCell ⟨lo + 1, 0, none⟩ v).cell? ⟨lo, 0, none⟩ = some u ∧ ((W.setCell ⟨lo, 0, none⟩ u).setCell ⟨lo + 1, 0, none⟩ v).cell? ⟨lo + 1, 0, none⟩ = some v ∧
   ((W.setCell ⟨lo, 0, none⟩ u).setCell ⟨lo + 1, 0, none⟩ v).cell? ⟨lo + 1 + 1, 0, none⟩ = W.cell? ⟨lo + 1 + 1, 0, none⟩ ∧ (∀ a, ((W.setCell ⟨lo, 0, none⟩ u).setCell ⟨lo + 1, 0, none⟩ v).frozen? a = W.frozen? a) ∧ ((W.setCell ⟨lo, 0, none⟩ u).setCell ⟨lo + 1, 0, none⟩ v).heap.size = W.heap.size := by
 refine ⟨⟨((Below.refl lo W).setCell (p := ⟨lo, 0, none⟩) (Nat.le_refl _) _).setCell (p := ⟨lo + 1, 0, none⟩) (Nat.le_succ _) _, ?_⟩, ?_, ?_, ?_, ?_, ?_⟩
 ·intro k o hk ho
  rw [heap_set_far _ _ _ (by show lo + 1 ≠ k; omega), heap_set_far _ _ _ (by show lo ≠ k; omega)]
  exact ho
 ·rw [World.cell?_setCell_far _ ⟨lo + 1, 0, none⟩ ⟨lo, 0, none⟩ _ (by show lo + 1 ≠ lo; omega)]
  exact World.cell?_setCell_same' _ _ _ h0
 ·refine World.cell?_setCell_same' _ _ _ ?_
  rw [World.cell?_setCell_far _ ⟨lo, 0, none⟩ ⟨lo + 1, 0, none⟩ _ (by show lo ≠ lo + 1; omega)]
  exact h1
 ·rw [World.cell?_setCell_far _ ⟨lo + 1, 0, none⟩ ⟨lo + 1 + 1, 0, none⟩ _ (by show lo + 1 ≠ lo + 1 + 1; omega), World.cell?_setCell_far _ ⟨lo, 0, none⟩ ⟨lo + 1 + 1, 0, none⟩ _ (by show lo ≠ lo + 1 + 1; omega)]
 ·intro a; simp
 ·simp
set_option maxHeartbeats 4000000 in
set_option maxRecDepth 1000000 in
theorem measure_any (t : Tree) (b off : Nat) (w : World) (hL : Lies w t b off) (hs : t.sz ≤ 4194304) (hd : t.dp ≤ 8000) :
  CallsIn Fence.wide 9 Tryz.prog 56 #[.pointer (some ⟨b, off, none⟩)] w fun e w' => ∃ (k d : Nat), 1 ≤ d ∧ d ≤ 8000 ∧ e = .returned (.tuple #[.int .i64 k, .int .i64 d, .int .i64 0]) ∧ Below w.heap.size w w' := by
 refine callsIn_of_wp_marks Tryz.func56 rfl trivial ?_ rfl
 simp only [Tryz.ntmps56, List.size_toArray, List.length_cons, List.length_nil, Nat.reduceAdd, Nat.reduceSub, Array.replicate_succ, Array.replicate_zero, List.push_toArray, List.append_toArray, List.nil_append, List.cons_append]
 gi_wp2_with (refine ⟨trivial, ?_⟩; gi_at_call 82; refine (callsIn_wide.2 (walk_any _ _ rfl)).mono ?_; rintro e w' ⟨rfl, rfl⟩)
 obtain ⟨W0, hW0⟩ : ∃ W0, W0 = ((((w.alloc (Obj.cells #[Value.int IntKind.i64 0] 3)).alloc (Obj.cells #[Value.int IntKind.i64 0] 3)).alloc (Obj.cells #[Value.int IntKind.i64 0] 29)).alloc (Obj.cells #[Value.pointer (some ⟨b, off, none⟩)] 68)) := ⟨_, rfl⟩
 have hsz : W0.heap.size = w.heap.size + 4 := by rw [hW0]; simp
 have hBw : Below w.heap.size w W0 := by
  rw [hW0]
  exact ((((Below.refl _ w).alloc (Nat.le_refl _) _).alloc (by simp) _).alloc (by simp <;> omega) _).alloc (by simp <;> omega) _
 have x0 : W0.heap[w.heap.size]? = some (.cells #[.int .i64 0] 3) := by
  rw [hW0]
  exact (((((Below.refl (w.heap.size + 1) (w.alloc (Obj.cells #[Value.int IntKind.i64 0] 3))).alloc (by simp) _).alloc (by simp) _).alloc (by simp <;> omega) _).block _ (by omega)).trans (World.alloc_heap_new w _)
 have x1 : W0.heap[w.heap.size + 1]? = some (.cells #[.int .i64 0] 3) := by
  rw [hW0]
  refine ((((Below.refl (w.heap.size + 2) ((w.alloc (Obj.cells #[Value.int IntKind.i64 0] 3)).alloc (Obj.cells #[Value.int IntKind.i64 0] 3))).alloc (by simp) _).alloc (by simp) _).block _ (by omega)).trans ?_
  have := World.alloc_heap_new (w.alloc (Obj.cells #[Value.int IntKind.i64 0] 3)) (Obj.cells #[Value.int IntKind.i64 0] 3)
  rwa [World.size_alloc] at this
 have x2 : W0.heap[w.heap.size + 1 + 1]? = some (.cells #[.int .i64 0] 29) := by
  rw [hW0]
  refine (((Below.refl (w.heap.size + 3) (((w.alloc (Obj.cells #[Value.int IntKind.i64 0] 3)).alloc (Obj.cells #[Value.int IntKind.i64 0] 3)).alloc (Obj.cells #[Value.int IntKind.i64 0] 29))).alloc (by simp) _).block _ (by omega)).trans ?_
  have := World.alloc_heap_new ((w.alloc (Obj.cells #[Value.int IntKind.i64 0] 3)).alloc (Obj.cells #[Value.int IntKind.i64 0] 3)) (Obj.cells #[Value.int IntKind.i64 0] 29)
  simpa using this
 have x3 : W0.heap[w.heap.size + 1 + 1 + 1]? = some (.cells #[.pointer (some ⟨b, off, none⟩)] 68) := by
  rw [hW0]
  have := World.alloc_heap_new (((w.alloc (Obj.cells #[Value.int IntKind.i64 0] 3)).alloc (Obj.cells #[Value.int IntKind.i64 0] 3)).alloc (Obj.cells #[Value.int IntKind.i64 0] 29)) (Obj.cells #[Value.pointer (some ⟨b, off, none⟩)] 68)
  simpa using this
 rw [← hW0]
 refine range_all (lo := w.heap.size) (hi := w.heap.size + 3) rfl (by omega) (gf := 129) (lb := #[.pointer (some ⟨w.heap.size + 1 + 1 + 1, 0, none⟩)]) rfl trivial (enters_of Tryz.func129 (by kernel_rfl) rfl)
  (walk1_all (9 - 1) w.heap.size (w.heap.size + 3) b off (w.heap.size + 1 + 1 + 1) t w W0 rfl (by omega) (Nat.le_refl _) (by omega) hBw (by simp [World.cell?, x3]) hL hs hd) (by omega) (by omega) (Below.refl _ _) (fun _ => rfl)
  (fun pre W => ∃ dd : Nat, dd ≤ 8000 ∧ (pre = [] ∨ 1 ≤ dd) ∧ W.cell? ⟨w.heap.size, 0, none⟩ = some (.int .i64 pre.length) ∧ W.frozen? ⟨w.heap.size, 0, none⟩ = false ∧ W.cell? ⟨w.heap.size + 1, 0, none⟩ = some (.int .i64 dd) ∧ W.frozen? ⟨w.heap.size + 1, 0, none⟩ = false ∧ W.cell? ⟨w.heap.size + 1 + 1, 0, none⟩ = some (.int .i64 0) ∧ W.frozen? ⟨w.heap.size + 1 + 1, 0, none⟩ = false ∧ W0.heap.size ≤ W.heap.size ∧ Below w.heap.size w W)
  ?hI ?h0 (fun x => { tmps := #[.pointer (some ⟨b, off, none⟩), undef, .pointer (some ⟨w.heap.size, 0, none⟩), .pointer (some ⟨w.heap.size + 1, 0, none⟩), .pointer (some ⟨w.heap.size + 1 + 1, 0, none⟩), .int .i64 x.1.1, .pointer (some ⟨b, off, none⟩), .func (.func 129) #[] #[.pointer (some ⟨w.heap.size + 1 + 1 + 1, 0, none⟩)], .int .i64 x.1.1, .pointer (some ⟨x.1.2.1, x.1.2.2, none⟩), undef, undef, undef, undef, undef, undef, undef, undef, undef, undef, undef], defers := [] }) ?assign ?body ?done
 case hI =>
  rintro pre A B ⟨dd, i1, i2, i3, i4, i5, i6, i7, i8, i9, i10⟩ hB
  exact ⟨dd, i1, i2, (hB.cell (p := ⟨w.heap.size, 0, none⟩) (by show w.heap.size < _; omega)).trans i3, (World.frozen?_of_block (hB.block _ (by show w.heap.size < _; omega))).trans i4, (hB.cell (p := ⟨w.heap.size + 1, 0, none⟩) (by show w.heap.size + 1 < _; omega)).trans i5, (World.frozen?_of_block (hB.block _ (by show w.heap.size + 1 < _; omega))).trans i6, (hB.cell (p := ⟨w.heap.size + 1 + 1, 0, none⟩) (by show w.heap.size + 1 + 1 < _; omega)).trans i7, (World.frozen?_of_block (hB.block _ (by show w.heap.size + 1 + 1 < _; omega))).trans i8, Nat.le_trans i9 hB.size, i10.trans (hB.mono (by omega))⟩
 case h0 =>
  exact ⟨0, by omega, .inl rfl, by simp [World.cell?, x0], by simp [World.frozen?, x0], by simp [World.cell?, x1], by simp [World.frozen?, x1], by simp [World.cell?, x2], by simp [World.frozen?, x2], Nat.le_refl _, hBw⟩
 case assign =>
  rintro l ⟨⟨d1, b1, o1⟩, hx⟩ W K hK
  dsimp only [encD] at hK ⊢
  gi_wp2
  exact hK
 case body =>
  rintro l pre ⟨⟨d1, b1, o1⟩, hx1, hx2⟩ W ⟨dd, i1, i2, i3, i4, i5, i6, i7, i8, i9, i10⟩ hlt
  obtain ⟨m, hm⟩ : ∃ m, m = pre.length := ⟨_, rfl⟩
  rw [← hm] at i3
  have hw : Keep (wrap64 ((m : Int) + 1) = (m : Int) + 1 ∧ m + 1 ≤ 4194304 ∧ m = pre.length ∧ W0.heap.size ≤ W.heap.size ∧ Below w.heap.size w W) := ⟨IntWalk.wrap64_in _ (by omega), by omega, hm, i9, i10⟩
  generalize hQ : bodyK _ _ _ _ _ = Q
  have hQ2 : Keep (Q = bodyK _ _ _ _ _) := ⟨hQ.symm⟩
  have hsz2 : Keep (W0.heap.size = w.heap.size + 4) := ⟨hsz⟩
  clear hW0 x0 x1 x2 x3 i2 hQ i10 i9 hL hBw hm hlt hd hs hsz
  gi_wp2
  all_goals obtain ⟨hw1, hw2, hm, i9, i10⟩ := hw.h
  all_goals have hsz := hsz2.h
  all_goals try (exfalso; rename_i h9; omega)
  all_goals rw [hQ2.h, hw1]
  ·obtain ⟨q1, q2, q3, q4, q5, q6⟩ := set_two W w.heap.size (.int .i64 ((m : Int) + 1)) (.int .i64 (d1 : Int)) (by rw [i3]; rfl) (by rw [i5]; rfl)
   refine ⟨q1, d1, hx2, .inr hx1, q2.trans ?_, (q5 _).trans i4, q3, (q5 _).trans i6, q4.trans i7, (q5 _).trans i8, by omega, i10.trans q1.below⟩
   rw [List.length_append, List.length_singleton, ← hm]; simp
  ·obtain ⟨q1, q2, q3, q4, q5, q6⟩ := set_two W w.heap.size (.int .i64 ((m : Int) + 1)) (.int .i64 (dd : Int)) (by rw [i3]; rfl) (by rw [i5]; rfl)
   refine ⟨q1, dd, i1, .inr (by omega), q2.trans ?_, (q5 _).trans i4, q3, (q5 _).trans i6, q4.trans i7, (q5 _).trans i8, by omega, i10.trans q1.below⟩
   rw [List.length_append, List.length_singleton, ← hm]; simp
 case done =>
  rintro D ys W hD hne ⟨dd, i1, i2, i3, i4, i5, i6, i7, i8, i9, i10⟩ hK
  have i2 : 1 ≤ dd := i2.resolve_left hne
  have w3 : ¬ ((8000 : Int) < (dd : Int)) := by omega
  gi_wp2
  refine wpIn_wide.2 ?_
  go_region
  gi_wp2
  obtain ⟨q1, q2, q3, q4, q5, q6⟩ := set_two W w.heap.size (.int .i64 (ys.length : Int)) (.int .i64 (dd : Int)) (by rw [i3]; rfl) (by rw [i5]; rfl)
  obtain ⟨V, hV⟩ : ∃ V, V = (W.setCell ⟨w.heap.size, 0, none⟩ (.int .i64 (ys.length : Int))).setCell ⟨w.heap.size + 1, 0, none⟩ (.int .i64 (dd : Int)) := ⟨_, rfl⟩
  rw [← hV] at q1 q2 q3 q4 q5 q6 ⊢
  have hd : ((V.setCell ⟨w.heap.size + 1 + 1, 0, none⟩ (.int .i64 0)).drew).heap[D]? = some (.deferred (some [])) := (heap_set_far V ⟨w.heap.size + 1 + 1, 0, none⟩ _ (by show w.heap.size + 1 + 1 ≠ D; omega)).trans (q1.above _ _ (by omega) hK)
  have c0 : ((V.setCell ⟨w.heap.size + 1 + 1, 0, none⟩ (.int .i64 0)).drew).cell? ⟨w.heap.size, 0, none⟩ = some (.int .i64 (ys.length : Int)) := (World.cell?_setCell_far _ ⟨w.heap.size + 1 + 1, 0, none⟩ ⟨w.heap.size, 0, none⟩ _ (by show w.heap.size + 1 + 1 ≠ w.heap.size; omega)).trans q2
  have c1 : ((V.setCell ⟨w.heap.size + 1 + 1, 0, none⟩ (.int .i64 0)).drew).cell? ⟨w.heap.size + 1, 0, none⟩ = some (.int .i64 (dd : Int)) := (World.cell?_setCell_far _ ⟨w.heap.size + 1 + 1, 0, none⟩ ⟨w.heap.size + 1, 0, none⟩ _ (by show w.heap.size + 1 + 1 ≠ w.heap.size + 1; omega)).trans q3
  have c2 : ((V.setCell ⟨w.heap.size + 1 + 1, 0, none⟩ (.int .i64 0)).drew).cell? ⟨w.heap.size + 1 + 1, 0, none⟩ = some (.int .i64 0) := World.cell?_setCell_same' _ _ _ (by rw [q4, i7]; rfl)
  have hbb : Below w.heap.size w ((V.setCell ⟨w.heap.size + 1 + 1, 0, none⟩ (.int .i64 0)).drew) := ((i10.trans q1.below).setCell (p := ⟨w.heap.size + 1 + 1, 0, none⟩) (by show w.heap.size ≤ w.heap.size + 1 + 1; omega) _).drew
  obtain ⟨U, hU⟩ : ∃ U, U = (V.setCell ⟨w.heap.size + 1 + 1, 0, none⟩ (.int .i64 0)).drew := ⟨_, rfl⟩
  rw [← hU] at hd c0 c1 c2 hbb ⊢
  refine ⟨by simp, .inl ⟨_, _, rfl, run_takeDeferred hd, ?_⟩⟩
  have k0 := cell_kept c0 (grownBy_putObj' _ D (.deferred none)) (fun r e => by cases e; exact ⟨_, hd, rfl⟩)
  have k1 := cell_kept c1 (grownBy_putObj' _ D (.deferred none)) (fun r e => by cases e; exact ⟨_, hd, rfl⟩)
  have k2 := cell_kept c2 (grownBy_putObj' _ D (.deferred none)) (fun r e => by cases e; exact ⟨_, hd, rfl⟩)
  have hbp : Below w.heap.size w (U.putObj D (.deferred none)) := hbb.trans (below_put (by omega) hd)
  refine ⟨.tuple #[.int .i64 (ys.length : Int), .int .i64 (dd : Int), .int .i64 0], ?_, ys.length, dd, i2, i1, rfl, hbp⟩
  rw [results_cell3 rfl]
  clear hU
  generalize U.putObj D (.deferred none) = X at k0 k1 k2 hbp ⊢
  clear hV q1 q2 q3 q4 q5 q6 hW0 x0 x1 x2 x3
  go_simp
end Go.Proofs.YtgpibpkplhlihaaGreatDoor
namespace Go.Proofs.YtgpibpkplhlihaaGreatDoor
open Go Go.RowKit Go.Proofs Go.Ev Go.Shelf
set_option linter.unusedVariables false
set_option linter.unusedSimpArgs false
theorem liesL_below {w w' : World} {m : Nat} (hB : Below m w w') (hm : w.heap.size ≤ m) : ∀ (l : List Tree) (a : Option Addr) (i : Nat), LiesL w l a i → LiesL w' l a i
 | [], a, i, h => by rw [LiesL]; trivial
 | t :: ts, a, i, h => by
  rw [LiesL] at h ⊢
  obtain ⟨⟨b, off, hb, ht⟩, hl⟩ := h
  exact ⟨⟨b, off, hb, lies_below hB hm _ _ _ ht⟩, liesL_below hB hm ts a (i + 1) hl⟩
set_option maxHeartbeats 4000000 in
set_option maxRecDepth 1000000 in
theorem depth_any (t : Tree) (cs : List Value) (w : World) (hL : LiesC w t cs) (hs : t.sz ≤ 4194304) (hd : t.dp ≤ 8000) :
  Calls Tryz.prog 37 #[.agg cs.toArray] w fun e w' => ∃ d : Nat, 1 ≤ d ∧ d ≤ 8000 ∧ e = .returned (.int .i64 d) ∧ Below w.heap.size w w' := by
 obtain ⟨k, l, s, a, cap, f, e, rfl, rfl, hl⟩ := hL
 have hB1 : Below w.heap.size w (w.alloc (.cells #[.int .i64 k, s, .slice a l.length cap, f, e] 28)) := (Below.refl _ w).alloc (Nat.le_refl _) _
 have hbx : (w.alloc (.cells #[.int .i64 k, s, .slice a l.length cap, f, e] 28)).heap[w.heap.size]? = some (.cells #[.int .i64 k, s, .slice a l.length cap, f, e] 28) := World.alloc_heap_new w _
 have hL1 : Lies (w.alloc (.cells #[.int .i64 k, s, .slice a l.length cap, f, e] 28)) (.node k l) w.heap.size 0 := by
  rw [Lies]
  refine ⟨by simp, ?_, ⟨s, ?_⟩, ⟨a, cap, ?_, liesL_below hB1 (Nat.le_refl _) _ _ _ hl⟩, ⟨f, ?_⟩, ⟨e, ?_⟩⟩ <;> (simp only [World.cell?, hbx]; rfl)
 have hm := measure_any (.node k l) w.heap.size 0 _ hL1 hs hd
 go_enter Tryz.func37, Tryz.ntmps37
 go_wp2_with (go_at_call 56; refine (callsIn_wide.1 hm).mono ?_; rintro e w' ⟨k2, d, h1, h2, rfl, hB⟩)
 go_ret
 exact ⟨d, h1, h2, rfl, hB1.trans (hB.mono (by simp))⟩
end Go.Proofs.YtgpibpkplhlihaaGreatDoor
