/- The iterator over a tree's nodes: its contract at any real tree of 4,194,304 nodes, 8000 deep, at most. -/
import Derived.Test.YtmlhldohlfghaaaGreatDoorStk
import Derived.Test.YtmlhldohlfghaaaGreatDoorRangeOwn
import Derived.Shelf.Abstract
import Derived.Shelf.RegionOpen
import Derived.WalkKit
import Derived.OwnWalkIn
import Derived.TacticsInMore
import Derived.LoopNIn
import Derived.LoopIn
import Derived.Deep.QuietTactic
import Derived.BigQuiet
import Derived.IntWalk
import Derived.Deep.RegionHeld3
import Derived.Deep.AppendLies
import Derived.WalkSpells
import Derived.StillTactics
import Derived.OwnWalk
import Derived.Laws.Pointers
import Derived.KernelRfl
namespace Go.Proofs.YtmlhldohlfghaaaGreatDoor
open Go Go.RowKit Go.Proofs Go.Ev Go.Shelf
set_option linter.unusedVariables false
set_option linter.unusedSimpArgs false
attribute [local go_sem] Oper.semAt_some
structure Dp where
  d : Nat
  p : Pl
def cellsOf (l : List Dp) : List Value := l.flatMap fun x => [.int .i64 x.d, x.p.ptr]
def szD (l : List Dp) : Nat := (l.map fun x => x.p.t.sz).sum
abbrev DA := { x : Nat × Nat × Nat // 1 ≤ x.1 ∧ x.1 ≤ 8000 }
def encD (x : DA) : Array Value := #[.int .i64 x.1.1, .pointer (some ⟨x.1.2.1, x.1.2.2, none⟩)]
theorem cellsOf_app (l m : List Dp) : cellsOf (l ++ m) = cellsOf l ++ cellsOf m := by simp [cellsOf]
theorem cellsOf_len : ∀ (l : List Dp), (cellsOf l).length = l.length * 2
  | [] => rfl
  | x :: l => by
    have := cellsOf_len l
    simp only [cellsOf, List.flatMap_cons, List.length_append, List.length_cons, List.length_nil] at this ⊢
    omega
theorem szD_app (l m : List Dp) : szD (l ++ m) = szD l + szD m := by simp [szD]
theorem szD_one (p : Dp) : szD [p] = p.p.t.sz := by simp [szD]
theorem lenD_le : ∀ l : List Dp, l.length ≤ szD l
  | [] => Nat.le_refl _
  | p :: l => by
    have := lenD_le l
    have h2 := sz_pos p.p.t
    simp only [szD, List.map_cons, List.sum_cons, List.length_cons] at this ⊢
    omega
theorem dp_pos : ∀ (t : Tree), 1 ≤ t.dp
  | .node k l => by rw [Tree.dp]; omega
/-- what is on the stack; what has come -/
def DStk (w00 : World) (lo base sz : Nat) (J : List DA → World → Prop) (wr : World) (v : Value) (k : Nat) : Prop :=
  ∃ (pre : List DA) (l : List Dp), wr.ownsRow base 162 2 v l.length (cellsOf l) ∧ (∀ x ∈ l, Lies w00 x.p.t x.p.b x.p.off ∧ 1 ≤ x.d ∧ x.d + x.p.t.dp ≤ 8001) ∧ szD l = k ∧ pre.length + k = sz ∧ J pre wr ∧ (pre ≠ [] ∨ l ≠ []) ∧ Below lo w00 wr ∧ base ≤ wr.heap.size
theorem own_top2 {W : World} {base e n g cap : Nat} {xs : List Value} {x y : Value} (h : W.ownsRow base e 2 (.slice (some ⟨g, 0, none⟩) (n + 1) cap) (n + 1) (xs ++ [x, y])) (hx : xs.length = n * 2) : W.cell? ⟨g, n * 2, none⟩ = some x ∧ W.cell? ⟨g, n * 2 + 1, none⟩ = some y ∧ base ≤ g ∧ n + 1 ≤ cap := by
  obtain ⟨_, h2⟩ := h
  rcases h2 with ⟨h0, _⟩ | ⟨g', cap', cur, hv, hg, hh, hn, hcap, hsz, htake⟩
  · cases h0
  · cases hv
    have key : ∀ (i : Nat) (z : Value), i < (n + 1) * 2 → (xs ++ [x, y])[i]? = some z → W.cell? ⟨g, i, none⟩ = some z := by
      intro i z hi hz
      simp only [World.cell?, hh]
      have : (cur.toList.take ((n + 1) * 2))[i]? = some z := by rw [htake]; exact hz
      rw [List.getElem?_take, if_pos hi] at this
      simpa using this
    refine ⟨key _ _ (by omega) ?_, key _ _ (by omega) ?_, hg, hn⟩
    · rw [List.getElem?_append_right (by omega), hx]; simp
    · rw [List.getElem?_append_right (by omega), hx]; simp
theorem own_succ2 {W : World} {base : Nat} {e : TypeId} {size : Nat} {v : Value} {k : Nat} {xs : List Value} (h : W.ownsRow base e size v (k + 1) xs) : ∃ g cap, v = .slice (some ⟨g, 0, none⟩) (k + 1) cap := by
  rcases h.2 with ⟨_, h0⟩ | ⟨g, cap, _, rfl, _⟩
  · omega
  · exact ⟨g, cap, rfl⟩
theorem own_keep {W W' : World} {base e size n : Nat} {v : Value} {xs : List Value} (h : W.ownsRow base e size v n xs) (hk : ∀ k o, base ≤ k → W.heap[k]? = some o → o.isCells = true → W'.heap[k]? = some o) : W'.ownsRow base e size v n xs := by
  refine ⟨h.1, ?_⟩
  rcases h.2 with h2 | ⟨g, cap, cur, h1, h2, h3, h4⟩
  · exact .inl h2
  · exact .inr ⟨g, cap, cur, h1, h2, hk _ _ h2 h3 rfl, h4⟩
theorem len_leT2 : ∀ l : List Tree, l.length ≤ Tree.szL l
  | [] => Nat.le_refl _
  | p :: l => by
    have := len_leT2 l
    have h2 := sz_pos p
    rw [Tree.szL, List.length_cons]
    omega
def intOf2 : Value → Int
  | .int _ n => n
  | _ => 0
theorem infoPlace : (Tryz.prog.info? 162).map (fun i => (i.zero, i.size, i.bytes)) = some (some (.agg #[.int .i64 0, .pointer none]), 2, 16) := by kernel_rfl
/-- the stack lies in another block than bx -/
def NotAt (v : Value) (bx : Nat) : Prop := v.ownBlock ≠ some bx
set_option maxHeartbeats 4000000 in
set_option maxRecDepth 1000000 in
theorem walk1_all (n lo hi pb po c : Nat) (t : Tree) (w00 w : World) (hlo : w00.heap.size = lo) (hhi : lo ≤ hi) (hc1 : hi ≤ c) (hc2 : c < w.heap.size) (hBw : Below lo w00 w) (hcell : w.cell? ⟨c, 0, none⟩ = some (.pointer (some ⟨pb, po, none⟩)))
    (hL : Lies w00 t pb po) (hs : t.sz ≤ 4194304) (hd : t.dp ≤ 8000) : SeqAll Fence.wide n Tryz.prog 138 #[.pointer (some ⟨c, 0, none⟩)] encD lo hi (fun xs => xs ≠ []) t.sz w := by
  intro l J W hBW hJ hY h0
  have hcW : W.cell? ⟨c, 0, none⟩ = some (.pointer (some ⟨pb, po, none⟩)) := (hBW.cell (p := ⟨c, 0, none⟩) hc2).trans hcell
  have hlW : lo ≤ W.heap.size := by have := hBW.size; omega
  refine callsIn_of_wp Tryz.func138 rfl trivial ?_ rfl
  simp only [Tryz.ntmps138, List.size_toArray, List.length_cons, List.length_nil, Nat.reduceAdd, Nat.reduceSub, Array.replicate_succ, Array.replicate_zero, List.push_toArray, List.append_toArray, List.nil_append, List.cons_append]
  gi_wp2
  gi_loopw [3] (fun v wr => ∃ k, DStk w00 lo W.heap.size t.sz J wr v k) (fun v wr => leastOf (DStk w00 lo W.heap.size t.sz J wr v))
  case atStart =>
    refine ⟨t.sz, [], [⟨1, pb, po, t⟩], ?_, ?_, ?_, ?_, hJ _ _ _ h0 ((Below.refl _ W).alloc (Nat.le_refl _) _), .inr (by simp), (hBw.trans (hBW.mono (by omega))).alloc hlW _, by simp⟩
    · exact World.ownsRow_lit _ _ _ (Nat.le_refl _) (by decide) rfl
    · intro x hx
      rw [List.mem_singleton] at hx
      subst hx
      exact ⟨hL, Nat.le_refl _, by show 1 + t.dp ≤ 8001; omega⟩
    · exact szD_one _
    · simp
  case round =>
    obtain ⟨⟨pre, l2, hown, hall, hsz, hk, hJp, hne, hB, hbs⟩, hmin⟩ := leastOf_spec hrel
    rcases List.eq_nil_or_concat l2 with rfl | ⟨rest, ⟨d, qb, qo, qt⟩, rfl⟩
    · obtain ⟨a, cap, rfl⟩ : ∃ a cap, u3 = .slice a 0 cap := by
        rcases hown.2 with ⟨e1, -⟩ | ⟨g, cap, cur, e1, -⟩
        · exact ⟨_, _, e1⟩
        · exact ⟨_, _, e1⟩
      gi_wp2
      go_end0
      exact ⟨⟨_, rfl⟩, pre, hne.resolve_right (by simp), hJp⟩
    · rw [List.concat_eq_append] at hown hall hsz hne
      have hn1 : (rest ++ [(⟨d, qb, qo, qt⟩ : Dp)]).length = rest.length + 1 := by simp
      rw [hn1, cellsOf_app] at hown
      obtain ⟨g, cap, rfl⟩ := own_succ2 hown
      obtain ⟨hcell0, hcell1, hgb, hcap⟩ := own_top2 hown (cellsOf_len rest)
      rw [szD_app, szD_one] at hsz
      change szD rest + qt.sz = _ at hsz
      have hlen : rest.length ≤ 4194304 := by have := lenD_le rest; omega
      obtain ⟨hLq, hd1, hd2⟩ := hall _ (List.mem_append_right _ (List.mem_singleton_self _))
      simp only at hLq hd1 hd2
      have j1 : IntKind.i64.wrap (rest.length : Int) = (rest.length : Int) := IntWalk.i64_in _ (by omega)
      have j4 : (rest.length : Int) < (rest.length : Int) + 1 := by omega
      have j2 : (0 : Int) ≤ (rest.length : Int) := by omega
      have j3 : ((rest.length : Int)).toNat = rest.length := by omega
      have j5 : (rest.length : Int) ≤ (cap : Int) := by omega
      have j6 : rest.length ≤ cap := by omega
      simp only [Pl.ptr] at hcell1
      have hpop : wr.ownsRow W.heap.size 162 2 (.slice (some ⟨g, 0, none⟩) rest.length cap) rest.length (cellsOf rest) := ownsRow_pop (cellsOf_len rest) hown
      have hgl : g < wr.heap.size := by
        rcases hown.2 with ⟨e1, -⟩ | ⟨g', cap', cur, e1, -, e2, -⟩
        · cases e1
        · cases e1; exact (Array.getElem?_eq_some_iff.1 e2).1
      have hdp := dp_pos qt
      have hpos := sz_pos qt
      have hJ1 : J pre (wr.alloc (.cells #[.int .i64 d, .pointer (some ⟨qb, qo, none⟩)] 162)) := hJ _ _ _ hJp ((Below.refl _ wr).alloc hbs _)
      have hx8 : d ≤ 8000 := by omega
      obtain ⟨x, hx⟩ : ∃ x : DA, x = ⟨(d, qb, qo), ⟨hd1, hx8⟩⟩ := ⟨_, rfl⟩
      obtain ⟨fn, tmps, assign, body, hy, hR⟩ := hY pre x _ hJ1 (by omega)
      rw [hx] at hy
      dsimp only [encD] at hy
      gi_wp2
      refine ⟨fun h => by simp [Fence.wide] at h, hR.mono ?_⟩
      rintro e W3 ⟨rfl, hJ3, hk3⟩
      have hB1 : Below lo wr (wr.alloc (.cells #[.int .i64 d, .pointer (some ⟨qb, qo, none⟩)] 162)) := (Below.refl _ wr).alloc (by omega) _
      have hB3 : Below lo w00 W3 := (hB.trans hB1).trans hk3.below
      have hbx : W3.heap[wr.heap.size]? = some (.cells #[.int .i64 d, .pointer (some ⟨qb, qo, none⟩)] 162) := hk3.cells _ _ (by have := hBW.size; omega) (World.alloc_heap_new wr _) rfl
      have b0 : W3.cell? ⟨wr.heap.size, 0, none⟩ = some (.int .i64 d) := by simp [World.cell?, hbx]
      have b1 : W3.cell? ⟨wr.heap.size, 1, none⟩ = some (.pointer (some ⟨qb, qo, none⟩)) := by simp [World.cell?, hbx]
      have hown3 : W3.ownsRow W.heap.size 162 2 (.slice (some ⟨g, 0, none⟩) rest.length cap) rest.length (cellsOf rest) := own_keep (hpop.alloc _) (fun k o hk ho hc => hk3.cells k o (by have := hBW.size; omega) ho hc)
      have hs3 : wr.heap.size < W3.heap.size := by have := hk3.below.size; simp at this; omega
      clear hy hR hown hpop hcell0 hcell1
      cases qt with
      | node k kids =>
      rw [Tree.sz] at hsz
      rw [Tree.dp] at hd2
      rw [Lies] at hLq
      obtain ⟨h0q, -, -, ⟨ka, kcap, c2, hkids⟩, -, -⟩ := hLq
      have hkl : kids.length ≤ 4194304 := by have := len_leT2 kids; omega
      have e2 : W3.cell? ⟨qb, qo + 2, none⟩ = _ := (hB3.cell (p := ⟨qb, qo + 2, none⟩) (by show qb < lo; omega)).trans c2
      obtain ⟨M, hM⟩ : ∃ M, M = szD rest + Tree.szL kids := ⟨_, rfl⟩
      have k1 : IntKind.i64.wrap ((kids.length : Int) - 1) = (kids.length : Int) - 1 := IntWalk.i64_in _ (by omega)
      gi_wp2
      obtain ⟨wo, hwo⟩ : ∃ wo, wo = wr := ⟨_, rfl⟩
      subst hwo
      gi_loopw [3, 5] (fun v i wq => ∃ (j : Nat) (l3 : List Dp), j ≤ kids.length ∧ i = .int .i64 ((j : Int) - 1) ∧ wq.ownsRow W.heap.size 162 2 v l3.length (cellsOf l3) ∧ (∀ y ∈ l3, Lies w00 y.p.t y.p.b y.p.off ∧ 1 ≤ y.d ∧ y.d + y.p.t.dp ≤ 8001) ∧ szD l3 + Tree.szL (kids.take j) = M ∧ J (pre ++ [x]) wq ∧ Below lo w00 wq ∧ wo.heap.size < wq.heap.size ∧ NotAt v wo.heap.size ∧ wq.heap[wo.heap.size]? = some (.cells #[.int .i64 d, .pointer (some ⟨qb, qo, none⟩)] 162)) (fun v i _ => (intOf2 i + 1).toNat)
      case atStart =>
        refine ⟨kids.length, rest, Nat.le_refl _, rfl, hown3, fun y hy => hall y (List.mem_append_left _ hy), ?_, hJ3, hB3, hs3, ?_, hbx⟩
        · rw [List.take_length]; exact hM.symm
        · simp only [NotAt, Value.ownBlock, ne_eq, Option.some.injEq]; omega
      case round =>
        obtain ⟨j, l3, hj, rfl, hown4, hall4, hsz4, hJ4, hB4, hs4, hna, hbx4⟩ := hrel
        have f2 := (hB4.cell (p := ⟨qb, qo + 2, none⟩) (by show qb < lo; omega)).trans c2
        have hln : l3.length ≤ 4194304 := by have := lenD_le l3; omega
        have b0 : wr.cell? ⟨wo.heap.size, 0, none⟩ = some (.int .i64 d) := by simp [World.cell?, hbx4]
        have b1 : wr.cell? ⟨wo.heap.size, 1, none⟩ = some (.pointer (some ⟨qb, qo, none⟩)) := by simp [World.cell?, hbx4]
        cases j with
        | zero =>
          gi_wp2
          rw [List.take_zero, Tree.szL] at hsz4
          have hln2 : (pre ++ [x]).length + M = t.sz := by rw [List.length_append, List.length_singleton]; omega
          have hh : DStk w00 lo W.heap.size t.sz J _ _ M := ⟨pre ++ [x], l3, hown4, hall4, by omega, hln2, hJ4, .inl (by simp), hB4, by omega⟩
          exact ⟨⟨M, hh⟩, Nat.lt_of_le_of_lt ((leastOf_spec ⟨M, hh⟩).2 M hh) (by omega)⟩
        | succ j =>
          have e1 : ((j + 1 : Nat) : Int) - 1 = (j : Int) := by omega
          rw [e1]
          obtain ⟨t2, ht2⟩ : ∃ t2, kids[j]? = some t2 := ⟨_, List.getElem?_eq_getElem hj⟩
          obtain ⟨kb, ko, hka, hLt⟩ := liesL_at hkids ht2
          obtain ⟨q, hq⟩ : ∃ q : Dp, q = ⟨d + 1, kb, ko + j * 5, t2⟩ := ⟨_, rfl⟩
          cases hka
          have g1 : (j : Int) < (kids.length : Int) := by omega
          have g2 : (0 : Int) ≤ (j : Int) := by omega
          have g4 : (j : Int).toNat = j := by omega
          have g3 : IntKind.i64.wrap ((j : Int) - 1) = (j : Int) - 1 := IntWalk.i64_in _ (by omega)
          have g5 : IntKind.i64.wrap ((d : Int) + 1) = (d : Int) + 1 := IntWalk.i64_in _ (by omega)
          obtain ⟨i0, hi0, hz0, hz1, hz2⟩ := info_parts infoPlace
          have hqb : qb < lo := by omega
          have hnq : u3.ownBlock ≠ some qb := by
            rcases hown4.2 with ⟨e1, -⟩ | ⟨g5, cap5, cur5, e1, e2, -⟩
            · subst e1; simp [Value.ownBlock]
            · subst e1; simp only [Value.ownBlock, ne_eq, Option.some.injEq]; omega
          have hsl : W.heap.size ≤ wr.heap.size := by omega
          have hna2 : u3.ownBlock ≠ some wo.heap.size := hna
          have hql : qb < wr.heap.size := by omega
          gi_wp2
          refine wpIn_wide.2 ?_
          go_region_held3 (fun w' => w'.cell? ⟨wo.heap.size, 0, none⟩ = some (.int .i64 d) ∧ w'.cell? ⟨wo.heap.size, 1, none⟩ = some (.pointer (some ⟨qb, qo, none⟩)) ∧ w'.cell? ⟨qb, qo + 2, none⟩ = some (.slice (some ⟨kb, ko, none⟩) kids.length kcap))
            (first
              | go_keep
              | (go_split_ands
                 refine ⟨?_, ?_, ?_⟩
                 · (rw [hgrow.cell_far _ (by simp; omega) (Ne.symm hna2)]; assumption)
                 · (rw [hgrow.cell_far _ (by simp; omega) (Ne.symm hna2)]; assumption)
                 · (rw [hgrow.cell_far _ (by simp; omega) (Ne.symm hnq)]; assumption)))
            ((refine step_append_lies _ (by rfl) _ _ _ (by rfl) W.heap.size 162 i0 _ 2 16 Tryz.underlying163 hi0 hz0 hz1 hz2 rfl (by omega) u3 l3.length (cellsOf l3) (by rfl) ((hown4.alloc _).drew)
                ⟨wr.heap.size, 0, none⟩ 1 1 [.int .i64 ((d : Int) + 1), .pointer (some ⟨kb, ko + j * 5, none⟩)] (by rfl) (by rfl) (World.news_of_block (cs := #[.int .i64 ((d : Int) + 1), .pointer (some ⟨kb, ko + j * 5, none⟩)]) (t := 162) (fr := (0, 0)) (heap_alloc_new wr _)) (by simp [Value.oneCell'])
                (by omega) (by have : maxLen = 9223372036854775807 := rfl; omega) (by omega) (by simp; omega) (wr.heap.size + 1) (by simp) ?_; intro gg cap1 w1 hown1 hgrow hat hlt))
          have h3b : Below W.heap.size wr w1 := (((Below.refl _ wr).alloc hsl _).drew).grown hgrow (by simp; omega) (fun k e => by
            rcases hown4.2 with ⟨e1, -⟩ | ⟨g5, cap5, cur5, e1, e2, -⟩
            · subst e1; simp [Value.ownBlock] at e
            · subst e1; simp only [Value.ownBlock, Option.some.injEq] at e; omega)
          have hw1 : wo.heap.size < w1.heap.size := Nat.lt_of_lt_of_le hs4 h3b.size
          have hna3 : NotAt (.slice (some ⟨gg, 0, none⟩) (l3.length + 1) cap1) wo.heap.size := by
            simp only [NotAt, Value.ownBlock, ne_eq, Option.some.injEq]
            rcases hat with h9 | h9
            · intro e; rw [e] at h9; exact hna2 h9
            · omega
          have hbx9 : w1.heap[wo.heap.size]? = some (.cells #[.int .i64 d, .pointer (some ⟨qb, qo, none⟩)] 162) := by
            rw [hgrow.block _ (by simp; omega) (Ne.symm hna2)]
            exact ((((Below.refl (wr.heap.size) wr).alloc (Nat.le_refl _) _).drew).block _ hs4).trans hbx4
          have hA : ∃ (j1 : Nat) (l4 : List Dp), j1 ≤ kids.length ∧ Value.int .i64 ((j : Int) - 1) = .int .i64 ((j1 : Int) - 1) ∧ w1.ownsRow W.heap.size 162 2 (.slice (some ⟨gg, 0, none⟩) (l3.length + 1) cap1) l4.length (cellsOf l4) ∧ (∀ y ∈ l4, Lies w00 y.p.t y.p.b y.p.off ∧ 1 ≤ y.d ∧ y.d + y.p.t.dp ≤ 8001) ∧ szD l4 + Tree.szL (kids.take j1) = M ∧ J (pre ++ [x]) w1 ∧ Below lo w00 w1 ∧ wo.heap.size < w1.heap.size ∧ NotAt (.slice (some ⟨gg, 0, none⟩) (l3.length + 1) cap1) wo.heap.size ∧ w1.heap[wo.heap.size]? = some (.cells #[.int .i64 d, .pointer (some ⟨qb, qo, none⟩)] 162) := by
            refine ⟨j, l3 ++ [q], by omega, rfl, ?_, ?_, ?_, hJ _ _ _ hJ4 h3b, hB4.trans (h3b.mono hlW), hw1, hna3, hbx9⟩
            · rw [List.length_append, cellsOf_app, hq]
              have : cellsOf [(⟨d + 1, kb, ko + j * 5, t2⟩ : Dp)] = [.int .i64 ((d : Int) + 1), .pointer (some ⟨kb, ko + j * 5, none⟩)] := by simp [cellsOf, Pl.ptr]
              rw [this]
              exact hown1
            · intro y hy
              rcases List.mem_append.1 hy with hy | hy
              · exact hall4 y hy
              · rw [List.mem_singleton] at hy
                rw [hy, hq]
                rw [Nat.zero_add] at hLt
                have := dpL_at ht2
                exact ⟨hLt, by show 1 ≤ d + 1; omega, by show d + 1 + t2.dp ≤ 8001; omega⟩
            · rw [szD_app, szD_one, hq]; have := szL_take kids j t2 ht2; show _ + t2.sz + _ = _; omega
          gi_wp2
          exact ⟨hA, by simp only [intOf2]; omega⟩
end Go.Proofs.YtmlhldohlfghaaaGreatDoor
