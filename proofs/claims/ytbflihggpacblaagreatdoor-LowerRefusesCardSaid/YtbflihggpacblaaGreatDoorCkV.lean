/- Checkpoints: what a run leaves behind, cut down to the blocks that a value reaches, is a memory to begin the next run from. No condition. · What the steps of awake() yield, and the blocks that they leave. No condition. -/
import Derived.Test.YtbflihggpacblaaGreatDoorLib2
namespace Go.Ev
set_option linter.unusedSectionVars false
variable [Sig]

/-- a memory that tells less -/
theorem HSim.less {P : Program} {W0 w : World} {E : Env} {h : H} (S : HSim P W0 E h w) {h2 : H} (hn : h2.next = h.next) (hs : ∀ b x, h2.get b = some x → h.get b = some x) : HSim P W0 E h2 w := by
  refine ⟨S.size, S.base, S.os, S.out, by rw [hn]; exact S.low, S.glob, fun b e hb => by rw [hn]; exact S.dom b e hb, ?_, fun b e x hb hx => S.blk b e x hb (hs b x hx), fun b e x hb hx => S.own b e x hb (hs b x hx),
    fun b e cs el tl hb hx => S.ronly b e cs el tl hb (hs b _ hx), fun b c e f x y hb hc hx hy => S.inj b c e f x y hb hc (hs b x hx) (hs c y hy)⟩
  intro b hb
  rw [hn] at hb
  cases hg : h2.get b with
  | none => rfl
  | some x => have := hs b x hg; rw [S.top b hb] at this; cases this

def Bq (a b : Bool) : Bool := match a, b with | true, true => true | false, false => true | _, _ => false
omit [Sig] in
theorem Bq_eq {a b : Bool} (h : Bq a b = true) : a = b := by cases a <;> cases b <;> first | rfl | cases h
noncomputable def blkBeq : Blk → Blk → Bool
  | .cells cs e t r, .cells ds f u s => Nat.beq e f && Bq t u && Bq r s && AV.beqL cs ds
  | _, _ => false
theorem blkBeq_eq {x y : Blk} (h : blkBeq x y = true) : x = y := by
  cases x <;> cases y <;> first | (cases h; done) | skip
  simp only [blkBeq, Bool.and_eq_true] at h
  obtain ⟨⟨⟨h1, h2⟩, h3⟩, h4⟩ := h
  rw [Nat.eq_of_beq_eq_true h1, Bq_eq h2, Bq_eq h3, AV.beqL_eq _ _ h4]
noncomputable def trL : List (Nat × Blk) → Tr Blk
  | [] => .nil
  | p :: ps => (trL ps).put p.1 p.2
/-- a memory of these blocks alone -/
noncomputable def mkH (N : Nat) (L : List (Nat × Blk)) : H := ⟨N, trL L⟩
omit [Sig] in
theorem trL_get : ∀ (l : List (Nat × Blk)) (b : Nat) (x : Blk), (trL l).get b = some x → (b, x) ∈ l
  | [], b, x, h => by rw [trL, Tr.get_nil] at h; cases h
  | p :: ps, b, x, h => by
    rw [trL, Tr.get_put] at h
    split at h
    · rename_i he; cases h; subst he; simp
    · exact List.mem_cons_of_mem _ (trL_get ps b x h)
noncomputable def allB (h : H) : List (Nat × Blk) → Bool
  | [] => true
  | p :: ps => (match h.get p.1 with | some x => blkBeq x p.2 | none => false) && allB h ps
theorem allB_mem {h : H} : ∀ {l : List (Nat × Blk)}, allB h l = true → ∀ b x, (b, x) ∈ l → h.get b = some x
  | [], _, b, x, hm => by cases hm
  | p :: ps, hl, b, x, hm => by
    simp only [allB, Bool.and_eq_true] at hl
    rcases List.mem_cons.1 hm with rfl | hm
    · obtain ⟨h1, -⟩ := hl
      split at h1
      · rename_i y hy; rw [hy, blkBeq_eq h1]
      · cases h1
    · exact allB_mem hl.2 b x hm
/-- the run yields this value and leaves these blocks -/
noncomputable def ckR (V : AV) (N : Nat) (L : List (Nat × Blk)) : OR → Bool
  | .val v h => AV.beq v V && Nat.beq h.next N && allB h L
  | _ => false

theorem run_ck {P : Program} {W0 w : World} (hP : ProgOk P) {O : Orc} (hO : OrcOk P W0 O) {E : Env} {h : H} (S : HSim P W0 E h w) {f : FuncId} {args : List AV} {us : List Value} {n : Nat} {V : AV} {N : Nat} {L : List (Nat × Blk)}
    (hr : ckR V N L ((fnsF P O n).call f args h) = true) (hu : cvL E args = some us) :
    Calls P f us.toArray w (fun e w' => ∃ E' u, e = .returned u ∧ HSim P W0 E' (mkH N L) w' ∧ cv E' V = some u ∧ ∀ b x, E b = some x → E' b = some x) := by
  rw [fnsF_eq] at hr
  cases hc : (fns P O n).call f args h with
  | val v h' =>
    rw [hc] at hr
    simp only [ckR, Bool.and_eq_true] at hr
    obtain ⟨⟨h1, h2⟩, h3⟩ := hr
    have h1 := AV.beq_eq _ _ h1
    subst h1
    have ho : Outs ((fns P O n).call f args h) := by rw [hc]; trivial
    obtain ⟨-, h5⟩ := (fns_ok hP hO n).call E h w f args us S hu ho
    rw [callsIn_wide] at h5
    refine h5.mono fun e w' he => ?_
    rw [hc] at he
    obtain ⟨E', u, he, ht, hs, hv⟩ := he
    exact ⟨E', u, he, hs.less (Nat.eq_of_beq_eq_true h2).symm (fun b x hx => allB_mem h3 b x (trL_get _ b x hx)), hv, ht.up⟩
  | fail => rw [hc] at hr; cases hr
  | pan _ _ => rw [hc] at hr; cases hr
  | dfr _ _ => rw [hc] at hr; cases hr
/-- the same, for reading alone -/
def Blk.lock : Blk → Blk
  | .cells cs e t _ => .cells cs e t true
  | _ => .dead
noncomputable def roL : List (Nat × Blk) → List (Nat × Blk)
  | [] => []
  | p :: ps => (p.1, p.2.lock) :: roL ps
omit [Sig] in
theorem roL_get : ∀ (l : List (Nat × Blk)) (b : Nat) (x : Blk), (trL (roL l)).get b = some x → ∃ y, (trL l).get b = some y ∧ x = y.lock
  | [], b, x, h => by rw [roL, trL, Tr.get_nil] at h; cases h
  | p :: ps, b, x, h => by
    rw [roL, trL, Tr.get_put] at h
    rw [trL, Tr.get_put]
    split at h
    · rename_i he; cases h; rw [if_pos he]; exact ⟨_, rfl, rfl⟩
    · rename_i he; rw [if_neg he]; exact roL_get ps b x h
omit [Sig] in
theorem lock_wr (x : Blk) : x.lock.wr = false := by cases x <;> rfl
theorem BlkOk.lock {P : Program} {E : Env} {e : Loc} {o : Obj} : ∀ {x : Blk}, BlkOk P E e o x → BlkOk P E e o x.lock
  | .cells cs el tail ro, ⟨C, el', fz, h1, _, h3, h4, h5⟩ => ⟨C, el', fz, h1, (fun h => absurd h (by decide)), h3, h4, h5⟩
  | .map _ _, _ => trivial
  | .siter _ _ _, _ => trivial
  | .loop .., _ => trivial
  | .deferred _, _ => trivial
  | .dead, _ => trivial
  | .mapU _ _, _ => trivial
theorem HSim.lock {P : Program} {W0 w : World} {E : Env} {N : Nat} {L : List (Nat × Blk)} (S : HSim P W0 E (mkH N L) w) : HSim P w E (mkH N (roL L)) w := by
  have hg : ∀ b x, (mkH N (roL L)).get b = some x → ∃ y, (mkH N L).get b = some y ∧ x = y.lock := fun b x h => roL_get L b x h
  refine ⟨Nat.le_refl _, fun _ _ => rfl, rfl, rfl, S.low, S.glob, S.dom, ?_, ?_, ?_, ?_, ?_⟩
  · intro b hb
    cases hc : (mkH N (roL L)).get b with
    | none => rfl
    | some x => obtain ⟨y, hy, -⟩ := hg b x hc; rw [S.top b hb] at hy; cases hy
  · intro b e x hb hx
    obtain ⟨y, hy, rfl⟩ := hg b x hx
    obtain ⟨o, ho, hk⟩ := S.blk b e y hb hy
    exact ⟨o, ho, hk.lock⟩
  · intro b e x hb hx hw
    obtain ⟨y, hy, rfl⟩ := hg b x hx
    rw [lock_wr] at hw; cases hw
  · intro b e cs el tl hb hx
    obtain ⟨y, hy, -⟩ := hg b _ hx
    obtain ⟨o, ho, -⟩ := S.blk b e y hb hy
    exact (Array.getElem?_eq_some_iff.1 ho).1
  · intro b c e f x y hb hc hx hy hwx hwy he
    obtain ⟨z, hz, rfl⟩ := hg b x hx
    rw [lock_wr] at hwx; cases hwx
/-- these blocks lie in the world -/
def At (P : Program) (E : Env) (N : Nat) (L : List (Nat × Blk)) (w : World) : Prop := ∃ W0, HSim P W0 E (mkH N L) w
theorem At.keeps {P : Program} {E : Env} {N : Nat} {L : List (Nat × Blk)} {w w' : World} (h : At P E N L w) (k : Keeps w w') : At P E N (roL L) w' :=
  let ⟨_, S⟩ := h
  ⟨w, S.lock.grown k⟩
theorem At.lock {P : Program} {E : Env} {N : Nat} {L : List (Nat × Blk)} {w : World} (h : At P E N L w) : At P E N (roL L) w := h.keeps (Keeps.refl w)
theorem roL_roL : ∀ (L : List (Nat × Blk)), roL (roL L) = roL L
  | [] => rfl
  | p :: ps => by
    rw [roL, roL, roL_roL ps]
    cases p with
    | mk a x => cases x <;> rfl
/-- one step: from the blocks that an earlier step left -/
theorem step_ck {P : Program} {w : World} (hP : ProgOk P) {O : Orc} (hO : OrcOk P w O) {E : Env} {N : Nat} {L : List (Nat × Blk)} (h : At P E N (roL L) w) {f : FuncId} {args : List AV} {us : List Value} {n : Nat} {V : AV} {N' : Nat} {L' : List (Nat × Blk)}
    (hr : ckR V N' L' ((fnsF P O n).call f args (mkH N (roL L))) = true) (hu : cvL E args = some us) :
    Calls P f us.toArray w (fun e w' => Keeps w w' ∧ ∃ E' u, e = .returned u ∧ At P E' N' L' w' ∧ cv E' V = some u) := by
  obtain ⟨W0, S⟩ := h
  have S' := S.lock
  rw [roL_roL] at S'
  exact (run_ck hP hO S' hr hu).mono fun _ _ ⟨E', u, he, hs, hv, _⟩ => ⟨hs.keeps, E', u, he, ⟨w, hs⟩, hv⟩
/-- the first step -/
theorem step0_ck {P : Program} {w : World} (hP : ProgOk P) {O : Orc} (hO : OrcOk P w O) {l : List Tab} (ht : TabsOk w l) {f : FuncId} {args : List AV} {us : List Value} {n : Nat} {V : AV} {N' : Nat} {L' : List (Nat × Blk)}
    (hr : ckR V N' L' ((fnsF P O n).call f args (hInit l)) = true) (hu : cvL E00 args = some us) :
    Calls P f us.toArray w (fun e w' => Keeps w w' ∧ ∃ E' u, e = .returned u ∧ At P E' N' L' w' ∧ cv E' V = some u) :=
  (run_ck hP hO (start_sim ht) hr hu).mono fun _ _ ⟨E', u, he, hs, hv, _⟩ => ⟨hs.keeps, E', u, he, ⟨w, hs⟩, hv⟩
end Go.Ev
namespace Go.Proofs.YtbflihggpacblaaGreatDoor
open Go Go.Ev
set_option linter.unusedSectionVars false
variable [Sig]
def V_of : AV := .tuple [.agg [.int .i64 86, .str 0 0, .slice 751 0 2 2 false, .int .i64 0, .int .i64 31], .slice 500 0 1 1 false, .bool true]
def N_of : Nat := 822
noncomputable def L_of : List (Nat × Blk) := [(0, .cells tab.cs 0 false true), (362, .cells [.int .i64 1, .str 1 98, .nilslice, .int .i64 6, .int .i64 7, .int .i64 3, .str 1 49, .nilslice, .int .i64 8, .int .i64 9] 24 false false), (418, .cells [.int .i64 1, .str 1 99, .nilslice, .int .i64 10, .int .i64 11] 24 false false), (420, .cells [.int .i64 13, .str 0 0, .slice 362 0 2 2 true, .int .i64 6, .int .i64 9, .int .i64 13, .str 5 500136110195, .slice 418 0 1 1 true, .int .i64 10, .int .i64 11] 24 true false), (459, .cells [.int .i64 1, .str 1 97, .nilslice, .int .i64 0, .int .i64 1, .int .i64 12, .str 0 0, .slice 420 0 2 2 false, .int .i64 5, .int .i64 12] 24 false false), (470, .cells [.int .i64 30, .str 1 61, .slice 459 0 2 2 true, .int .i64 0, .int .i64 12] 24 false false), (500, .cells [.int .i64 1, .str 4 2015375151, .int .i64 16, .int .i64 20] 79 true false), (700, .cells [.int .i64 1, .str 1 98, .nilslice, .int .i64 28, .int .i64 29, .int .i64 36, .str 0 0, .nilslice, .int .i64 29, .int .i64 31] 24 false false), (742, .cells [.int .i64 35, .str 0 0, .slice 700 0 2 2 true, .int .i64 28, .int .i64 31] 24 false false), (748, .cells [.int .i64 1, .str 1 97, .nilslice, .int .i64 26, .int .i64 27, .int .i64 57, .str 0 0, .slice 742 0 1 1 true, .int .i64 28, .int .i64 31, .int .i64 0, .str 0 0, .nilslice, .int .i64 0, .int .i64 0] 24 false false), (751, .cells [.int .i64 57, .str 0 0, .slice 470 0 1 1 true, .int .i64 0, .int .i64 14, .int .i64 62, .str 0 0, .slice 748 0 3 3 true, .int .i64 23, .int .i64 31] 24 true false)]
def A_of : List AV := [.str 31 72719445942331125114697810434525025190172354517124980332480923688329289825, .bool false]
def V_lower : AV := .tuple [.agg [.int .i64 2, .str 0 0, .slice 1868 0 2 2 false, .bool false, .int .i64 0, .int .i64 0], .int .i64 0]
def N_lower : Nat := 1869
noncomputable def L_lower : List (Nat × Blk) := [(0, .cells tab.cs 0 false true), (1574, .cells [.int .i64 3, .str 0 0, .nilslice, .bool false, .int .i64 0, .int .i64 0, .int .i64 1, .str 1 49, .nilslice, .bool false, .int .i64 0, .int .i64 0] 31 true false), (1575, .cells [.int .i64 2, .str 0 0, .slice 1574 0 2 2 false, .bool false, .int .i64 0, .int .i64 0] 31 false false), (1583, .cells [.int .i64 11, .str 0 0, .slice 1575 0 1 1 true, .bool false, .int .i64 0, .int .i64 0] 31 true false), (1584, .cells [.int .i64 2, .str 0 0, .slice 1583 0 1 1 false, .bool false, .int .i64 0, .int .i64 0] 31 false false), (1597, .cells [.int .i64 1, .str 1 98, .nilslice, .bool false, .int .i64 0, .int .i64 0, .int .i64 1, .str 1 58, .nilslice, .bool false, .int .i64 0, .int .i64 0, .int .i64 7, .str 0 0, .slice 1584 0 1 1 true, .bool false, .int .i64 0, .int .i64 0] 31 true false), (1634, .cells [.int .i64 3, .str 0 0, .nilslice, .bool false, .int .i64 0, .int .i64 0, .int .i64 2, .str 0 0, .slice 1597 0 3 3 false, .bool false, .int .i64 0, .int .i64 0, .int .i64 1, .str 1 44, .nilslice, .bool false, .int .i64 0, .int .i64 0, .int .i64 3, .str 0 0, .nilslice, .bool false, .int .i64 0, .int .i64 0, .int .i64 1, .str 1 99, .nilslice, .bool false, .int .i64 0, .int .i64 0] 31 true false), (1635, .cells [.int .i64 2, .str 0 0, .slice 1634 0 5 5 false, .bool false, .int .i64 0, .int .i64 0] 31 false false), (1652, .cells [.int .i64 1, .str 1 123, .nilslice, .bool false, .int .i64 0, .int .i64 0, .int .i64 11, .str 0 0, .slice 1635 0 1 1 true, .bool false, .int .i64 0, .int .i64 0, .int .i64 3, .str 0 0, .nilslice, .bool false, .int .i64 0, .int .i64 0, .int .i64 1, .str 1 125, .nilslice, .bool false, .int .i64 0, .int .i64 0] 31 true false), (1653, .cells [.int .i64 2, .str 0 0, .slice 1652 0 4 4 false, .bool false, .int .i64 0, .int .i64 0] 31 false false), (1663, .cells [.int .i64 1, .str 1 32, .nilslice, .bool false, .int .i64 0, .int .i64 0, .int .i64 7, .str 0 0, .slice 1653 0 1 1 true, .bool false, .int .i64 0, .int .i64 0] 31 true false), (1678, .cells [.int .i64 1, .str 1 97, .nilslice, .bool false, .int .i64 0, .int .i64 0, .int .i64 1, .str 1 32, .nilslice, .bool false, .int .i64 0, .int .i64 0, .int .i64 1, .str 1 61, .nilslice, .bool false, .int .i64 0, .int .i64 0, .int .i64 2, .str 0 0, .slice 1663 0 2 2 false, .bool false, .int .i64 0, .int .i64 0] 31 true false), (1687, .cells [.int .i64 2, .str 0 0, .slice 1678 0 4 4 false, .bool false, .int .i64 0, .int .i64 0, .int .i64 1, .str 1 59, .nilslice, .bool false, .int .i64 0, .int .i64 0] 31 true false), (1701, .cells [.int .i64 1, .str 1 32, .nilslice, .bool false, .int .i64 0, .int .i64 0, .int .i64 1, .str 4 2015375151, .nilslice, .bool false, .int .i64 0, .int .i64 0] 31 true false), (1702, .cells [.int .i64 2, .str 0 0, .slice 1701 0 2 2 false, .bool false, .int .i64 0, .int .i64 0] 31 false false), (1713, .cells [.int .i64 2, .str 0 0, .slice 1687 0 2 2 false, .bool false, .int .i64 0, .int .i64 0, .int .i64 14, .str 0 0, .slice 1702 0 1 1 true, .bool false, .int .i64 0, .int .i64 0, .int .i64 16, .str 0 0, .nilslice, .bool false, .int .i64 0, .int .i64 0] 31 true false), (1734, .cells [.int .i64 4, .str 0 0, .nilslice, .bool false, .int .i64 0, .int .i64 0, .int .i64 1, .str 1 97, .nilslice, .bool false, .int .i64 0, .int .i64 0] 31 true false), (1735, .cells [.int .i64 2, .str 0 0, .slice 1734 0 2 2 false, .bool false, .int .i64 0, .int .i64 0] 31 false false), (1757, .cells [.int .i64 1, .str 2 26217, .nilslice, .bool false, .int .i64 0, .int .i64 0, .int .i64 1, .str 2 10272, .nilslice, .bool false, .int .i64 0, .int .i64 0, .int .i64 11, .str 0 0, .slice 1735 0 1 1 true, .bool false, .int .i64 0, .int .i64 0, .int .i64 4, .str 0 0, .nilslice, .bool false, .int .i64 0, .int .i64 0, .int .i64 1, .str 1 41, .nilslice, .bool false, .int .i64 0, .int .i64 0] 31 true false), (1758, .cells [.int .i64 2, .str 0 0, .slice 1757 0 5 5 false, .bool false, .int .i64 0, .int .i64 0] 31 false false), (1783, .cells [.int .i64 1, .str 2 10536, .nilslice, .bool false, .int .i64 0, .int .i64 0] 31 true false), (1793, .cells [.int .i64 2, .str 0 0, .slice 1783 0 1 1 false, .bool false, .int .i64 0, .int .i64 0] 31 true false), (1802, .cells [.int .i64 1, .str 1 98, .nilslice, .bool false, .int .i64 0, .int .i64 0, .int .i64 2, .str 0 0, .slice 1793 0 1 1 false, .bool false, .int .i64 0, .int .i64 0] 31 true false), (1811, .cells [.int .i64 2, .str 0 0, .slice 1802 0 2 2 false, .bool false, .int .i64 0, .int .i64 0, .int .i64 1, .str 1 59, .nilslice, .bool false, .int .i64 0, .int .i64 0] 31 true false), (1821, .cells [.int .i64 5, .str 0 0, .nilslice, .bool false, .int .i64 0, .int .i64 0, .int .i64 2, .str 0 0, .slice 1811 0 2 2 false, .bool false, .int .i64 0, .int .i64 0] 31 true false), (1822, .cells [.int .i64 2, .str 0 0, .slice 1821 0 2 2 false, .bool false, .int .i64 0, .int .i64 0] 31 false false), (1832, .cells [.int .i64 7, .str 0 0, .slice 1758 0 1 1 true, .bool false, .int .i64 0, .int .i64 0, .int .i64 11, .str 0 0, .slice 1822 0 1 1 true, .bool false, .int .i64 0, .int .i64 0] 31 true false), (1839, .cells [.int .i64 2, .str 0 0, .slice 1832 0 2 2 false, .bool false, .int .i64 0, .int .i64 0] 31 true false), (1857, .cells [.int .i64 2, .str 0 0, .slice 1713 0 3 3 false, .bool false, .int .i64 0, .int .i64 0, .int .i64 5, .str 0 0, .nilslice, .bool false, .int .i64 0, .int .i64 0, .int .i64 5, .str 0 0, .nilslice, .bool false, .int .i64 0, .int .i64 0, .int .i64 2, .str 0 0, .slice 1839 0 1 1 false, .bool false, .int .i64 0, .int .i64 0] 31 true false), (1868, .cells [.int .i64 2, .str 0 0, .slice 1857 0 4 4 false, .bool false, .int .i64 0, .int .i64 0, .int .i64 5, .str 0 0, .nilslice, .bool false, .int .i64 0, .int .i64 0] 31 true false)]
def A_lower : List AV := [.str 31 72719445942331125114697810434525025190172354517124980332480923688329289825, .agg [.int .i64 86, .str 0 0, .slice 751 0 2 2 false, .int .i64 0, .int .i64 31], .slice 500 0 1 1 false, .agg [.int .i64 80, .int .i64 2, .bool false, .bool true, .bool false, .bool false, .bool true, .bool false, .bool false]]
def V_spread : AV := .agg [.int .i64 2, .str 0 0, .slice 2317 0 2 2 false, .bool false, .int .i64 0, .int .i64 0]
def N_spread : Nat := 2319
noncomputable def L_spread : List (Nat × Blk) := [(0, .cells tab.cs 0 false true), (2095, .cells [.int .i64 3, .str 0 0, .nilslice, .bool false, .int .i64 0, .int .i64 0, .int .i64 1, .str 1 49, .nilslice, .bool false, .int .i64 0, .int .i64 0] 31 true false), (2098, .cells [.int .i64 2, .str 0 0, .slice 2095 0 2 2 false, .bool false, .int .i64 0, .int .i64 0] 31 true false), (2101, .cells [.int .i64 11, .str 0 0, .slice 2098 0 1 1 false, .bool false, .int .i64 0, .int .i64 0] 31 true false), (2104, .cells [.int .i64 2, .str 0 0, .slice 2101 0 1 1 false, .bool false, .int .i64 0, .int .i64 0] 31 true false), (2107, .cells [.int .i64 1, .str 1 98, .nilslice, .bool false, .int .i64 0, .int .i64 0, .int .i64 1, .str 1 58, .nilslice, .bool false, .int .i64 0, .int .i64 0, .int .i64 7, .str 0 0, .slice 2104 0 1 1 false, .bool false, .int .i64 0, .int .i64 0] 31 true false), (2125, .cells [.int .i64 3, .str 0 0, .nilslice, .bool false, .int .i64 0, .int .i64 0, .int .i64 2, .str 0 0, .slice 2107 0 3 3 false, .bool false, .int .i64 0, .int .i64 0, .int .i64 1, .str 1 44, .nilslice, .bool false, .int .i64 0, .int .i64 0, .int .i64 3, .str 0 0, .nilslice, .bool false, .int .i64 0, .int .i64 0, .int .i64 1, .str 1 99, .nilslice, .bool false, .int .i64 0, .int .i64 0] 31 true false), (2128, .cells [.int .i64 2, .str 0 0, .slice 2125 0 5 5 false, .bool false, .int .i64 0, .int .i64 0] 31 true false), (2141, .cells [.int .i64 1, .str 1 123, .nilslice, .bool false, .int .i64 0, .int .i64 0, .int .i64 11, .str 0 0, .slice 2128 0 1 1 false, .bool false, .int .i64 0, .int .i64 0, .int .i64 3, .str 0 0, .nilslice, .bool false, .int .i64 0, .int .i64 0, .int .i64 1, .str 1 125, .nilslice, .bool false, .int .i64 0, .int .i64 0] 31 true false), (2144, .cells [.int .i64 2, .str 0 0, .slice 2141 0 4 4 false, .bool false, .int .i64 0, .int .i64 0] 31 true false), (2147, .cells [.int .i64 1, .str 1 32, .nilslice, .bool false, .int .i64 0, .int .i64 0, .int .i64 7, .str 0 0, .slice 2144 0 1 1 false, .bool false, .int .i64 0, .int .i64 0] 31 true false), (2150, .cells [.int .i64 1, .str 1 97, .nilslice, .bool false, .int .i64 0, .int .i64 0, .int .i64 1, .str 1 32, .nilslice, .bool false, .int .i64 0, .int .i64 0, .int .i64 1, .str 1 61, .nilslice, .bool false, .int .i64 0, .int .i64 0, .int .i64 2, .str 0 0, .slice 2147 0 2 2 false, .bool false, .int .i64 0, .int .i64 0] 31 true false), (2158, .cells [.int .i64 2, .str 0 0, .slice 2150 0 4 4 false, .bool false, .int .i64 0, .int .i64 0, .int .i64 1, .str 1 59, .nilslice, .bool false, .int .i64 0, .int .i64 0] 31 true false), (2175, .cells [.int .i64 1, .str 1 32, .nilslice, .bool false, .int .i64 0, .int .i64 0, .int .i64 1, .str 4 2015375151, .nilslice, .bool false, .int .i64 0, .int .i64 0] 31 true false), (2178, .cells [.int .i64 2, .str 0 0, .slice 2175 0 2 2 false, .bool false, .int .i64 0, .int .i64 0] 31 true false), (2186, .cells [.int .i64 2, .str 0 0, .slice 2158 0 2 2 false, .bool false, .int .i64 0, .int .i64 0, .int .i64 14, .str 0 0, .slice 2178 0 1 1 false, .bool false, .int .i64 0, .int .i64 0, .int .i64 16, .str 0 0, .nilslice, .bool false, .int .i64 0, .int .i64 0] 31 true false), (2231, .cells [.int .i64 4, .str 0 0, .nilslice, .bool false, .int .i64 0, .int .i64 0, .int .i64 1, .str 1 97, .nilslice, .bool false, .int .i64 0, .int .i64 0] 31 true false), (2234, .cells [.int .i64 2, .str 0 0, .slice 2231 0 2 2 false, .bool false, .int .i64 0, .int .i64 0] 31 true false), (2247, .cells [.int .i64 1, .str 2 26217, .nilslice, .bool false, .int .i64 0, .int .i64 0, .int .i64 1, .str 2 10272, .nilslice, .bool false, .int .i64 0, .int .i64 0, .int .i64 11, .str 0 0, .slice 2234 0 1 1 false, .bool false, .int .i64 0, .int .i64 0, .int .i64 4, .str 0 0, .nilslice, .bool false, .int .i64 0, .int .i64 0, .int .i64 1, .str 1 41, .nilslice, .bool false, .int .i64 0, .int .i64 0] 31 true false), (2250, .cells [.int .i64 2, .str 0 0, .slice 2247 0 5 5 false, .bool false, .int .i64 0, .int .i64 0] 31 true false), (2280, .cells [.int .i64 1, .str 2 10536, .nilslice, .bool false, .int .i64 0, .int .i64 0] 31 true false), (2283, .cells [.int .i64 2, .str 0 0, .slice 2280 0 1 1 false, .bool false, .int .i64 0, .int .i64 0] 31 true false), (2286, .cells [.int .i64 1, .str 1 98, .nilslice, .bool false, .int .i64 0, .int .i64 0, .int .i64 2, .str 0 0, .slice 2283 0 1 1 false, .bool false, .int .i64 0, .int .i64 0] 31 true false), (2294, .cells [.int .i64 2, .str 0 0, .slice 2286 0 2 2 false, .bool false, .int .i64 0, .int .i64 0, .int .i64 1, .str 1 59, .nilslice, .bool false, .int .i64 0, .int .i64 0] 31 true false), (2297, .cells [.int .i64 5, .str 0 0, .nilslice, .bool false, .int .i64 0, .int .i64 0, .int .i64 2, .str 0 0, .slice 2294 0 2 2 false, .bool false, .int .i64 0, .int .i64 0] 31 true false), (2300, .cells [.int .i64 2, .str 0 0, .slice 2297 0 2 2 false, .bool false, .int .i64 0, .int .i64 0] 31 true false), (2303, .cells [.int .i64 7, .str 0 0, .slice 2250 0 1 1 false, .bool false, .int .i64 0, .int .i64 0, .int .i64 11, .str 0 0, .slice 2300 0 1 1 false, .bool false, .int .i64 0, .int .i64 0] 31 true false), (2306, .cells [.int .i64 2, .str 0 0, .slice 2303 0 2 2 false, .bool false, .int .i64 0, .int .i64 0] 31 true false), (2309, .cells [.int .i64 2, .str 0 0, .slice 2186 0 3 3 false, .bool false, .int .i64 0, .int .i64 0, .int .i64 5, .str 0 0, .nilslice, .bool false, .int .i64 0, .int .i64 0, .int .i64 5, .str 0 0, .nilslice, .bool false, .int .i64 0, .int .i64 0, .int .i64 2, .str 0 0, .slice 2306 0 1 1 false, .bool false, .int .i64 0, .int .i64 0] 31 true false), (2317, .cells [.int .i64 2, .str 0 0, .slice 2309 0 4 4 false, .bool false, .int .i64 0, .int .i64 0, .int .i64 5, .str 0 0, .nilslice, .bool false, .int .i64 0, .int .i64 0] 31 true false)]
def A_spread : List AV := [.agg [.int .i64 2, .str 0 0, .slice 1868 0 2 2 false, .bool false, .int .i64 0, .int .i64 0]]
def V_layout : AV := .tuple [.str 37 5088162156377104119428203981306241491789588565850710075235727722002126482329385740083297, .int .i64 0]
def N_layout : Nat := 2915
noncomputable def L_layout : List (Nat × Blk) := [(0, .cells tab.cs 0 false true)]
def A_layout : List AV := [.agg [.int .i64 2, .str 0 0, .slice 2317 0 2 2 false, .bool false, .int .i64 0, .int .i64 0], .agg [.int .i64 80, .int .i64 2, .bool false, .bool true, .bool false, .bool false, .bool true, .bool false, .bool false]]
def V_bad : AV := .tuple [.agg [.int .i64 0, .str 0 0, .nilslice, .bool false, .int .i64 0, .int .i64 0], .int .i64 2000]
def A_bad : List AV := [.str 31 72719445942331125114697810434525025190172354517124980332480923688329289825, .agg [.int .i64 86, .str 0 0, .slice 751 0 2 2 false, .int .i64 0, .int .i64 31], .slice 500 0 1 1 false, .agg [.int .i64 0, .int .i64 0, .bool false, .bool false, .bool false, .bool false, .bool false, .bool false, .bool false]]
noncomputable def L_bad : List (Nat × Blk) := [(0, .cells tab.cs 0 false true)]
def N_bad : Nat := 825
end Go.Proofs.YtbflihggpacblaaGreatDoor
