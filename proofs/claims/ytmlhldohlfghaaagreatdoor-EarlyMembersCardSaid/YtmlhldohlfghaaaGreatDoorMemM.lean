/- The answer for early.members, by what the abstract memory tells of the members. No condition. -/
import Derived.Test.YtmlhldohlfghaaaGreatDoorMemD
namespace Go.Proofs.YtmlhldohlfghaaaGreatDoor
open Go Go.RowKit Go.Proofs Go.Ev
set_option linter.unusedVariables false
set_option linter.unusedSectionVars false
set_option linter.unusedSimpArgs false
/-- what an item's alternative makes of it -/
def atAlt (i k : Nat) (v : AV) : AV := match v with
  | .sel j vs => (match Nat.beq i j with | true => (match nthN vs k with | some u => u | none => v) | false => v)
  | _ => v
def isStr (v : AV) (l : List UInt8) : Bool := match v with
  | .str n c => Nat.beq n l.length && Nat.beq c (codeOf l)
  | _ => false
/-- a number, it may be told as a place behind the item -/
def isInt (tx : Tx) (j k : Nat) (v : AV) (z : Int) : Bool := match v with
  | .int .i64 x => !(symB z) && (ieq x z || (match plcI tx [(j, k)] .i64 z with | .int _ y => ieq x y | _ => false))
  | _ => false
def keyOk (tx : Tx) (j k : Nat) (ks : List AV) (off : Nat) : Bool := match ks[off]?, ks[off + 1]? with
  | some a, some b => isInt tx j k (atAlt j k a) (shK0 k) && (Nat.beq k 9 || isStr (atAlt j k b) (shT0 k))
  | _, _ => false
noncomputable def kidAt (h : H) (j k : Nat) (v : AV) : Bool := match atAlt j k v with
  | .slice b off n _ _ => (match Nat.ble 1 n, h.get b with
    | true, some (.cells ks _ _ _) => keyOk h.tx j k ks off
    | _, _ => false)
  | _ => false
noncomputable def shapeOk (h : H) (j k : Nat) (cs : List AV) : Bool := match cs with
  | a :: b :: c :: d :: _ => isInt h.tx j k (atAlt j k a) (shK k) && (isStr (atAlt j k b) (shT k) && (kidAt h j k c && nnI h.tx d))
  | _ => false
noncomputable def allAlt (h : H) (j : Nat) (cs : List AV) : List Nat → Bool
  | [] => true
  | k :: l => (match Nat.blt k 12 && shapeOk h j k cs with | true => allAlt h j cs l | false => false)
noncomputable def allKids (h : H) (ks : List AV) (off : Nat) : Nat → Nat → Bool
  | 0, _ => true
  | n + 1, j => (match ksOf h.tx j with
    | [] => false
    | k :: l => (match allAlt h j (ks.drop (Nat.add off (Nat.mul j 5))) (k :: l) with | true => allKids h ks off n (Nat.succ j) | false => false))
/-- the look at m members that are fine or not, as 'v' tells -/
noncomputable def membersM (v : Bool) (m : Nat) : AnsM := fun args h => match args with
  | [.ptr b off] => (match h.get b with
    | some (.cells cs _ _ _) => (match cs[off + 2]? with
      | some .nilslice => (match Nat.beq m 0 with | true => some (.val (.tuple [])) | false => none)
      | some (.slice kb ko n _ _) => (match h.get kb with
        | some (.cells ks _ _ _) => (match Nat.beq n m && allKids h ks ko n 0 with
          | true => (match v with
            | true => some (.val (.tuple []))
            | false => some (.pan 47 .i64 1211 0 600000))
          | false => none)
        | _ => none)
      | _ => none)
    | _ => none)
  | _ => none
section
variable [Sig]
variable {P : Program} {W0 : Wb} {E : Env} {h : H} {w : World}
theorem nth_cv : ∀ (vs : List AV) (k : Nat) (v : AV), nthN vs k = some v → cvN E vs k = cv E v
  | x :: _, 0, v, h => by simp only [nthN, Option.some.injEq] at h; subst h; simp only [cvN]
  | _ :: l, k + 1, v, h => by simp only [nthN] at h; simp only [cvN]; exact nth_cv l k v h
  | [], k, v, h => by simp only [nthN] at h; cases h
theorem atAlt_cv {i k : Nat} (hk : Sig.kap i = k) {v : AV} {u : Value} (hu : cv E v = some u) : cv E (atAlt i k v) = some u := by
  unfold atAlt
  split
  · rename_i j vs
    split
    · rename_i hj
      have := Nat.eq_of_beq_eq_true hj
      subst this
      split
      · rename_i u' hn
        simp only [cv] at hu
        rw [hk, nth_cv _ _ _ hn] at hu
        exact hu
      · exact hu
    · exact hu
  · exact hu
theorem isInt_cv {tx : Tx} (ht : TxOk tx) (hon : tx.on = true) {j k : Nat} (hk : Sig.kap j = k) {v : AV} {z : Int} (h : isInt tx j k v z = true) {u : Value} (hu : cv E v = some u) : u = .int .i64 z := by
  have hA : AsmOk [(j, k)] := by
    intro p hp
    rw [List.mem_singleton] at hp
    subst hp
    exact hk
  unfold isInt at h
  split at h
  · rename_i x
    rw [Bool.and_eq_true] at h
    have hz : dec z = z := dec_of (by simpa using h.1)
    rcases Bool.or_eq_true .. ▸ h.2 with h1 | h1
    · have h1 := ieq_sound h1
      subst h1
      simp only [cv, Option.some.injEq] at hu
      rw [hz] at hu
      exact hu.symm
    · have h2 := plcI_cv ht hon hA (E := E) (k := .i64) (z := z)
      split at h1
      · rename_i ik y hy
        have h1 := ieq_sound h1
        subst h1
        rw [hy] at h2
        simp only [cv, Option.some.injEq, Value.int.injEq] at h2 hu
        obtain ⟨rfl, h3⟩ := h2
        rw [h3, hz] at hu
        exact hu.symm
      · cases h1
  · cases h
theorem isStr_cv {v : AV} {l : List UInt8} (h : isStr v l = true) {u : Value} (hu : cv E v = some u) : u = .string (bs l) := by
  unfold isStr at h
  split at h
  · rename_i n c
    rw [Bool.and_eq_true] at h
    have h1 := Nat.eq_of_beq_eq_true h.1
    have h2 := Nat.eq_of_beq_eq_true h.2
    subst h1 h2
    simp only [cv, Option.some.injEq] at hu
    rw [← hu]
    unfold strB
    rw [bytesOf_codeOf]
  · cases h
theorem blk_cells (S : HSim P W0 E h w) {b : Nat} {e : Ev.Loc} {cs : List AV} {el : TypeId} {tl ro : Bool} (he : E b = some e) (hb : h.get b = some (.cells cs el tl ro)) :
    e.rb < w.heap.size ∧ ∀ (i : Nat) (v : AV), cs[i]? = some v → ∃ u, cv E v = some u ∧ w.cell? ⟨e.rb, e.ro + i, none⟩ = some u := by
  obtain ⟨o, ho, C, el', fz, rfl, -, -, hC, -⟩ := S.blk b e _ he hb
  refine ⟨?_, fun i v hv => ?_⟩
  · rcases Nat.lt_or_ge e.rb w.heap.size with h1 | h1
    · exact h1
    · rw [Array.getElem?_eq_none h1] at ho; cases ho
  · obtain ⟨-, u, h1, h2⟩ := hC _ _ hv
    exact ⟨u, h1, by rw [cell_of ho]; exact h2⟩
theorem kidAt_ok (S : HSim P W0 E h w) {j k : Nat} (hk : Sig.kap j = k) (hon : h.tx.on = true) {v : AV} {u : Value} (hv : kidAt h j k v = true) (hu : cv E v = some u) :
    ∃ b' o' len cap, 0 < len ∧ u = .slice (some ⟨b', o', none⟩) len cap ∧ b' < w.heap.size ∧ w.cell? ⟨b', o', none⟩ = some (.int .i64 (shK0 k)) ∧ (∃ s, w.cell? ⟨b', o' + 1, none⟩ = some s) ∧ (shK0 k ≠ 14 → w.cell? ⟨b', o' + 1, none⟩ = some (.string (bs (shT0 k)))) := by
  have hu := atAlt_cv hk hu
  unfold kidAt at hv
  split at hv
  · rename_i b off n cap ex heq
    rw [heq] at hu
    split at hv
    · rename_i ks el tl ro hn hb
      simp only [cv] at hu
      split at hu
      · rename_i e he
        cases hu
        obtain ⟨h1, h2⟩ := blk_cells S he hb
        unfold keyOk at hv
        split at hv
        · rename_i a c ha hc
          rw [Bool.and_eq_true] at hv
          obtain ⟨u1, h3, h4⟩ := h2 _ _ ha
          obtain ⟨u2, h5, h6⟩ := h2 _ _ hc
          have h7 := isInt_cv S.ho.2 hon hk hv.1 (atAlt_cv hk h3)
          subst h7
          refine ⟨_, _, _, _, Nat.le_of_ble_eq_true hn, rfl, h1, h4, ⟨_, h6⟩, fun h14 => ?_⟩
          rcases Bool.or_eq_true .. ▸ hv.2 with h9 | h9
          · have h9 := Nat.eq_of_beq_eq_true h9
            rw [h9] at h14
            exact absurd rfl h14
          · have h8 := isStr_cv h9 (atAlt_cv hk h5)
            rw [← h8]; exact h6
        · cases hv
      · cases hu
    · cases hv
  · cases hv
theorem shape_ok (S : HSim P W0 E h w) {j k : Nat} (hk : Sig.kap j = k) (hon : h.tx.on = true) {cs : List AV} {rb o : Nat} (hlt : rb < w.heap.size) (hc : ∀ (i : Nat) (v : AV), cs[i]? = some v → ∃ u, cv E v = some u ∧ w.cell? ⟨rb, o + i, none⟩ = some u) (hs : shapeOk h j k cs = true) :
    MKid w rb o k ∧ (∃ f, w.cell? ⟨rb, o + 3, none⟩ = some (.int .i64 f) ∧ NN 600000 f) := by
  unfold shapeOk at hs
  split at hs
  · rename_i a b c d l
    rw [Bool.and_eq_true, Bool.and_eq_true, Bool.and_eq_true] at hs
    obtain ⟨h1, h2, h3, h4⟩ := hs
    obtain ⟨u0, a0, b0⟩ := hc 0 a rfl
    obtain ⟨u1, a1, b1⟩ := hc 1 b rfl
    obtain ⟨u2, a2, b2⟩ := hc 2 c rfl
    obtain ⟨u3, a3, b3⟩ := hc 3 d rfl
    have e0 := isInt_cv S.ho.2 hon hk h1 (atAlt_cv hk a0)
    subst e0
    have e1 := isStr_cv h2 (atAlt_cv hk a1)
    subst e1
    obtain ⟨b', o', len, cap, k1, rfl, k3, k4, k5, k6⟩ := kidAt_ok S hk hon h3 a2
    obtain ⟨f, rfl, hf⟩ := nnI_ok S.ho.2 hon h4 a3
    exact ⟨⟨hlt, b0, b1, ⟨b', o', len, cap, k1, b2, k3, k4, k5, k6⟩, f, b3⟩, f, b3, hf⟩
  · cases hs
theorem allAlt_at {j : Nat} {cs : List AV} {k : Nat} : ∀ {l : List Nat}, allAlt h j cs l = true → k ∈ l → k < 12 ∧ shapeOk h j k cs = true
  | x :: l, ha, hk => by
    rw [allAlt] at ha
    split at ha
    · rename_i hx
      rw [Bool.and_eq_true] at hx
      rcases List.mem_cons.1 hk with rfl | hk
      · exact ⟨Nat.le_of_ble_eq_true hx.1, hx.2⟩
      · exact allAlt_at ha hk
    · cases ha
  | [], _, hk => by cases hk
theorem allKids_at {ks : List AV} {off : Nat} : ∀ (n i : Nat), allKids h ks off n i = true → ∀ j, i ≤ j → j < i + n → ∃ k0 l, ksOf h.tx j = k0 :: l ∧ allAlt h j (ks.drop (off + j * 5)) (k0 :: l) = true
  | 0, i, _, j, h1, h2 => by omega
  | n + 1, i, ha, j, h1, h2 => by
    rw [allKids] at ha
    split at ha
    · cases ha
    · rename_i k l hks
      split at ha
      · rename_i hx
        by_cases hj : j = i
        · subst hj; exact ⟨k, l, hks, hx⟩
        · exact allKids_at n (i + 1) ha j (by omega) (by omega)
      · cases ha
theorem ksOf_on {tx : Tx} {j k : Nat} {l : List Nat} (hk : ksOf tx j = k :: l) : tx.on = true := by
  unfold ksOf at hk
  split at hk
  · rename_i ho _; exact ho
  · cases hk
theorem mfacts_all {w : World} {k b' o' : Nat} (ht : TabsOk w tabs) (h12 : k < 12) (k3 : b' < w.heap.size) (k4 : w.cell? ⟨b', o', none⟩ = some (.int .i64 (shK0 k))) (k6 : shK0 k ≠ 14 → w.cell? ⟨b', o' + 1, none⟩ = some (.string (bs (shT0 k)))) : MFacts w k b' o' := by
  rcases kinds12 h12 with rfl | rfl | rfl | rfl | rfl | rfl | rfl | rfl | rfl | rfl | rfl | rfl
  · exact mfacts0 ht k3 k4 (k6 (by decide))
  · exact mfacts1 ht k3 k4 (k6 (by decide))
  · exact mfacts2 ht k3 k4 (k6 (by decide))
  · exact mfacts3 ht k3 k4 (k6 (by decide))
  · exact mfacts4 ht k3 k4 (k6 (by decide))
  · exact mfacts5 ht k3 k4 (k6 (by decide))
  · exact mfacts6 ht k3 k4 (k6 (by decide))
  · exact mfacts7 ht k3 k4 (k6 (by decide))
  · exact mfacts8 ht k3 k4 (k6 (by decide))
  · exact mfacts9 ht k3 k4
  · exact mfacts10 ht k3 k4 (k6 (by decide))
  · exact mfacts11 ht k3 k4 (k6 (by decide))
/-- a number that no block has: an int of its own, -1 too -/
theorem skip2 (S : HSim P W0 E h w) (d r : Nat) : HSim P W0 (fun b => if b = h.next then some ⟨d, r, 0, none⟩ else E b) h.skip w ∧ Trans E h (fun b => if b = h.next then some ⟨d, r, 0, none⟩ else E b) h.skip := by
  have hn : E h.next = none := by
    cases hx : E h.next with
    | none => rfl
    | some e => exact absurd (S.dom _ _ hx) (Nat.lt_irrefl _)
  have up : ∀ b e, E b = some e → (if b = h.next then some ⟨d, r, 0, none⟩ else E b) = some e := fun b e he => by
    have : b ≠ h.next := fun hh => by rw [hh, hn] at he; cases he
    rw [if_neg this]; exact he
  have hget : ∀ b, h.skip.get b = h.get b := fun b => by rw [H.skip_eq]; rfl
  have htop : h.get h.next = none := S.top _ (Nat.le_refl _)
  have back : ∀ b e x, (if b = h.next then some ⟨d, r, 0, none⟩ else E b) = some e → h.skip.get b = some x → E b = some e ∧ h.get b = some x := fun b e x he hx => by
    rw [hget] at hx
    by_cases hb : b = h.next
    · rw [hb, htop] at hx; cases hx
    · rw [if_neg hb] at he; exact ⟨he, hx⟩
  refine ⟨⟨S.size, S.base, S.os, S.out, ?_, ?_, ?_, ?_, ?_, ?_, ?_, ?_, ?_⟩, ⟨⟨up, fun b hb => if_neg (Nat.ne_of_lt hb)⟩, ?_, fun b _ _ => hget b, fun b _ _ hd => ?_⟩⟩
  · rw [H.skip_eq]; exact Nat.le_succ_of_le S.low
  · exact fun g hg => up _ _ (S.glob g hg)
  · intro b e he
    rw [H.skip_eq]
    by_cases hb : b = h.next
    · rw [hb]; exact Nat.lt_succ_self _
    · rw [if_neg hb] at he; exact Nat.lt_succ_of_lt (S.dom _ _ he)
  · intro b hb
    rw [H.skip_eq] at hb
    rw [hget]; exact S.top b (Nat.le_of_succ_le hb)
  · intro b e x he hx
    obtain ⟨he, hx⟩ := back b e x he hx
    obtain ⟨o, h1, h2⟩ := S.blk b e x he hx
    exact ⟨o, h1, h2.up up⟩
  · intro b e x he hx
    obtain ⟨he, hx⟩ := back b e x he hx
    exact S.own b e x he hx
  · intro b e cs el tl he hx
    obtain ⟨he, hx⟩ := back b e _ he hx
    exact S.ronly b e cs el tl he hx
  · intro b c e f x y he hf hx hy
    obtain ⟨he, hx⟩ := back b e _ he hx
    obtain ⟨hf, hy⟩ := back c f _ hf hy
    exact S.inj b c e f x y he hf hx hy
  · have := S.ho
    rw [H.skip_eq]; exact this
  · rw [H.skip_eq]; exact Nat.le_succ _
  · rw [H.skip_eq] at hd; exact hd
theorem simKeeps (S : HSim P W0 E h w) {w' : World} (hb : Keeps w w') : HSim P W0 E h w' where
  size := Nat.le_trans S.size hb.size
  base := fun r hr hm => by rw [hb.block r (Nat.lt_of_lt_of_le hr S.size)]; exact S.base r hr hm
  os := hb.os.trans S.os
  out := hb.out.trans S.out
  low := S.low
  glob := S.glob
  dom := S.dom
  top := S.top
  blk := fun b e x he hx => by
    obtain ⟨o, ho, hB⟩ := S.blk b e x he hx
    refine ⟨o, ?_, hB⟩
    have : e.rb < w.heap.size := by
      rcases Nat.lt_or_ge e.rb w.heap.size with h1 | h1
      · exact h1
      · rw [Array.getElem?_eq_none h1] at ho; cases ho
    rw [hb.block _ this]; exact ho
  own := S.own
  ronly := S.ronly
  inj := S.inj
  ho := S.ho
theorem pan_end (S : HSim P W0 E h w) {t c : Nat} {f : Int} (hc : dec (.ofNat c) = .ofNat c) (hf : NN 600000 f) : EndOk P W0 E h (ansRun (.pan t .i64 c 0 600000) h) (.panicked [{ v := .iface t (.agg #[.int .i64 c, .int .i64 f]), recovered := false }]) w := by
  obtain ⟨S', T⟩ := skip2 S f.toNat (if f = -1 then 1 else 0)
  refine ⟨_, _, rfl, T, S', ?_⟩
  refine ⟨?_, rfl, rfl, trivial⟩
  have e1 : @cv _ (fun b => if b = h.next then some ⟨f.toNat, (if f = -1 then 1 else 0), 0, none⟩ else E b) (.rng h.next 0 600000) = some (.int .i64 f) := by
    simp only [cv, if_pos]
    rcases hf with rfl | ⟨k, rfl, hk⟩
    · rw [if_pos ⟨by omega, Nat.zero_le _⟩, rngV, if_pos ⟨by omega, rfl⟩]
    · have hne : ¬ (k : Int) = -1 := by omega
      rw [if_pos ⟨by omega, by rw [Int.toNat_natCast]; omega⟩, rngV, if_neg hne, if_neg (by omega), Int.toNat_natCast]
  have e2 : @cv _ (fun b => if b = h.next then some ⟨f.toNat, (if f = -1 then 1 else 0), 0, none⟩ else E b) (.int .i64 (.ofNat c)) = some (.int .i64 c) := by
    simp only [cv]
    exact congrArg (fun x => some (Value.int .i64 x)) hc
  simp only [cv] at e1 e2 ⊢
  simp only [cvC, cv, e1, e2, AV.one]
end
set_option maxHeartbeats 1000000 in
theorem membersM_ok [Sig] {v : Bool} {m : Nat} {KS : List Nat} (hm : KS.length = m) (hm2 : m ≤ 1000) (hK : ∀ j k, KS[j]? = some k → Sig.kap j = k) (h12 : ∀ k ∈ KS, k < 12) (hv : okM false KS = v) : AnsMOk Tryz.prog tabs 66 (membersM v m) := by
  refine ⟨hasBody_of (by kernel_rfl), fun W0 ht E h w args us ans S hc hg ho => ?_⟩
  unfold membersM at hg
  split at hg
  · rename_i b off
    split at hg
    · rename_i cs el tl ro hb
      simp only [cvL, cv] at hc
      split at hc
      · rename_i u1 r1 hu1 hr1
        cases hc
        cases hr1
        split at hu1
        · rename_i e he
          cases hu1
          obtain ⟨hlt, hcs⟩ := blk_cells S he hb
          have htw := ht.sim S
          split at hg
          · rename_i hk0
            split at hg
            · rename_i h0
              cases hg
              have h0 := Nat.eq_of_beq_eq_true h0
              obtain ⟨u, hu, hcell⟩ := hcs _ _ hk0
              simp only [cv, Option.some.injEq] at hu
              subst hu
              have hcall := members_any (w := w) (nb := e.rb) (no := e.ro + off) (cap := 0) (a := none) (ks := []) (fun _ h => by cases h) (by show 0 ≤ 1000; omega) hlt (by rw [Nat.add_assoc]; exact hcell) (fun j k h => by cases h)
              rw [← callsIn_wide] at hcall
              refine hcall.mono fun ev w' hh => ?_
              obtain ⟨hk, ⟨-, rfl⟩ | ⟨hbad, -⟩⟩ := hh
              · exact ⟨E, _, rfl, .refl _ _, simKeeps S hk, by simp only [cv, cvL]⟩
              · cases hbad
            · cases hg
          · rename_i kb ko n cap ex hk0
            split at hg
            · rename_i ks el2 tl2 ro2 hb2
              split at hg
              · rename_i hal
                rw [Bool.and_eq_true] at hal
                have hn := Nat.eq_of_beq_eq_true hal.1
                obtain ⟨u, hu, hcell⟩ := hcs _ _ hk0
                simp only [cv] at hu
                split at hu
                · rename_i e2 he2
                  cases hu
                  obtain ⟨hlt2, hcs2⟩ := blk_cells S he2 hb2
                  have hkid : ∀ j k, KS[j]? = some k → MKid w e2.rb (e2.ro + ko + j * 5) k ∧ ∃ f, w.cell? ⟨e2.rb, e2.ro + ko + j * 5 + 3, none⟩ = some (.int .i64 f) ∧ NN 600000 f := by
                    intro j k hj
                    have hjl : j < KS.length := (List.getElem?_eq_some_iff.1 hj).1
                    obtain ⟨k0, l, h1, h2⟩ := allKids_at n 0 hal.2 j (Nat.zero_le _) (by omega)
                    have h3 := ksOf_mem S.ho.2 h1
                    rw [hK j k hj] at h3
                    obtain ⟨h4, h5⟩ := allAlt_at h2 h3
                    refine shape_ok S (hK j k hj) (ksOf_on h1) hlt2 (fun i v hv => ?_) h5
                    rw [List.getElem?_drop] at hv
                    obtain ⟨u, h6, h7⟩ := hcs2 _ _ hv
                    exact ⟨u, h6, by rw [show e2.ro + ko + j * 5 + i = e2.ro + (ko + j * 5 + i) by omega]; exact h7⟩
                  have hlen : n = KS.length := hn.trans hm.symm
                  subst hlen
                  have hcall := members_any (w := w) (nb := e.rb) (no := e.ro + off) (ks := KS) h12 (by omega) hlt (by rw [Nat.add_assoc]; exact hcell) (fun j k hj => ⟨_, _, rfl, (hkid j k hj).1, fun b' o' len cap' hc' => by
                    obtain ⟨b2, o2, len2, cap2, k1, k2, k3, k4, k5, k6⟩ := (hkid j k hj).1.kid
                    rw [k2] at hc'
                    cases hc'
                    exact mfacts_all htw (h12 k (List.mem_of_getElem? hj)) k3 k4 k6⟩)
                  rw [← callsIn_wide] at hcall
                  refine hcall.mono fun ev w' hh => ?_
                  obtain ⟨hk, ⟨hok, rfl⟩ | ⟨hbad, f, j, b2, off2, hj, hab, hcf, rfl⟩⟩ := hh
                  · rw [hok] at hv
                    subst hv
                    cases hg
                    exact ⟨E, _, rfl, .refl _ _, simKeeps S hk, by simp only [cv, cvL]⟩
                  · rw [hbad] at hv
                    subst hv
                    cases hg
                    cases hab
                    obtain ⟨f', h8, h9⟩ := (hkid j KS[j] (List.getElem?_eq_getElem hj)).2
                    rw [hcf] at h8
                    cases h8
                    exact pan_end (simKeeps S hk) rfl h9
                · cases hu
              · cases hg
            · cases hg
          · cases hg
        · cases hu1
      · cases hc
    · cases hg
  · cases hg
end Go.Proofs.YtmlhldohlfghaaaGreatDoor
