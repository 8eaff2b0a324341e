/- Drawn regions in which a new map's entries come in whatever order. -/
import Derived.Test.YtbflihggpacblaaGreatDoorEvDrawB
set_option linter.unusedVariables false
set_option linter.unusedSimpArgs false
namespace Go.Ev
open Go.MapKept (bytes_beq run_findKey)
set_option linter.unusedSectionVars false
variable [Sig]

section
variable {P : Program} {W0 : World} {E : Env} {h h' : H} {w : World} {n vm : Nat} {a a' : A} {x : Act} {r : Rec} {u : Bool}

def insX : XOp → Bool
  | .ins .. => true
  | _ => false
theorem runOpU_eq {xop : XOp} (hm : xop ≠ .mkM) (hi : insX xop = false) : runOpU u xop r a h = runOp xop r a h := by
  cases u with
  | false => rfl
  | true =>
    cases xop <;> first | rfl | exact absurd rfl hm | cases hi
theorem runOpU_congr (xop : XOp) (H : ∀ x ∈ xreads xop, getX x a = getX x a') : runOpU u xop r a h = runOpU u xop r a' h := by
  by_cases hm : xop = .mkM
  · subst hm; cases u <;> rfl
  · cases hi : insX xop with
    | false => rw [runOpU_eq hm hi, runOpU_eq hm hi]; exact runOp_congr _ H
    | true =>
      cases xop <;> simp only [insX] at hi <;> try (cases hi; done)
      rename_i kt m k v
      cases u with
      | false => exact runOp_congr (r := r) _ H
      | true => simp only [runOpU, H m (by simp [xreads]), H k (by simp [xreads]), H v (by simp [xreads])]
theorem operU_congr {o : XOper} {a a' : A} (H : ∀ x ∈ xreadsO o, getX x a = getX x a') : wantedX o.guard a = wantedX o.guard a' ∧ ∀ r h, runOpU u o.op r a h = runOpU u o.op r a' h :=
  ⟨wantedX_congr fun x b h => H x (guard_reads h), fun _ _ => runOpU_congr _ fun x hx => H x (op_reads hx)⟩
theorem allocU_val (xop : XOp) (hal : xalloc xop = true) {v : AV} (hr : runOpU u xop r a h = .val v h') :
    ∃ (mk : Nat → AV) (blk : Blk), v = mk h.next ∧ h' = h.new blk ∧ blk.wr = true ∧ ∀ h2 : H, runOpU u xop r a h2 = .val (mk h2.next) (h2.new blk) := by
  by_cases hm : xop = .mkM
  · subst hm
    cases u with
    | false => exact alloc_val (r := r) (a := a) .mkM rfl hr
    | true =>
      simp only [runOpU] at hr
      cases hr
      exact ⟨fun b => .map b, .mapU [] false, rfl, rfl, rfl, fun h2 => rfl⟩
  · have hi : insX xop = false := by cases xop <;> first | rfl | cases hal
    rw [runOpU_eq hm hi] at hr
    obtain ⟨mk, blk, h1, h2, h3, h4⟩ := alloc_val _ hal hr
    exact ⟨mk, blk, h1, h2, h3, fun h2 => by rw [runOpU_eq hm hi]; exact h4 h2⟩
theorem allocU_raw (S : HSim P W0 E h w) (hA : ASim E n vm a x) {o : Oper} {xop : XOp} (hc : cOp P vm o.op = some xop) (hal : xalloc xop = true) {mk : Nat → AV} {blk : Blk} (hr : ∀ h2, runOpU u xop r a h2 = .val (mk h2.next) (h2.new blk)) :
    AllocRaw P E w (execOp x.eval o) mk blk := by
  by_cases hm : xop = .mkM
  · subst hm
    cases u with
    | false => exact alloc_raw (r := r) S hA hc hal hr
    | true =>
      have key : (fun b => AV.map b) = mk ∧ Blk.mapU [] false = blk := by
        constructor
        · funext k
          have h2 := hr ⟨k, .nil⟩
          simp only [runOpU] at h2
          injection h2
        · have h2 := hr ⟨0, .nil⟩
          simp only [runOpU] at h2
          injection h2 with h3 h4
          have h5 := congrArg (fun z => H.get z 0) h4
          simp only [H.get_new] at h5
          simpa using h5
      obtain ⟨rfl, rfl⟩ := key
      have h0 := alloc_raw (r := r) S hA hc hal (mk := fun b => .map b) (blk := .map [] 0) (fun h2 => rfl)
      obtain ⟨obj, v, h1, h2, h3⟩ := h0
      obtain ⟨xs, ho, hxs⟩ := h1 E (fun _ _ h => h)
      refine ⟨obj, v, fun E' hE' => ⟨xs, 0, ho, fun _ => ?_, fun hf => by cases hf⟩, h2, h3⟩
      subst ho
      cases hl : xs.toList with
      | nil => 
        have : xs = #[] := Array.toList_eq_nil_iff.1 hl
        subst this; rfl
      | cons y ys => rw [hl] at hxs; exact hxs.elim
  · have hi : insX xop = false := by cases xop <;> first | rfl | cases hal
    exact alloc_raw S hA hc hal (fun h2 => by rw [← runOpU_eq (u := u) hm hi]; exact hr h2)
theorem quietU {xop : XOp} (hq : xquietU u xop = true) : (u = true ∧ insX xop = true) ∨ (xquiet xop = true ∧ insX xop = false) := by
  cases u with
  | false =>
    refine .inr ⟨hq, ?_⟩
    cases xop <;> first | rfl | (simp [xquietU, xquiet] at hq)
  | true =>
    cases hi : insX xop with
    | true => exact .inl ⟨rfl, rfl⟩
    | false =>
      refine .inr ⟨?_, rfl⟩
      cases xop <;> first | exact hq | cases hi

/-! keys -/
theorem ikeq_comm (j k : IntKind) : ikeq j k = ikeq k j := by cases j <;> cases k <;> rfl
theorem ieq_comm (a b : Int) : ieq a b = ieq b a := by
  rw [ieq_iff, ieq_iff, Bool.eq_iff_iff, beq_iff_eq, beq_iff_eq]; exact eq_comm
theorem streq_comm (l c m d : Nat) : streq l c m d = streq m d l c := by
  rw [Bool.eq_iff_iff, streq_iff, streq_iff]; exact eq_comm
/-- an integer or a string -/
def simpleK (k : AV) : Prop := (∃ i m, k = .int i m ∧ symB m = false) ∨ (∃ l c, k = .str l c)
theorem keyEq_comm {x y : AV} (hx : simpleK x) (hy : simpleK y) : keyEq x y = keyEq y x := by
  rcases hx with ⟨i, m, rfl, hm⟩ | ⟨l, c, rfl⟩ <;> rcases hy with ⟨i', m', rfl, hm'⟩ | ⟨l', c', rfl⟩
  · simp only [keyEq, hm, hm', Bool.or_self, ikeq_comm i i', ieq_comm m m']
  · rfl
  · rfl
  · simp only [keyEq, streq_comm l c l' c']
/-- two keys that are held against each other -/
theorem keyEq_ok {d : TypeDesc} {k y : AV} {b : Bool} (hk : KeyOk d k) (h : keyEq k y = some b) : KeyOk d y := by
  rcases hk with ⟨j, rfl, i, m, rfl, hm⟩ | ⟨rfl, l, c, rfl⟩
  · cases y <;> simp only [keyEq] at h <;> try (cases h; done)
    rename_i i' m'
    split at h
    · cases h
    · rename_i hns
      simp only [Bool.or_eq_false_iff] at hns
      exact .inl ⟨j, rfl, i', m', rfl, hns.2⟩
  · cases y <;> simp only [keyEq] at h <;> try (cases h; done)
    exact .inr ⟨rfl, _, _, rfl⟩
theorem keyEq_now {d : TypeDesc} {k y : AV} {u z : Value} {b : Bool} (hk : KeyOk d k) (hu : cv E k = some u) (hz : cv E y = some z) (h : keyEq k y = some b) : Instr.sameNow d u z = some b := by
  rcases hk with ⟨j, rfl, i, m, rfl, hm⟩ | ⟨rfl, l, c, rfl⟩
  · cases cv_int hu hm; exact keyEq_int hm hz h
  · cases cv_str hu; exact keyEq_str hz h
theorem now_same {d : TypeDesc} {u z : Value} (h : Instr.sameNow d u z = some true) : u = z := by
  unfold Instr.sameNow at h
  split at h
  · split at h
    · rename_i hk
      simp only [Option.some.injEq] at h
      rw [hk, eq_of_beq h]
    · cases h
  · simp only [Option.some.injEq] at h
    rw [bytes_beq] at h
    rw [h]
  · simp only [Option.some.injEq] at h
    rw [eq_of_beq h]
  · cases h

/-! what has come in -/
/-- the real entries, in the order in which they came -/
def EntsR (E : Env) : List (AV × AV × Nat) → List MapEntry → Prop
  | [], [] => True
  | (k, v, _) :: es, x :: xs => cv E k = some x.key ∧ cv E v = some x.val ∧ EntsR E es xs
  | _, _ => False
theorem EntsR.up {E E' : Env} (hE : ∀ b e, E b = some e → E' b = some e) : ∀ {es : List (AV × AV × Nat)} {xs : List MapEntry}, EntsR E es xs → EntsR E' es xs
  | [], [], _ => trivial
  | (k, v, b) :: es, x :: xs, ⟨h1, h2, h3⟩ => ⟨cv_up hE k _ h1, cv_up hE v _ h2, EntsR.up hE h3⟩
  | [], _ :: _, h => h.elim
  | _ :: _, [], h => by simp [EntsR] at h
theorem EntsR.length : ∀ {es : List (AV × AV × Nat)} {xs : List MapEntry}, EntsR E es xs → xs.length = es.length
  | [], [], _ => rfl
  | (k, v, b) :: es, x :: xs, ⟨_, _, h3⟩ => by simp [EntsR.length h3]
  | [], _ :: _, h => h.elim
  | _ :: _, [], h => by simp [EntsR] at h
theorem EntsR.push {k v : AV} {c n : Nat} {y z : Value} (hk : cv E k = some y) (hv : cv E v = some z) : ∀ {es : List (AV × AV × Nat)} {xs : List MapEntry}, EntsR E es xs → EntsR E (es ++ [(k, v, c)]) (xs ++ [{ key := y, val := z, born := n }])
  | [], [], _ => ⟨hk, hv, trivial⟩
  | (k, v, b) :: es, x :: xs, ⟨h1, h2, h3⟩ => ⟨h1, h2, EntsR.push hk hv h3⟩
  | [], _ :: _, h => h.elim
  | _ :: _, [], h => by simp [EntsR] at h
/-- a key that none of them has -/
theorem EntsR.miss {d : TypeDesc} {k : AV} {u : Value} (hk : KeyOk d k) (hu : cv E k = some u) : ∀ {es : List (AV × AV × Nat)} {xs : List MapEntry} (i : Nat), EntsR E es xs → (∀ e ∈ es, keyEq k e.1 = some false) → Instr.findNow d u xs i = some none
  | [], [], _, _, _ => rfl
  | (y, v, b) :: es, x :: xs, i, ⟨h1, h2, h3⟩, hh => by
    simp only [Instr.findNow, keyEq_now hk hu h1 (hh (y, v, b) (by simp))]
    exact EntsR.miss hk hu (i + 1) h3 fun e he => hh e (by simp [he])
  | [], _ :: _, _, h, _ => h.elim
  | _ :: _, [], _, h, _ => by simp [EntsR] at h
theorem EntsR.found {d : TypeDesc} {k0 v : AV} {c : Nat} {u : Value} (hu : cv E k0 = some u) (hk : KeyOk d k0) (ht : Instr.sameNow d u u = some true) : ∀ {es : List (AV × AV × Nat)} {xs : List MapEntry} (i : Nat), EntsR E es xs → (k0, v, c) ∈ es → es.Pairwise (fun a b => keyEq a.1 b.1 = some false ∧ keyEq b.1 a.1 = some false) →
    ∃ j z, cv E v = some z ∧ Instr.findNow d u xs i = some (some (j, z))
  | (y, v', b) :: es, x :: xs, i, ⟨h1, h2, h3⟩, hm, hp => by
    rw [List.pairwise_cons] at hp
    rcases List.mem_cons.1 hm with he | hm
    · cases he
      rw [hu] at h1; cases h1
      exact ⟨i, x.val, h2, by simp only [Instr.findNow, ht]⟩
    · have h4 := keyEq_now hk hu h1 (hp.1 _ hm).2
      obtain ⟨j, z, h5, h6⟩ := EntsR.found hu hk ht (i + 1) h3 hm hp.2
      exact ⟨j, z, h5, by simp only [Instr.findNow, h4, h6]⟩
  | [], _, _, _, hm, _ => by cases hm
  | _ :: _, [], _, h, _, _ => by simp [EntsR] at h
/-- how the entries are found -/
theorem findK_cases {k : AV} : ∀ {l : List (AV × AV × Nat)} {r : Option AV}, findK k l = some r → (r = none ∧ ∀ e ∈ l, keyEq k e.1 = some false) ∨ (∃ k0 v c, (k0, v, c) ∈ l ∧ r = some v ∧ keyEq k k0 = some true)
  | [], r, h => by simp only [findK, Option.some.injEq] at h; exact .inl ⟨h.symm, fun e he => by cases he⟩
  | (y, v, c) :: l, r, h => by
    simp only [findK] at h
    split at h
    · rename_i hq; cases h; exact .inr ⟨y, v, c, by simp, rfl, hq⟩
    · rename_i hq
      rcases findK_cases h with ⟨h1, h2⟩ | ⟨k0, v0, c0, h1, h2, h3⟩
      · refine .inl ⟨h1, fun e he => ?_⟩
        rcases List.mem_cons.1 he with rfl | he
        · exact hq
        · exact h2 e he
      · exact .inr ⟨k0, v0, c0, by simp [h1], h2, h3⟩
    · cases h
theorem lookOk_of {l es : List (AV × AV × Nat)} {xs : List MapEntry} (hx : EntsR E es xs) (hp : es.Perm l) (hd : es.Pairwise (fun a b => keyEq a.1 b.1 = some false ∧ keyEq b.1 a.1 = some false)) : LookOk E l xs := by
  refine ⟨by rw [hx.length, hp.length_eq], fun d k u r hk hu hr => ?_⟩
  rcases findK_cases hr with ⟨rfl, h2⟩ | ⟨k0, v, c, hm, rfl, hq⟩
  · exact .inl ⟨rfl, hx.miss hk hu 0 fun e he => h2 e (hp.mem_iff.1 he)⟩
  · have hk0 := keyEq_ok hk hq
    have hm' := hp.mem_iff.2 hm
    obtain ⟨u0, hu0⟩ : ∃ u0, cv E k0 = some u0 := by
      clear hd hp hr hm hq
      induction es generalizing xs with
      | nil => cases hm'
      | cons e es ih =>
        obtain ⟨y, v', b⟩ := e
        cases xs with
        | nil => simp [EntsR] at hx
        | cons x xs =>
          rcases List.mem_cons.1 hm' with he | hm'
          · cases he; exact ⟨_, hx.1⟩
          · exact ih hx.2.2 hm'
    have hs := keyEq_now hk hu hu0 hq
    have := now_same hs
    subst this
    obtain ⟨j, z, h1, h2⟩ := hx.found hu0 hk0 hs 0 hm' hd
    exact .inr ⟨v, j, z, rfl, h1, h2⟩
end

/-! what lies there while entries come in -/
def Env.pinAt (E : Env) (M : Nat) (o : Obj) : Env := fun b => if b = M then (match E b with | some e => some { e with pin := some o } | none => none) else E b
section
variable {P : Program} {W0 : World} {E : Env} {h : H} {w : World} {M : Nat} {o : Obj}
theorem pinAt_some {b : Nat} {e : Loc} (hb : E b = some e) : ∃ e', E.pinAt M o b = some e' ∧ e'.rb = e.rb ∧ e'.ro = e.ro ∧ e'.ex = e.ex := by
  unfold Env.pinAt
  split
  · rw [hb]; exact ⟨_, rfl, rfl, rfl, rfl⟩
  · exact ⟨e, hb, rfl, rfl, rfl⟩
theorem pinAt_of {b : Nat} {e' : Loc} (hb : E.pinAt M o b = some e') : ∃ e, E b = some e ∧ e'.rb = e.rb ∧ e'.ro = e.ro ∧ e'.ex = e.ex ∧ (b ≠ M → e' = e) ∧ (b = M → e'.pin = some o) := by
  unfold Env.pinAt at hb
  split at hb
  · rename_i hM
    split at hb
    · rename_i e he
      cases hb
      exact ⟨e, he, rfl, rfl, rfl, fun hne => absurd hM hne, fun _ => rfl⟩
    · cases hb
  · rename_i hM
    exact ⟨e', hb, rfl, rfl, rfl, fun _ => rfl, fun h => absurd h hM⟩
theorem pinAt_ne {b : Nat} (hb : b ≠ M) : E.pinAt M o b = E b := by unfold Env.pinAt; rw [if_neg hb]
theorem pinAt_none {b : Nat} (hb : E b = none) : E.pinAt M o b = none := by
  unfold Env.pinAt
  split
  · rw [hb]
  · exact hb
mutual
theorem cv_pin : ∀ v : AV, cv (E.pinAt M o) v = cv E v
  | .bool b => by simp only [cv]
  | .int k n => by simp only [cv]
  | .str l c => by simp only [cv]
  | .ptr b off => by
    simp only [cv]
    cases hb : E b with
    | none => rw [pinAt_none hb]
    | some e => obtain ⟨e', h1, h2, h3, h4⟩ := pinAt_some (M := M) (o := o) hb; rw [h1]; simp only [h2, h3]
  | .nilptr => by simp only [cv]
  | .slice b off len cap ex => by
    simp only [cv]
    cases hb : E b with
    | none => rw [pinAt_none hb]
    | some e => obtain ⟨e', h1, h2, h3, h4⟩ := pinAt_some (M := M) (o := o) hb; rw [h1]; simp only [h2, h3, h4]
  | .nilslice => by simp only [cv]
  | .map b => by
    simp only [cv]
    cases hb : E b with
    | none => rw [pinAt_none hb]
    | some e => obtain ⟨e', h1, h2, h3, h4⟩ := pinAt_some (M := M) (o := o) hb; rw [h1]; simp only [h2]
  | .nilmap => by simp only [cv]
  | .func fn fs cs => by simp only [cv, cvL_pin fs, cvL_pin cs]
  | .yield l => by
    simp only [cv]
    cases hb : E l with
    | none => rw [pinAt_none hb]
    | some e => obtain ⟨e', h1, h2, h3, h4⟩ := pinAt_some (M := M) (o := o) hb; rw [h1]; simp only [h2]
  | .nilfunc => by simp only [cv]
  | .iface t v => by simp only [cv, cv_pin v]
  | .niliface => by simp only [cv]
  | .agg cs => by simp only [cv, cvC_pin cs]
  | .tuple vs => by simp only [cv, cvL_pin vs]
theorem cvL_pin : ∀ vs : List AV, cvL (E.pinAt M o) vs = cvL E vs
  | [] => by simp only [cvL]
  | v :: vs => by simp only [cvL, cv_pin v, cvL_pin vs]
theorem cvC_pin : ∀ vs : List AV, cvC (E.pinAt M o) vs = cvC E vs
  | [] => by simp only [cvC]
  | v :: vs => by simp only [cvC, cv_pin v, cvC_pin vs]
end
theorem VarsOk.pin {vm : Nat} {vars : Tr AV} {tmps : Array Value} (h : VarsOk E vm vars tmps) : VarsOk (E.pinAt M o) vm vars tmps := by
  intro t v hb hv
  rw [cv_pin]
  exact h t v hb hv
theorem EntsOk.pin : ∀ {es : List (AV × AV × Nat)} {xs : List MapEntry}, EntsOk E es xs → EntsOk (E.pinAt M o) es xs
  | [], [], _ => trivial
  | (k, v, b) :: es, x :: xs, ⟨h1, h2, h3, h4⟩ => ⟨by rw [cv_pin]; exact h1, by rw [cv_pin]; exact h2, h3, EntsOk.pin h4⟩
  | [], _ :: _, h => h.elim
  | _ :: _, [], h => by simp [EntsOk] at h
theorem EntsR.pin : ∀ {es : List (AV × AV × Nat)} {xs : List MapEntry}, EntsR E es xs → EntsR (E.pinAt M o) es xs
  | [], [], _ => trivial
  | (k, v, b) :: es, x :: xs, ⟨h1, h2, h3⟩ => ⟨by rw [cv_pin]; exact h1, by rw [cv_pin]; exact h2, EntsR.pin h3⟩
  | [], _ :: _, h => h.elim
  | _ :: _, [], h => by simp [EntsR] at h
theorem BlkOk.pin {e : Loc} {ob : Obj} : ∀ {x : Blk}, BlkOk P E e ob x → BlkOk P (E.pinAt M o) e ob x
  | .cells cs el tail ro, ⟨C, el', fz, h1, h2, h3, h4, h5⟩ => ⟨C, el', fz, h1, h2, h3, fun i v hv => by rw [cv_pin]; exact h4 i v hv, h5⟩
  | .map es clock, ⟨xs, h1, h2⟩ => ⟨xs, h1, h2.pin⟩
  | .siter l c pos, h => h
  | .loop st pend vars vm n ps asg body d, ⟨L, h1, h2, h3, h4, h5, h6, h7, h8, e', h9, h10⟩ => by
    obtain ⟨e'', q1, q2, -, -⟩ := pinAt_some (M := M) (o := o) h9
    exact ⟨L, h1, h2, h3, h4, h5.pin, h6, h7, h8, e'', q1, by rw [q2]; exact h10⟩
  | .deferred fresh, h => h
  | .dead, _ => trivial
  | .mapU es fin, ⟨xs, ck, h1, h2, h3⟩ => ⟨xs, ck, h1, h2, fun hf => ⟨(h3 hf).1, fun d k u r hd hk hr => by
      rw [cv_pin] at hk
      rcases (h3 hf).2 d k u r hd hk hr with q | ⟨v, j, z, q1, q2, q3⟩
      · exact .inl q
      · exact .inr ⟨v, j, z, q1, by rw [cv_pin]; exact q2, q3⟩⟩⟩
theorem DefOk.pin : ∀ {d : ADef} {x : Deferred}, DefOk E d x → DefOk (E.pinAt M o) d x
  | .call g args, x, ⟨cap, h1, h2⟩ => ⟨cap, h1, by rw [cvL_pin]; exact h2⟩
  | .mark r, x, ⟨e, h1, h2⟩ => by
    obtain ⟨e', q1, q2, -, -⟩ := pinAt_some (M := M) (o := o) h1
    exact ⟨e', q1, by rw [q2]; exact h2⟩
theorem DefsOk.pin : ∀ {ds : List ADef} {xs : List Deferred}, DefsOk E ds xs → DefsOk (E.pinAt M o) ds xs
  | [], [], _ => trivial
  | d :: ds, x :: xs, ⟨h1, h2⟩ => ⟨h1.pin, h2.pin⟩
  | [], _ :: _, h => h.elim
  | _ :: _, [], h => h.elim
theorem ASim.pin {n vm : Nat} {a : A} {x : Act} (h : ASim E n vm a x) : ASim (E.pinAt M o) n vm a x :=
  ⟨h.size, h.vars.pin, fun t v hb hv => by rw [cv_pin]; exact h.log t v hb hv, h.defers.pin⟩
theorem RdOk.pin : ∀ {rd : Option Nat} {F : Fence}, RdOk E rd F → RdOk (E.pinAt M o) rd F
  | none, _, hh => hh
  | some l, _, ⟨e, h1, h2⟩ => by
    obtain ⟨e', q1, q2, -, -⟩ := pinAt_some (M := M) (o := o) h1
    exact ⟨e', q1, by rw [q2]; exact h2⟩
theorem Trans.pin {E0 : Env} {h0 : H} (t : Trans E0 h0 E h) (hM : h0.next ≤ M) (hd : ∀ b e, E0 b = some e → b < h0.next) : Trans E0 h0 (E.pinAt M o) h :=
  ⟨⟨fun b e hb => by rw [pinAt_ne (by have := hd b e hb; omega)]; exact t.up b e hb, fun b hb => by rw [pinAt_ne (by omega)]; exact t.ext.low b hb⟩, t.next, t.keep⟩
/-- an entry has come in -/
theorem HSim.pin (S : HSim P W0 E h w) {e : Loc} (hM : 64 ≤ M) (he : E M = some e) (hg : h.get M = some (.mapU [] false)) (xs : Array MapEntry) (ck : Nat) :
    HSim P W0 (E.pinAt M (.map xs ck)) h { w with heap := w.heap.setIfInBounds e.rb (.map xs ck) } := by
  have hown := S.own M e _ he hg rfl
  have hlt : e.rb < w.heap.size := by
    obtain ⟨o', ho', -⟩ := S.blk M e _ he hg
    rcases Nat.lt_or_ge e.rb w.heap.size with h1 | h1
    · exact h1
    · rw [Array.getElem?_eq_none h1] at ho'; cases ho'
  have hoth : ∀ r, r ≠ e.rb → (w.heap.setIfInBounds e.rb (Obj.map xs ck))[r]? = w.heap[r]? := fun r hr => by simp [Ne.symm hr]
  have hat : (w.heap.setIfInBounds e.rb (Obj.map xs ck))[e.rb]? = some (.map xs ck) := by simp [hlt]
  refine ⟨by simpa using S.size, ?_, S.os, S.out, S.low, ?_, ?_, S.top, ?_, ?_, ?_, ?_⟩
  · intro r hr
    show (w.heap.setIfInBounds e.rb (Obj.map xs ck))[r]? = _
    rw [hoth r (by omega)]; exact S.base r hr
  · intro g hg'
    rw [pinAt_ne (by omega)]; exact S.glob g hg'
  · intro b f hb
    obtain ⟨f0, h1, -⟩ := pinAt_of hb
    exact S.dom b f0 h1
  · intro b f x hb hx
    obtain ⟨f0, h1, h2, h3, h4, h5, h6⟩ := pinAt_of hb
    show ∃ o, (w.heap.setIfInBounds e.rb (Obj.map xs ck))[f.rb]? = some o ∧ _
    by_cases hbM : b = M
    · subst hbM
      rw [he] at h1; cases h1
      rw [hg] at hx; cases hx
      exact ⟨_, by rw [h2]; exact hat, xs, ck, rfl, fun _ => by rw [h6 rfl]; rfl, fun hf => by cases hf⟩
    · have := h5 hbM; subst this
      obtain ⟨o', ho', hok⟩ := S.blk b f x h1 hx
      by_cases hrb : f.rb = e.rb
      · have hnw : x.wr = true → False := fun hw => hbM (S.inj b M f e x _ h1 he hx hg hw rfl hrb)
        cases x with
        | cells cs el tl ro =>
          cases ro with
          | false => exact (hnw rfl).elim
          | true => have := S.ronly b f cs el tl h1 hx; omega
        | dead => exact ⟨_, by rw [hrb]; exact hat, trivial⟩
        | map es cl => exact (hnw rfl).elim
        | siter l c' p => exact (hnw rfl).elim
        | loop st pend vars vm n ps asg body d => exact (hnw rfl).elim
        | deferred fr => exact (hnw rfl).elim
        | mapU es fin => exact (hnw rfl).elim
      · exact ⟨o', by rw [hoth _ hrb]; exact ho', hok.pin⟩
  · intro b f x hb hx hw
    obtain ⟨f0, h1, h2, -⟩ := pinAt_of hb
    rw [h2]; exact S.own b f0 x h1 hx hw
  · intro b f cs el tl hb hx
    obtain ⟨f0, h1, h2, -⟩ := pinAt_of hb
    rw [h2]; exact S.ronly b f0 cs el tl h1 hx
  · intro b c f g x y hb hc hx hy hxw hyw hfg
    obtain ⟨f0, h1, h2, -⟩ := pinAt_of hb
    obtain ⟨g0, q1, q2, -⟩ := pinAt_of hc
    exact S.inj b c f0 g0 x y h1 q1 hx hy hxw hyw (by rw [← h2, ← q2]; exact hfg)
end
end Go.Ev
