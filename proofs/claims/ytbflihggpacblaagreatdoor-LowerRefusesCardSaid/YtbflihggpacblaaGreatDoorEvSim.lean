/- What an abstract value, an abstract memory and an abstract frame stand for. -/
import Derived.Test.YtbflihggpacblaaGreatDoorEvStr
import Derived.CallsIn
set_option linter.unusedVariables false
set_option linter.unusedSimpArgs false
namespace Go.Ev

/-- what symbols stand for -/
def decV (val : Int → Int) (n : Int) : Int := match symB n with | true => val n | false => n
class Sig where
  val : Int → Int
  bin : ∀ (P : Program) (w : World) (op : BinOp) (t : TypeId) (i j k : IntKind) (a b z : Int), symBin op i a j b = some (k, z) → (binOp op t (.int i (decV val a)) (.int j (decV val b))).run P w = .ok (.int k (decV val z)) w
  conv : ∀ (i k : IntKind) (a z : Int), symB a = true → symConv i k a = some z → k.wrap (decV val a) = decV val z
def dec [Sig] (n : Int) : Int := decV Sig.val n
set_option linter.unusedSectionVars false
variable [Sig]
theorem dec_of {n : Int} (h : symB n = false) : dec n = n := by unfold dec decV; rw [h]

/-- where an abstract block lies: the real block, the offset in it, how many elements more its array has -/
structure Loc where
  rb : Nat
  ro : Nat
  ex : Nat
  /-- what lies there, while a map's entries come in -/
  pin : Option Obj
abbrev Env := Nat → Option Loc

def AV.one : AV → Bool
  | .agg _ => false
  | .tuple _ => false
  | _ => true

mutual
def cv (E : Env) : AV → Option Value
  | .bool b => some (.bool b)
  | .int k n => some (.int k (dec n))
  | .str l c => some (.string (strB l c))
  | .ptr b off => (match E b with | some e => some (.pointer (some ⟨e.rb, e.ro + off, none⟩)) | none => none)
  | .nilptr => some (.pointer none)
  | .slice b off len cap ex => (match E b with | some e => some (.slice (some ⟨e.rb, e.ro + off, none⟩) len (if ex then cap else cap + e.ex)) | none => none)
  | .nilslice => some (.slice none 0 0)
  | .map b => (match E b with | some e => some (.map (some e.rb)) | none => none)
  | .nilmap => some (.map none)
  | .func fn fs cs => (match fn, cvL E fs, cvL E cs with
    | .func f, some l, some m => some (.func (.func f) l.toArray m.toArray)
    | _, _, _ => none)
  | .yield l => (match E l with | some e => some (.func (.yield e.rb) #[] #[]) | none => none)
  | .nilfunc => some .nilFunc
  | .iface t v => (match cv E v with | some u => some (.iface t u) | none => none)
  | .niliface => some .nilIface
  | .agg cs => (match cvC E cs with | some l => some (.agg l.toArray) | none => none)
  | .tuple vs => (match cvL E vs with | some l => some (.tuple l.toArray) | none => none)
def cvL (E : Env) : List AV → Option (List Value)
  | [] => some []
  | v :: vs => (match cv E v, cvL E vs with | some u, some l => some (u :: l) | _, _ => none)
def cvC (E : Env) : List AV → Option (List Value)
  | [] => some []
  | v :: vs => (match v.one, cv E v, cvC E vs with | true, some u, some l => some (u :: l) | _, _, _ => none)
end

/-- 'E'' has all that 'E' has, and nothing new below 'n' -/
structure Ext (E : Env) (n : Nat) (E' : Env) : Prop where
  up : ∀ b e, E b = some e → E' b = some e
  low : ∀ b, b < n → E' b = E b
theorem Ext.refl (E : Env) (n : Nat) : Ext E n E := ⟨fun _ _ h => h, fun _ _ => rfl⟩
theorem Ext.trans {E E' E'' : Env} {n m : Nat} (h : Ext E n E') (h' : Ext E' m E'') (hn : n ≤ m) : Ext E n E'' :=
  ⟨fun b e hb => h'.up b e (h.up b e hb), fun b hb => by rw [h'.low b (by omega), h.low b hb]⟩

mutual
theorem cv_up {E E' : Env} (hE : ∀ b e, E b = some e → E' b = some e) : ∀ (a : AV) (v : Value), cv E a = some v → cv E' a = some v
  | .bool b, v, h => by simpa [cv] using h
  | .int k n, v, h => by simpa [cv] using h
  | .str l c, v, h => by simpa [cv] using h
  | .ptr b off, v, h => by
    simp only [cv] at h ⊢
    cases hb : E b with
    | none => rw [hb] at h; cases h
    | some e => rw [hb] at h; rw [hE b e hb]; exact h
  | .nilptr, v, h => by simpa [cv] using h
  | .slice b off len cap ex, v, h => by
    simp only [cv] at h ⊢
    cases hb : E b with
    | none => rw [hb] at h; cases h
    | some e => rw [hb] at h; rw [hE b e hb]; exact h
  | .nilslice, v, h => by simpa [cv] using h
  | .map b, v, h => by
    simp only [cv] at h ⊢
    cases hb : E b with
    | none => rw [hb] at h; cases h
    | some e => rw [hb] at h; rw [hE b e hb]; exact h
  | .nilmap, v, h => by simpa [cv] using h
  | .func fn fs cs, v, h => by
    simp only [cv] at h ⊢
    cases hf : cvL E fs with
    | none => rw [hf] at h; cases fn <;> cases h
    | some l =>
      cases hc : cvL E cs with
      | none => rw [hf, hc] at h; cases fn <;> cases h
      | some m =>
        rw [hf, hc] at h
        rw [cvL_up hE fs l hf, cvL_up hE cs m hc]
        exact h
  | .yield l, v, h => by
    simp only [cv] at h ⊢
    cases hb : E l with
    | none => rw [hb] at h; cases h
    | some e => rw [hb] at h; rw [hE l e hb]; exact h
  | .nilfunc, v, h => by simpa [cv] using h
  | .iface t x, v, h => by
    simp only [cv] at h ⊢
    cases hx : cv E x with
    | none => rw [hx] at h; cases h
    | some u => rw [hx] at h; rw [cv_up hE x u hx]; exact h
  | .niliface, v, h => by simpa [cv] using h
  | .agg cs, v, h => by
    simp only [cv] at h ⊢
    cases hc : cvC E cs with
    | none => rw [hc] at h; cases h
    | some l => rw [hc] at h; rw [cvC_up hE cs l hc]; exact h
  | .tuple vs, v, h => by
    simp only [cv] at h ⊢
    cases hc : cvL E vs with
    | none => rw [hc] at h; cases h
    | some l => rw [hc] at h; rw [cvL_up hE vs l hc]; exact h
theorem cvL_up {E E' : Env} (hE : ∀ b e, E b = some e → E' b = some e) : ∀ (a : List AV) (v : List Value), cvL E a = some v → cvL E' a = some v
  | [], v, h => by simpa [cvL] using h
  | x :: xs, v, h => by
    simp only [cvL] at h ⊢
    cases hx : cv E x with
    | none => rw [hx] at h; cases h
    | some u =>
      cases hl : cvL E xs with
      | none => rw [hx, hl] at h; cases h
      | some l => rw [hx, hl] at h; rw [cv_up hE x u hx, cvL_up hE xs l hl]; exact h
theorem cvC_up {E E' : Env} (hE : ∀ b e, E b = some e → E' b = some e) : ∀ (a : List AV) (v : List Value), cvC E a = some v → cvC E' a = some v
  | [], v, h => by simpa [cvC] using h
  | x :: xs, v, h => by
    simp only [cvC] at h ⊢
    cases ho : x.one with
    | false => rw [ho] at h; cases h
    | true =>
      cases hx : cv E x with
      | none => rw [ho, hx] at h; cases h
      | some u =>
        cases hl : cvC E xs with
        | none => rw [ho, hx, hl] at h; cases h
        | some l => rw [ho, hx, hl] at h; rw [cv_up hE x u hx, cvC_up hE xs l hl]; exact h
end

/-! ### lists of values -/
theorem cvL_length {E : Env} : ∀ {a : List AV} {v : List Value}, cvL E a = some v → v.length = a.length
  | [], v, h => by simp only [cvL, Option.some.injEq] at h; subst h; rfl
  | x :: xs, v, h => by
    simp only [cvL] at h
    split at h
    · rename_i u l hu hl
      cases h
      simp [cvL_length hl]
    · cases h
theorem cvC_length {E : Env} : ∀ {a : List AV} {v : List Value}, cvC E a = some v → v.length = a.length
  | [], v, h => by simp only [cvC, Option.some.injEq] at h; subst h; rfl
  | x :: xs, v, h => by
    simp only [cvC] at h
    split at h
    · rename_i u l ho hu hl
      cases h
      simp [cvC_length hl]
    · cases h
theorem cvL_get {E : Env} : ∀ {a : List AV} {v : List Value}, cvL E a = some v → ∀ (i : Nat) (x : AV), a[i]? = some x → ∃ u, cv E x = some u ∧ v[i]? = some u
  | [], v, h, i, x, hi => by simp at hi
  | y :: ys, v, h, i, x, hi => by
    simp only [cvL] at h
    split at h
    · rename_i u l hu hl
      cases h
      cases i with
      | zero => simp at hi; subst hi; exact ⟨u, hu, by simp⟩
      | succ i => simp at hi; obtain ⟨w, hw, hw'⟩ := cvL_get hl i x hi; exact ⟨w, hw, by simpa using hw'⟩
    · cases h
theorem cvC_get {E : Env} : ∀ {a : List AV} {v : List Value}, cvC E a = some v → ∀ (i : Nat) (x : AV), a[i]? = some x → x.one = true ∧ ∃ u, cv E x = some u ∧ v[i]? = some u
  | [], v, h, i, x, hi => by simp at hi
  | y :: ys, v, h, i, x, hi => by
    simp only [cvC] at h
    split at h
    · rename_i u l ho hu hl
      cases h
      cases i with
      | zero => simp at hi; subst hi; exact ⟨ho, u, hu, by simp⟩
      | succ i => simp at hi; obtain ⟨ho', w, hw, hw'⟩ := cvC_get hl i x hi; exact ⟨ho', w, hw, by simpa using hw'⟩
    · cases h
theorem cvC_of_get {E : Env} : ∀ (a : List AV) (v : List Value), v.length = a.length → (∀ (i : Nat) (x : AV), a[i]? = some x → x.one = true ∧ ∃ u, cv E x = some u ∧ v[i]? = some u) → cvC E a = some v
  | [], [], _, _ => by simp [cvC]
  | [], _ :: _, h, _ => by simp at h
  | _ :: _, [], h, _ => by simp at h
  | y :: ys, u :: us, hl, h => by
    obtain ⟨ho, w, hw, hw'⟩ := h 0 y (by simp)
    simp at hw'
    subst hw'
    have := cvC_of_get ys us (by simpa using hl) (fun i x hi => by have := h (i + 1) x (by simpa using hi); simpa using this)
    simp [cvC, ho, hw, this]
theorem cvL_append {E : Env} : ∀ {a b : List AV} {v w : List Value}, cvL E a = some v → cvL E b = some w → cvL E (a ++ b) = some (v ++ w)
  | [], b, v, w, h, h' => by simp only [cvL, Option.some.injEq] at h; subst h; simpa using h'
  | x :: xs, b, v, w, h, h' => by
    simp only [cvL] at h
    split at h
    · rename_i u l hu hl
      cases h
      simp [cvL, hu, cvL_append hl h']
    · cases h
theorem cvC_append {E : Env} : ∀ {a b : List AV} {v w : List Value}, cvC E a = some v → cvC E b = some w → cvC E (a ++ b) = some (v ++ w)
  | [], b, v, w, h, h' => by simp only [cvC, Option.some.injEq] at h; subst h; simpa using h'
  | x :: xs, b, v, w, h, h' => by
    simp only [cvC] at h
    split at h
    · rename_i u l ho hu hl
      cases h
      simp [cvC, ho, hu, cvC_append hl h']
    · cases h

/-- the cells of a value -/
theorem cells_cv {E : Env} {v : AV} {vs : List AV} {u : Value} (hc : v.cells? = some vs) (hu : cv E v = some u) : cvC E vs = some u.cells.toList := by
  cases v with
  | agg cs =>
    simp only [AV.cells?, Option.some.injEq] at hc
    subst hc
    simp only [cv] at hu
    split at hu
    · rename_i l hl; cases hu; simpa [Value.cells] using hl
    · cases hu
  | tuple vs => simp [AV.cells?] at hc
  | bool b => simp only [AV.cells?, Option.some.injEq] at hc; subst hc; simp only [cv, Option.some.injEq] at hu; subst hu; simp [cvC, cv, AV.one, Value.cells]
  | int k n => simp only [AV.cells?, Option.some.injEq] at hc; subst hc; simp only [cv, Option.some.injEq] at hu; subst hu; simp [cvC, cv, AV.one, Value.cells]
  | str l c => simp only [AV.cells?, Option.some.injEq] at hc; subst hc; simp only [cv, Option.some.injEq] at hu; subst hu; simp [cvC, cv, AV.one, Value.cells]
  | nilptr => simp only [AV.cells?, Option.some.injEq] at hc; subst hc; simp only [cv, Option.some.injEq] at hu; subst hu; simp [cvC, cv, AV.one, Value.cells]
  | nilslice => simp only [AV.cells?, Option.some.injEq] at hc; subst hc; simp only [cv, Option.some.injEq] at hu; subst hu; simp [cvC, cv, AV.one, Value.cells]
  | nilmap => simp only [AV.cells?, Option.some.injEq] at hc; subst hc; simp only [cv, Option.some.injEq] at hu; subst hu; simp [cvC, cv, AV.one, Value.cells]
  | nilfunc => simp only [AV.cells?, Option.some.injEq] at hc; subst hc; simp only [cv, Option.some.injEq] at hu; subst hu; simp [cvC, cv, AV.one, Value.cells]
  | niliface => simp only [AV.cells?, Option.some.injEq] at hc; subst hc; simp only [cv, Option.some.injEq] at hu; subst hu; simp [cvC, cv, AV.one, Value.cells]
  | ptr b off =>
    simp only [AV.cells?, Option.some.injEq] at hc; subst hc
    simp only [cv] at hu
    split at hu
    · rename_i e he; cases hu; simp [cvC, cv, AV.one, Value.cells, he]
    · cases hu
  | slice b off len cap ex =>
    simp only [AV.cells?, Option.some.injEq] at hc; subst hc
    simp only [cv] at hu
    split at hu
    · rename_i e he; cases hu; simp [cvC, cv, AV.one, Value.cells, he]
    · cases hu
  | map b =>
    simp only [AV.cells?, Option.some.injEq] at hc; subst hc
    simp only [cv] at hu
    split at hu
    · rename_i e he; cases hu; simp [cvC, cv, AV.one, Value.cells, he]
    · cases hu
  | yield l =>
    simp only [AV.cells?, Option.some.injEq] at hc; subst hc
    simp only [cv] at hu
    split at hu
    · rename_i e he; cases hu; simp [cvC, cv, AV.one, Value.cells, he]
    · cases hu
  | func fn fs cs =>
    simp only [AV.cells?, Option.some.injEq] at hc; subst hc
    have hu' := hu
    simp only [cv] at hu
    split at hu
    · cases hu; simp only [cvC, AV.one, hu']; simp [Value.cells]
    · cases hu
  | iface t x =>
    simp only [AV.cells?, Option.some.injEq] at hc; subst hc
    have hu' := hu
    simp only [cv] at hu
    split at hu
    · cases hu; simp only [cvC, AV.one, hu']; simp [Value.cells]
    · cases hu

/-! ### constants -/
theorem absC_cv {E : Env} {v : Value} {a : AV} (h : absC v = some a) : a.one = true ∧ cv E a = some v := by
  cases v with
  | bool b => simp only [absC, Option.some.injEq] at h; subst h; exact ⟨rfl, by simp [cv]⟩
  | int k n =>
    simp only [absC] at h
    split at h
    · cases h
    · rename_i hs; cases h; exact ⟨rfl, by simp [cv, dec_of hs]⟩
  | string s => simp only [absC, Option.some.injEq] at h; subst h; exact ⟨rfl, by simp only [cv, strB_codeOf]⟩
  | pointer p => cases p with
    | none => simp only [absC, Option.some.injEq] at h; subst h; exact ⟨rfl, by simp [cv]⟩
    | some p => simp [absC] at h
  | slice p l c =>
    cases p with
    | some p => simp [absC] at h
    | none => cases l with
      | succ l => simp [absC] at h
      | zero => cases c with
        | succ c => simp [absC] at h
        | zero => simp only [absC, Option.some.injEq] at h; subst h; exact ⟨rfl, by simp [cv]⟩
  | map m => cases m with
    | none => simp only [absC, Option.some.injEq] at h; subst h; exact ⟨rfl, by simp [cv]⟩
    | some p => simp [absC] at h
  | nilFunc => simp only [absC, Option.some.injEq] at h; subst h; exact ⟨rfl, by simp [cv]⟩
  | nilIface => simp only [absC, Option.some.injEq] at h; subst h; exact ⟨rfl, by simp [cv]⟩
  | float k b => simp [absC] at h
  | complex k a b => simp [absC] at h
  | chan r => simp [absC] at h
  | func f a b => simp [absC] at h
  | iface t v => simp [absC] at h
  | agg cs => simp [absC] at h
  | tuple vs => simp [absC] at h
theorem absL_cv {E : Env} : ∀ {vs : List Value} {l : List AV}, absL vs = some l → cvC E l = some vs ∧ cvL E l = some vs
  | [], l, h => by simp only [absL, Option.some.injEq] at h; subst h; simp [cvC, cvL]
  | v :: vs, l, h => by
    simp only [absL] at h
    split at h
    · rename_i a m ha hm
      cases h
      obtain ⟨h1, h2⟩ := absC_cv (E := E) ha
      obtain ⟨h3, h4⟩ := absL_cv (E := E) hm
      simp [cvC, cvL, h1, h2, h3, h4]
    · cases h
theorem absV_cv {E : Env} {v : Value} {a : AV} (h : absV v = some a) : cv E a = some v := by
  unfold absV at h
  split at h
  · split at h
    · rename_i cs l hl; cases h; simp [cv, (absL_cv (E := E) hl).1]
    · cases h
  · split at h
    · rename_i cs l hl; cases h; simp [cv, (absL_cv (E := E) hl).2]
    · cases h
  · exact (absC_cv h).2

end Go.Ev
