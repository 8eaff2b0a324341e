/- The evaluator once more, spelt with raw recursors where it is hot: the kernel is some times quicker with it. It is the same function (fnsF_eq). -/
import Derived.Test.YtbflihggpacblaaGreatDoorEvSig
set_option linter.unusedVariables false
set_option linter.unusedSimpArgs false
namespace Go.Ev
noncomputable section

def symBF (x : Int) : Bool := Int.rec (motive := fun _ => Bool) (fun _ => false) (fun m => Nat.ble 1180591620717411303424 m) (x)
theorem symBF_eq (x : Int) : symBF x = symB x := by cases x <;> rfl
def kcode (k : IntKind) : Nat := IntKind.rec (motive := fun _ => Nat) 0 1 2 3 4 5 6 7 k
theorem kcode_eq (i j : IntKind) : Nat.beq (kcode i) (kcode j) = ikeq i j := by cases i <;> cases j <;> rfl
def kindTopF (k : IntKind) : Nat := IntKind.rec (motive := fun _ => Nat) 128 32768 2147483648 9223372036854775808 256 65536 4294967296 18446744073709551616 k
theorem kindTopF_eq (k : IntKind) : kindTopF k = kindTop k := by cases k <;> rfl
def kindLowF (k : IntKind) : Nat := IntKind.rec (motive := fun _ => Nat) 128 32768 2147483648 9223372036854775808 0 0 0 0 k
theorem kindLowF_eq (k : IntKind) : kindLowF k = kindLow k := by cases k <;> rfl
def mkNatF (k : IntKind) (m : Nat) : Option AV := Bool.rec (motive := fun _ => Option AV) (none) (Nat.rec (motive := fun _ => Option AV) (some (.int k (.ofNat 0))) (fun j _ => some (.int k (.ofNat (Nat.succ j)))) (m)) (Nat.ble (Nat.succ m) (kindTopF k))
theorem mkNatF_eq (k : IntKind) (m : Nat) : mkNatF k m = mkNat k m := by
  unfold mkNatF mkNat
  rw [kindTopF_eq]
  show Bool.rec (motive := fun _ => Option AV) none _ (Nat.blt m (kindTop k)) = _
  cases Nat.blt m (kindTop k) with
  | false => rfl
  | true => cases m <;> rfl
def mkIntF (k : IntKind) (z : Int) : Option AV := Int.rec (motive := fun _ => Option AV) (fun m => mkNatF k m) (fun m => Bool.rec (motive := fun _ => Option AV) (none) (Nat.rec (motive := fun _ => Option AV) (some (.int k (.negSucc 0))) (fun j _ => some (.int k (.negSucc (Nat.succ j)))) (m)) (Nat.ble (Nat.succ m) (kindLowF k))) (z)
theorem mkIntF_eq (k : IntKind) (z : Int) : mkIntF k z = mkInt k z := by
  cases z with
  | ofNat m => exact mkNatF_eq k m
  | negSucc m =>
    unfold mkIntF mkInt
    show Bool.rec (motive := fun _ => Option AV) none _ (Nat.blt m (kindLowF k)) = (match Nat.blt m (kindLow k) with | true => frc m fun m => some (.int k (.negSucc m)) | false => none)
    rw [kindLowF_eq]
    cases Nat.blt m (kindLow k) with
    | false => rfl
    | true => cases m <;> rfl
def addF (k : IntKind) (a b : Int) : Option AV := Int.rec (motive := fun _ => Option AV) (fun x => Int.rec (motive := fun _ => Option AV) (fun y => mkNatF k (Nat.add x y)) (fun y => mkInt k (Int.add (.ofNat x) (.negSucc y))) (b)) (fun x => mkInt k (Int.add (.negSucc x) b)) (a)
theorem addF_eq (k : IntKind) (a b : Int) : addF k a b = mkInt k (Int.add a b) := by
  cases a with
  | ofNat x => cases b with
    | ofNat y => exact mkNatF_eq k (x + y)
    | negSucc y => rfl
  | negSucc x => rfl
def subF (k : IntKind) (a b : Int) : Option AV := Int.rec (motive := fun _ => Option AV) (fun x => Int.rec (motive := fun _ => Option AV) (fun y => Bool.rec (motive := fun _ => Option AV) (mkInt k (Int.sub (.ofNat x) (.ofNat y))) (mkNatF k (Nat.sub x y)) (Nat.ble y x)) (fun y => mkInt k (Int.sub (.ofNat x) (.negSucc y))) (b)) (fun x => mkInt k (Int.sub (.negSucc x) b)) (a)
theorem subF_eq (k : IntKind) (a b : Int) : subF k a b = mkInt k (Int.sub a b) := by
  cases a with
  | ofNat x => cases b with
    | ofNat y =>
      show Bool.rec (motive := fun _ => Option AV) (mkInt k (Int.sub (.ofNat x) (.ofNat y))) (mkNatF k (Nat.sub x y)) (Nat.ble y x) = _
      cases h : Nat.ble y x with
      | false => rfl
      | true =>
        have h1 : y ≤ x := Nat.le_of_ble_eq_true h
        have h2 : Int.sub (.ofNat x) (.ofNat y) = .ofNat (x - y) := (Int.ofNat_sub h1).symm
        rw [h2]
        exact mkNatF_eq k (x - y)
    | negSucc y => rfl
  | negSucc x => rfl
def iltF (x y : Int) : Bool := Int.rec (motive := fun _ => Bool) (fun a => Int.rec (motive := fun _ => Bool) (fun b => Nat.ble (Nat.succ a) b) (fun _ => false) (y)) (fun a => Int.rec (motive := fun _ => Bool) (fun _ => true) (fun b => Nat.ble (Nat.succ b) a) (y)) (x)
theorem iltF_eq (x y : Int) : iltF x y = ilt x y := by cases x <;> cases y <;> rfl
def ieqF (x y : Int) : Bool := Int.rec (motive := fun _ => Bool) (fun a => Int.rec (motive := fun _ => Bool) (fun b => Nat.beq a b) (fun _ => false) (y)) (fun a => Int.rec (motive := fun _ => Bool) (fun _ => false) (fun b => Nat.beq a b) (y)) (x)
theorem ieqF_eq (x y : Int) : ieqF x y = ieq x y := by cases x <;> cases y <;> rfl
theorem notF (b : Bool) : Bool.rec (motive := fun _ => Bool) true false b = !b := by cases b <;> rfl
def evIntF (op : BinOp) (k : IntKind) (a b : Int) : Option AV := BinOp.rec (motive := fun _ => Option AV) (addF k a b) (subF k a b) (mkInt k (Int.mul a b)) (divOf Nat.div k a b) (divOf Nat.mod k a b) (bitsAnd k a b) (bitsOf Nat.lor k a b) (bitsOf Nat.xor k a b) (shOf Nat.mul k a b) (shOf Nat.div k a b) (bitsAndNot k a b) (some (.bool (ieqF a b))) (some (.bool (Bool.rec (motive := fun _ => Bool) (true) (false) (ieqF a b)))) (some (.bool (iltF a b))) (some (.bool (Bool.rec (motive := fun _ => Bool) (true) (false) (iltF b a)))) (some (.bool (iltF b a))) (some (.bool (Bool.rec (motive := fun _ => Bool) (true) (false) (iltF a b)))) op
theorem evIntF_eq (op : BinOp) (k : IntKind) (a b : Int) : evIntF op k a b = evInt op k a b := by
  cases op <;> simp only [evIntF, evInt, addF_eq, subF_eq, ieqF_eq, iltF_eq, notF]
def streqF (l1 c1 l2 c2 : Nat) : Bool := Bool.rec (motive := fun _ => Bool) (false) (Nat.beq (Nat.mod c1 (Nat.pow 256 l1)) (Nat.mod c2 (Nat.pow 256 l2))) (Nat.beq l1 l2)
theorem streqF_eq (l1 c1 l2 c2 : Nat) : streqF l1 c1 l2 c2 = streq l1 c1 l2 c2 := by
  unfold streqF streq
  cases Nat.beq l1 l2 <;> rfl
def evStrF (op : BinOp) (l1 c1 l2 c2 : Nat) : Option AV := BinOp.rec (motive := fun _ => Option AV) (evStr .add l1 c1 l2 c2) (none) (none) (none) (none) (none) (none) (none) (none) (none) (none) (some (.bool (streqF l1 c1 l2 c2))) (some (.bool (Bool.rec (motive := fun _ => Bool) (true) (false) (streqF l1 c1 l2 c2)))) (none) (none) (none) (none) op
theorem evStrF_eq (op : BinOp) (l1 c1 l2 c2 : Nat) : evStrF op l1 c1 l2 c2 = evStr op l1 c1 l2 c2 := by
  cases op <;> simp only [evStrF, evStr, streqF_eq, notF]
def evBinF (op : BinOp) (k : EK) (lit : Bool) (x y : AV) : Option AV := AV.rec (motive_1 := fun _ => Option AV) (motive_2 := fun _ => Option AV) (fun _ => evOther op k lit x y) (fun i a => AV.rec (motive_1 := fun _ => Option AV) (motive_2 := fun _ => Option AV) (fun _ => none) (fun j b => Bool.rec (motive := fun _ => Option AV) (Bool.rec (motive := fun _ => Option AV) (Bool.rec (motive := fun _ => Option AV) (evBin op k lit (.int i a) (.int j b)) (evIntF op i a b) (Nat.beq (kcode i) (kcode j))) (evBin op k lit (.int i a) (.int j b)) (symBF b)) (evBin op k lit (.int i a) (.int j b)) (symBF a)) (fun _ _ => none) (fun _ _ => none) (none) (fun _ _ _ _ _ => none) (none) (fun _ => none) (none) (fun _ _ _ _ _ => none) (fun _ => none) (none) (fun _ _ _ => none) (none) (fun _ _ => none) (fun _ _ => none) (none) (fun _ _ _ _ => none) y) (fun l c => AV.rec (motive_1 := fun _ => Option AV) (motive_2 := fun _ => Option AV) (fun _ => none) (fun _ _ => none) (fun m d => evStrF op l c m d) (fun _ _ => none) (none) (fun _ _ _ _ _ => none) (none) (fun _ => none) (none) (fun _ _ _ _ _ => none) (fun _ => none) (none) (fun _ _ _ => none) (none) (fun _ _ => none) (fun _ _ => none) (none) (fun _ _ _ _ => none) y) (fun _ _ => evOther op k lit x y) (evOther op k lit x y) (fun _ _ _ _ _ => evOther op k lit x y) (evOther op k lit x y) (fun _ => evOther op k lit x y) (evOther op k lit x y) (fun _ _ _ _ _ => evOther op k lit x y) (fun _ => evOther op k lit x y) (evOther op k lit x y) (fun _ _ _ => evOther op k lit x y) (evOther op k lit x y) (fun _ _ => evOther op k lit x y) (fun _ _ => evOther op k lit x y) (evOther op k lit x y) (fun _ _ _ _ => evOther op k lit x y) x
theorem evBinF_int (op : BinOp) (k : EK) (lit : Bool) (i j : IntKind) (a b : Int) : evBinF op k lit (.int i a) (.int j b) = evBin op k lit (.int i a) (.int j b) := by
  show Bool.rec (motive := fun _ => Option AV) (Bool.rec (motive := fun _ => Option AV) (Bool.rec (motive := fun _ => Option AV) (evBin op k lit (.int i a) (.int j b)) (evIntF op i a b) (Nat.beq (kcode i) (kcode j))) (evBin op k lit (.int i a) (.int j b)) (symBF b)) (evBin op k lit (.int i a) (.int j b)) (symBF a) = _
  rw [symBF_eq, symBF_eq, kcode_eq, evIntF_eq]
  cases h1 : symB a with
  | true => rfl
  | false => cases h2 : symB b with
    | true => rfl
    | false => cases h3 : ikeq i j with
      | false => rfl
      | true => simp only [evBin, h1, h2, h3, Bool.or_self]
theorem evBinF_eq (op : BinOp) (k : EK) (lit : Bool) (x y : AV) : evBinF op k lit x y = evBin op k lit x y := by
  cases x with
  | int i a => cases y with
    | int j b => exact evBinF_int op k lit i j a b
    | _ => rfl
  | str l c => cases y with
    | str m d => exact evStrF_eq op l c m d
    | _ => rfl
  | _ => rfl

/-! lists -/
def appF (l m : List AV) : List AV := List.rec (motive := fun _ => List AV) m (fun x _ ih => x :: ih) l
theorem appF_eq (l m : List AV) : appF l m = l ++ m := by
  induction l with
  | nil => rfl
  | cons x l ih => exact congrArg (x :: ·) ih
def lenF (l : List AV) : Nat := List.rec (motive := fun _ => Nat) 0 (fun _ _ ih => Nat.succ ih) l
theorem lenF_eq (l : List AV) : lenF l = lenL l := by
  induction l with
  | nil => rfl
  | cons x l ih => exact congrArg Nat.succ ih
theorem lenF_length (l : List AV) : lenF l = l.length := by
  induction l with
  | nil => rfl
  | cons x l ih => exact congrArg Nat.succ ih
def takeF (n : Nat) : List AV → Option (List AV) := Nat.rec (motive := fun _ => List AV → Option (List AV)) (fun _ => some []) (fun _ ih l => List.rec (motive := fun _ => Option (List AV)) (none) (fun x t _ => Option.rec (motive := fun _ => Option (List AV)) (none) (fun r => some (x :: r)) (ih t)) (l)) n
theorem takeF_eq (n : Nat) (l : List AV) : takeF n l = takeL n l := by
  induction n generalizing l with
  | zero => rfl
  | succ n ih => cases l with
    | nil => rfl
    | cons x l =>
      show Option.rec (motive := fun _ => Option (List AV)) (none) (fun r => some (x :: r)) (takeF n l) = _
      rw [ih, takeL]
      cases takeL n l <;> rfl
def dropF (n : Nat) : List AV → Option (List AV) := Nat.rec (motive := fun _ => List AV → Option (List AV)) (fun l => some l) (fun _ ih l => List.rec (motive := fun _ => Option (List AV)) (none) (fun _x t _ => ih t) (l)) n
theorem dropF_eq (n : Nat) (l : List AV) : dropF n l = dropL n l := by
  induction n generalizing l with
  | zero => cases l <;> rfl
  | succ n ih => cases l with
    | nil => rfl
    | cons x l => exact ih l
def overF (vs : List AV) : List AV → Option (List AV) := List.rec (motive := fun _ => List AV → Option (List AV)) (fun l => some l) (fun v _ ih l => List.rec (motive := fun _ => Option (List AV)) (none) (fun _x t _ => Option.rec (motive := fun _ => Option (List AV)) (none) (fun r => some (v :: r)) (ih t)) (l)) vs
theorem overF_eq (vs l : List AV) : overF vs l = overL vs l := by
  induction vs generalizing l with
  | nil => cases l <;> rfl
  | cons v vs ih => cases l with
    | nil => rfl
    | cons x l =>
      show Option.rec (motive := fun _ => Option (List AV)) (none) (fun r => some (v :: r)) (overF vs l) = _
      rw [ih, overL]
      cases overL vs l <;> rfl
def writeF (n : Nat) (vs : List AV) : List AV → Option (List AV) := Nat.rec (motive := fun _ => List AV → Option (List AV)) (fun l => overF vs l) (fun _ ih l => List.rec (motive := fun _ => Option (List AV)) (none) (fun x t _ => Option.rec (motive := fun _ => Option (List AV)) (none) (fun r => some (x :: r)) (ih t)) (l)) n
theorem writeF_eq (n : Nat) (vs l : List AV) : writeF n vs l = writeL n vs l := by
  induction n generalizing l with
  | zero => rw [writeL]; exact overF_eq vs l
  | succ n ih => cases l with
    | nil => rfl
    | cons x l =>
      show Option.rec (motive := fun _ => Option (List AV)) (none) (fun r => some (x :: r)) (writeF n vs l) = _
      rw [ih, writeL]
      cases writeL n vs l <;> rfl
/-- one value written over -/
def setF (n : Nat) (v : AV) : List AV → Option (List AV) := Nat.rec (motive := fun _ => List AV → Option (List AV)) (fun l => List.rec (motive := fun _ => Option (List AV)) (none) (fun _x t _ => some (v :: t)) (l)) (fun _ ih l => List.rec (motive := fun _ => Option (List AV)) (none) (fun x t _ => Option.rec (motive := fun _ => Option (List AV)) (none) (fun r => some (x :: r)) (ih t)) (l)) n
theorem setF_eq (n : Nat) (v : AV) (l : List AV) : setF n v l = writeL n [v] l := by
  induction n generalizing l with
  | zero => cases l with
    | nil => rfl
    | cons x l => rw [writeL, overL, overL]; rfl
  | succ n ih => cases l with
    | nil => rfl
    | cons x l =>
      show Option.rec (motive := fun _ => Option (List AV)) (none) (fun r => some (x :: r)) (setF n v l) = _
      rw [ih, writeL]
      cases writeL n [v] l <;> rfl
/-- a value of 'n' cells written over -/
def layF (n off : Nat) (v : AV) (l : List AV) : Option (List AV) := AV.rec (motive_1 := fun _ => Option (List AV)) (motive_2 := fun _ => Option (List AV)) (fun _ => Bool.rec (motive := fun _ => Option (List AV)) (none) (setF off v l) (Nat.beq 1 n)) (fun _ _ => Bool.rec (motive := fun _ => Option (List AV)) (none) (setF off v l) (Nat.beq 1 n)) (fun _ _ => Bool.rec (motive := fun _ => Option (List AV)) (none) (setF off v l) (Nat.beq 1 n)) (fun _ _ => Bool.rec (motive := fun _ => Option (List AV)) (none) (setF off v l) (Nat.beq 1 n)) (Bool.rec (motive := fun _ => Option (List AV)) (none) (setF off v l) (Nat.beq 1 n)) (fun _ _ _ _ _ => Bool.rec (motive := fun _ => Option (List AV)) (none) (setF off v l) (Nat.beq 1 n)) (Bool.rec (motive := fun _ => Option (List AV)) (none) (setF off v l) (Nat.beq 1 n)) (fun _ => Bool.rec (motive := fun _ => Option (List AV)) (none) (setF off v l) (Nat.beq 1 n)) (Bool.rec (motive := fun _ => Option (List AV)) (none) (setF off v l) (Nat.beq 1 n)) (fun _ _ _ _ _ => Bool.rec (motive := fun _ => Option (List AV)) (none) (setF off v l) (Nat.beq 1 n)) (fun _ => Bool.rec (motive := fun _ => Option (List AV)) (none) (setF off v l) (Nat.beq 1 n)) (Bool.rec (motive := fun _ => Option (List AV)) (none) (setF off v l) (Nat.beq 1 n)) (fun _ _ _ => Bool.rec (motive := fun _ => Option (List AV)) (none) (setF off v l) (Nat.beq 1 n)) (Bool.rec (motive := fun _ => Option (List AV)) (none) (setF off v l) (Nat.beq 1 n)) (fun cs _ => Bool.rec (motive := fun _ => Option (List AV)) (none) (writeF off cs l) (Nat.beq (lenF cs) n)) (fun _vs _ => none) (Bool.rec (motive := fun _ => Option (List AV)) (none) (setF off v l) (Nat.beq 1 n)) (fun _ _ _ _ => Bool.rec (motive := fun _ => Option (List AV)) (none) (setF off v l) (Nat.beq 1 n)) v
theorem layF_eq (n off : Nat) (v : AV) (l : List AV) : layF n off v l = (match v.cells? with | some vs => (match Nat.beq (lenL vs) n with | true => writeL off vs l | false => none) | none => none) := by
  cases v with
  | agg cs =>
    show Bool.rec (motive := fun _ => Option (List AV)) (none) (writeF off cs l) (Nat.beq (lenF cs) n) = (match Nat.beq (lenL cs) n with | true => writeL off cs l | false => none)
    rw [lenF_eq, writeF_eq]
    cases Nat.beq (lenL cs) n <;> rfl
  | tuple vs => rfl
  | _ =>
    show Bool.rec (motive := fun _ => Option (List AV)) (none) (setF off _ l) (Nat.beq 1 n) = (match Nat.beq 1 n with | true => writeL off _ l | false => none)
    rw [setF_eq]
    cases Nat.beq 1 n <;> rfl
def fillF (ps : List (Nat × Nat × AV)) : List AV → Option (List AV) := List.rec (motive := fun _ => List AV → Option (List AV)) (fun l => some l) (fun p _ ih l => Option.rec (motive := fun _ => Option (List AV)) (none) (fun r => ih r) (layF p.2.1 p.1 p.2.2 l)) ps
theorem fillF_eq (ps : List (Nat × Nat × AV)) (l : List AV) : fillF ps l = fillL ps l := by
  induction ps generalizing l with
  | nil => rfl
  | cons p ps ih =>
    obtain ⟨off, size, v⟩ := p
    show Option.rec (motive := fun _ => Option (List AV)) (none) (fun r => fillF ps r) (layF size off v l) = _
    rw [layF_eq, fillL]
    cases v.cells? with
    | none => rfl
    | some vs => cases hb : Nat.beq (lenL vs) size with
      | false => simp only [hb]
      | true =>
        simp only [hb]
        cases writeL off vs l with
        | none => rfl
        | some r => exact ih r

/-! memory -/
def loadF (h : H) (g : Bool) (n b off : Nat) : Option AV := Option.rec (motive := fun _ => Option AV) (none) (fun x => Blk.rec (motive := fun _ => Option AV) (fun cs _ _ _ => Bool.rec (motive := fun _ => Option AV) (nthV cs off) (Option.rec (motive := fun _ => Option AV) (none) (fun l => Option.rec (motive := fun _ => Option AV) (none) (fun r => some (.agg r)) (takeF n l)) (dropF off cs)) (g)) (fun _ _ => none) (fun _ _ _ => none) (fun _ _ _ _ _ _ _ _ _ => none) (fun _ => none) (none) (fun _ _ => none) (x)) (Tr.get h.t b)
theorem loadF_eq (h : H) (g : Bool) (n b off : Nat) : loadF h g n b off = loadAt h g n b off := by
  unfold loadF loadAt H.get
  cases Tr.get h.t b with
  | none => rfl
  | some x => cases x with
    | cells cs e tl ro => cases g with
      | false => rfl
      | true =>
        show Option.rec (motive := fun _ => Option AV) (none) (fun l => Option.rec (motive := fun _ => Option AV) (none) (fun r => some (.agg r)) (takeF n l)) (dropF off cs) = _
        rw [dropF_eq]
        simp only []
        cases dropL off cs with
        | none => rfl
        | some l =>
          show Option.rec (motive := fun _ => Option AV) (none) (fun r => some (.agg r)) (takeF n l) = _
          rw [takeF_eq]
          simp only []
          cases takeL n l <;> rfl
    | _ => rfl
def storeF (h : H) (n b off : Nat) (v : AV) : Option H := Option.rec (motive := fun _ => Option H) (none) (fun x => Blk.rec (motive := fun _ => Option H) (fun cs e tl ro => Bool.rec (motive := fun _ => Option H) (Option.rec (motive := fun _ => Option H) (none) (fun l => some (h.put b (.cells l e tl false))) (layF n off v cs)) (none) (ro)) (fun _ _ => none) (fun _ _ _ => none) (fun _ _ _ _ _ _ _ _ _ => none) (fun _ => none) (none) (fun _ _ => none) (x)) (Tr.get h.t b)
theorem storeF_eq (h : H) (n b off : Nat) (v : AV) : storeF h n b off v = storeAt h n b off v := by
  unfold storeF storeAt H.get
  cases Tr.get h.t b with
  | none => rfl
  | some x => cases x with
    | cells cs e tl ro => cases ro with
      | true => rfl
      | false =>
        show Option.rec (motive := fun _ => Option H) (none) (fun l => some (h.put b (.cells l e tl false))) (layF n off v cs) = _
        rw [layF_eq]
        simp only []
        cases v.cells? with
        | none => rfl
        | some vs => cases hb : Nat.beq (lenL vs) n with
          | false => simp only [hb]
          | true =>
            simp only [hb]
            cases writeL off vs cs <;> rfl
    | _ => rfl

/-! operands -/
def getXsF (l : List XO) : A → Option (List AV) := List.rec (motive := fun _ => A → Option (List AV)) (fun _ => some []) (fun x _ ih a => Option.rec (motive := fun _ => Option (List AV)) (none) (fun v => Option.rec (motive := fun _ => Option (List AV)) (none) (fun l => some (v :: l)) (ih a)) (getX x a)) l
theorem getXsF_eq (l : List XO) (a : A) : getXsF l a = getXs a l := by
  induction l with
  | nil => rfl
  | cons x l ih =>
    show Option.rec (motive := fun _ => Option (List AV)) (none) (fun v => Option.rec (motive := fun _ => Option (List AV)) (none) (fun l => some (v :: l)) (getXsF l a)) (getX x a) = _
    rw [ih, getXs]
    cases getX x a with
    | none => rfl
    | some v => cases getXs a l <;> rfl
def getPartsF (l : List (Nat × Nat × XO)) : A → Option (List (Nat × Nat × AV)) := List.rec (motive := fun _ => A → Option (List (Nat × Nat × AV))) (fun _ => some []) (fun p _ ih a => Option.rec (motive := fun _ => Option (List (Nat × Nat × AV))) (none) (fun v => Option.rec (motive := fun _ => Option (List (Nat × Nat × AV))) (none) (fun l => some ((p.1, p.2.1, v) :: l)) (ih a)) (getX p.2.2 a)) l
theorem getPartsF_eq (l : List (Nat × Nat × XO)) (a : A) : getPartsF l a = getParts a l := by
  induction l with
  | nil => rfl
  | cons p l ih =>
    obtain ⟨o, s, x⟩ := p
    show Option.rec (motive := fun _ => Option (List (Nat × Nat × AV))) (none) (fun v => Option.rec (motive := fun _ => Option (List (Nat × Nat × AV))) (none) (fun l => some ((o, s, v) :: l)) (getPartsF l a)) (getX x a) = _
    rw [ih, getParts]
    cases getX x a with
    | none => rfl
    | some v => cases getParts a l <;> rfl
def optF (d : Nat) (x : Option XO) (a : A) : Option Nat := Option.rec (motive := fun _ => Option Nat) (some d) (fun x => Option.rec (motive := fun _ => Option Nat) (none) (fun v => AV.rec (motive_1 := fun _ => Option Nat) (motive_2 := fun _ => Option Nat) (fun _ => none) (fun _k z => Int.rec (motive := fun _ => Option Nat) (fun n => some n) (fun _ => none) (z)) (fun _ _ => none) (fun _ _ => none) (none) (fun _ _ _ _ _ => none) (none) (fun _ => none) (none) (fun _ _ _ _ _ => none) (fun _ => none) (none) (fun _ _ _ => none) (none) (fun _ _ => none) (fun _ _ => none) (none) (fun _ _ _ _ => none) v) (getX x a)) x
theorem optF_none (d : Nat) (a : A) : optF d none a = some d := rfl
theorem optF_some (d : Nat) (x : XO) (a : A) : optF d (some x) a = (match getX x a with | some v => natOf v | none => none) := by
  show Option.rec (motive := fun _ => Option Nat) (none) (fun v => AV.rec (motive_1 := fun _ => Option Nat) (motive_2 := fun _ => Option Nat) (fun _ => none) (fun _k z => Int.rec (motive := fun _ => Option Nat) (fun n => some n) (fun _ => none) (z)) (fun _ _ => none) (fun _ _ => none) (none) (fun _ _ _ _ _ => none) (none) (fun _ => none) (none) (fun _ _ _ _ _ => none) (fun _ => none) (none) (fun _ _ _ => none) (none) (fun _ _ => none) (fun _ _ => none) (none) (fun _ _ _ _ => none) v) (getX x a) = _
  cases getX x a with
  | none => rfl
  | some v => cases v with
    | int k z => cases z <;> rfl
    | _ => rfl
def mkVarsF (l : List AV) : Nat → Tr AV → Tr AV := List.rec (motive := fun _ => Nat → Tr AV → Tr AV) (fun _ t => t) (fun v _ ih i t => ih (Nat.succ i) (t.put i v)) l
theorem mkVarsF_eq (l : List AV) (i : Nat) (t : Tr AV) : mkVarsF l i t = mkVars l i t := by
  induction l generalizing i t with
  | nil => rfl
  | cons v l ih => exact ih _ _

def rMvF (x : XO) (a : A) (h : H) : OR := Option.rec (motive := fun _ => OR) (.fail) (fun v => .val v h) (getX x a)
theorem rMvF_eq (x : XO) (a : A) (h : H) : rMvF x a h = rMv x a h := by
  unfold rMvF rMv ofO
  cases getX x a <;> rfl
def rBinF (op : BinOp) (k : EK) (lit : Bool) (x y : XO) (a : A) (h : H) : OR := Option.rec (motive := fun _ => OR) (.fail) (fun u => Option.rec (motive := fun _ => OR) (.fail) (fun v => Option.rec (motive := fun _ => OR) (.fail) (fun z => .val z h) (evBinF op k lit u v)) (getX y a)) (getX x a)
theorem rBinF_eq (op : BinOp) (k : EK) (lit : Bool) (x y : XO) (a : A) (h : H) : rBinF op k lit x y a h = rBin op k lit x y a h := by
  unfold rBinF rBin ofO
  cases getX x a with
  | none => rfl
  | some u => cases getX y a with
    | none => rfl
    | some v =>
      simp only [evBinF_eq]
      cases evBin op k lit u v <;> rfl
def rLdF (g : Bool) (n : Nat) (x : XO) (a : A) (h : H) : OR := Option.rec (motive := fun _ => OR) (.fail) (fun v => AV.rec (motive_1 := fun _ => OR) (motive_2 := fun _ => OR) (fun _ => .fail) (fun _ _ => .fail) (fun _ _ => .fail) (fun b off => Option.rec (motive := fun _ => OR) (.fail) (fun z => .val z h) (loadF h g n b off)) (.fail) (fun _ _ _ _ _ => .fail) (.fail) (fun _ => .fail) (.fail) (fun _ _ _ _ _ => .fail) (fun _ => .fail) (.fail) (fun _ _ _ => .fail) (.fail) (fun _ _ => .fail) (fun _ _ => .fail) (.fail) (fun _ _ _ _ => .fail) v) (getX x a)
theorem rLdF_eq (g : Bool) (n : Nat) (x : XO) (a : A) (h : H) : rLdF g n x a h = rLd g n x a h := by
  unfold rLdF rLd ofO
  cases getX x a with
  | none => rfl
  | some v => cases v with
    | ptr b off =>
      show Option.rec (motive := fun _ => OR) (.fail) (fun z => .val z h) (loadF h g n b off) = _
      rw [loadF_eq]
      simp only []
      cases loadAt h g n b off <;> rfl
    | _ => rfl
def rStF (n : Nat) (x y : XO) (a : A) (h : H) : OR := Option.rec (motive := fun _ => OR) (.fail) (fun u => AV.rec (motive_1 := fun _ => OR) (motive_2 := fun _ => OR) (fun _ => .fail) (fun _ _ => .fail) (fun _ _ => .fail) (fun b off => Option.rec (motive := fun _ => OR) (.fail) (fun v => Option.rec (motive := fun _ => OR) (.fail) (fun h' => .val .undef h') (storeF h n b off v)) (getX y a)) (.fail) (fun _ _ _ _ _ => .fail) (.fail) (fun _ => .fail) (.fail) (fun _ _ _ _ _ => .fail) (fun _ => .fail) (.fail) (fun _ _ _ => .fail) (.fail) (fun _ _ => .fail) (fun _ _ => .fail) (.fail) (fun _ _ _ _ => .fail) u) (getX x a)
theorem rStF_eq (n : Nat) (x y : XO) (a : A) (h : H) : rStF n x y a h = rSt n x y a h := by
  unfold rStF rSt
  cases getX x a with
  | none => rfl
  | some u => cases u with
    | ptr b off =>
      show Option.rec (motive := fun _ => OR) (.fail) (fun v => Option.rec (motive := fun _ => OR) (.fail) (fun h' => .val .undef h') (storeF h n b off v)) (getX y a) = _
      simp only []
      cases getX y a with
      | none => rfl
      | some v =>
        simp only [storeF_eq]
        cases storeAt h n b off v <;> rfl
    | _ => rfl
def rFaF (o : Nat) (x : XO) (a : A) (h : H) : OR := Option.rec (motive := fun _ => OR) (.fail) (fun v => AV.rec (motive_1 := fun _ => OR) (motive_2 := fun _ => OR) (fun _ => .fail) (fun _ _ => .fail) (fun _ _ => .fail) (fun b off => Nat.rec (motive := fun _ => OR) (.val (.ptr b 0) h) (fun j _ => .val (.ptr b (Nat.succ j)) h) (Nat.add off o)) (.fail) (fun _ _ _ _ _ => .fail) (.fail) (fun _ => .fail) (.fail) (fun _ _ _ _ _ => .fail) (fun _ => .fail) (.fail) (fun _ _ _ => .fail) (.fail) (fun _ _ => .fail) (fun _ _ => .fail) (.fail) (fun _ _ _ _ => .fail) v) (getX x a)
theorem rFaF_eq (o : Nat) (x : XO) (a : A) (h : H) : rFaF o x a h = rFa o x a h := by
  unfold rFaF rFa frc
  cases getX x a with
  | none => rfl
  | some v => cases v with
    | ptr b off =>
      simp only []
      cases Nat.add off o <;> rfl
    | _ => rfl
def rIaF (sz : Nat) (x i : XO) (a : A) (h : H) : OR := Option.rec (motive := fun _ => OR) (.fail) (fun u => AV.rec (motive_1 := fun _ => OR) (motive_2 := fun _ => OR) (fun _ => .fail) (fun _ _ => .fail) (fun _ _ => .fail) (fun _ _ => .fail) (.fail) (fun b off len _cap _ex => Option.rec (motive := fun _ => OR) (.fail) (fun v => AV.rec (motive_1 := fun _ => OR) (motive_2 := fun _ => OR) (fun _ => .fail) (fun _k z => Int.rec (motive := fun _ => OR) (fun n => Bool.rec (motive := fun _ => OR) (.fail) (Nat.rec (motive := fun _ => OR) (.val (.ptr b 0) h) (fun j _ => .val (.ptr b (Nat.succ j)) h) (Nat.add off (Nat.mul n sz))) (Nat.ble (Nat.succ n) len)) (fun _ => .fail) (z)) (fun _ _ => .fail) (fun _ _ => .fail) (.fail) (fun _ _ _ _ _ => .fail) (.fail) (fun _ => .fail) (.fail) (fun _ _ _ _ _ => .fail) (fun _ => .fail) (.fail) (fun _ _ _ => .fail) (.fail) (fun _ _ => .fail) (fun _ _ => .fail) (.fail) (fun _ _ _ _ => .fail) v) (getX i a)) (.fail) (fun _ => .fail) (.fail) (fun _ _ _ _ _ => .fail) (fun _ => .fail) (.fail) (fun _ _ _ => .fail) (.fail) (fun _ _ => .fail) (fun _ _ => .fail) (.fail) (fun _ _ _ _ => .fail) u) (getX x a)
theorem rIaF_eq (sz : Nat) (x i : XO) (a : A) (h : H) : rIaF sz x i a h = rIa sz x i a h := by
  unfold rIaF rIa frc
  cases getX x a with
  | none => rfl
  | some u => cases u with
    | slice b off len cap ex =>
      simp only []
      cases getX i a with
      | none => rfl
      | some v => cases v with
        | int k z => cases z with
          | negSucc m => rfl
          | ofNat n =>
            simp only []
            show Bool.rec (motive := fun _ => OR) _ _ (Nat.blt n len) = _
            cases Nat.blt n len with
            | false => rfl
            | true => cases Nat.add off (Nat.mul n sz) <;> rfl
        | _ => rfl
    | _ => rfl
def rIxSF (x i : XO) (a : A) (h : H) : OR := Option.rec (motive := fun _ => OR) (.fail) (fun u => AV.rec (motive_1 := fun _ => OR) (motive_2 := fun _ => OR) (fun _ => .fail) (fun _ _ => .fail) (fun len c => Option.rec (motive := fun _ => OR) (.fail) (fun v => AV.rec (motive_1 := fun _ => OR) (motive_2 := fun _ => OR) (fun _ => .fail) (fun _k z => Int.rec (motive := fun _ => OR) (fun n => Bool.rec (motive := fun _ => OR) (.fail) (Option.rec (motive := fun _ => OR) (.fail) (fun z => .val z h) (mkNatF .u8 (Nat.mod (Nat.div c (Nat.pow 256 n)) 256))) (Nat.ble (Nat.succ n) len)) (fun _ => .fail) (z)) (fun _ _ => .fail) (fun _ _ => .fail) (.fail) (fun _ _ _ _ _ => .fail) (.fail) (fun _ => .fail) (.fail) (fun _ _ _ _ _ => .fail) (fun _ => .fail) (.fail) (fun _ _ _ => .fail) (.fail) (fun _ _ => .fail) (fun _ _ => .fail) (.fail) (fun _ _ _ _ => .fail) v) (getX i a)) (fun _ _ => .fail) (.fail) (fun _ _ _ _ _ => .fail) (.fail) (fun _ => .fail) (.fail) (fun _ _ _ _ _ => .fail) (fun _ => .fail) (.fail) (fun _ _ _ => .fail) (.fail) (fun _ _ => .fail) (fun _ _ => .fail) (.fail) (fun _ _ _ _ => .fail) u) (getX x a)
theorem rIxSF_eq (x i : XO) (a : A) (h : H) : rIxSF x i a h = rIxS x i a h := by
  unfold rIxSF rIxS ofO
  cases getX x a with
  | none => rfl
  | some u => cases u with
    | str len c =>
      simp only []
      cases getX i a with
      | none => rfl
      | some v => cases v with
        | int k z => cases z with
          | negSucc m => rfl
          | ofNat n =>
            simp only [mkNatF_eq]
            show Bool.rec (motive := fun _ => OR) _ _ (Nat.blt n len) = _
            cases Nat.blt n len with
            | false => rfl
            | true =>
              simp only []
              cases mkNat .u8 (Nat.mod (Nat.div c (Nat.pow 256 n)) 256) <;> rfl
        | _ => rfl
    | _ => rfl
def rSlStrF (x : XO) (lo hi : Option XO) (a : A) (h : H) : OR := Option.rec (motive := fun _ => OR) (.fail) (fun v => AV.rec (motive_1 := fun _ => OR) (motive_2 := fun _ => OR) (fun _ => .fail) (fun _ _ => .fail) (fun len c => Option.rec (motive := fun _ => OR) (.fail) (fun q => Option.rec (motive := fun _ => OR) (.fail) (fun p => Bool.rec (motive := fun _ => OR) (.fail) (Bool.rec (motive := fun _ => OR) (.fail) (Nat.rec (motive := fun _ => OR) (Nat.rec (motive := fun _ => OR) (.val (.str 0 0) h) (fun i _ => .val (.str 0 (Nat.succ i)) h) (Nat.mod (Nat.div c (Nat.pow 256 p)) (Nat.pow 256 0))) (fun j _ => Nat.rec (motive := fun _ => OR) (.val (.str (Nat.succ j) 0) h) (fun i _ => .val (.str (Nat.succ j) (Nat.succ i)) h) (Nat.mod (Nat.div c (Nat.pow 256 p)) (Nat.pow 256 (Nat.succ j)))) (Nat.sub q p)) (Nat.ble p q)) (Nat.ble q len)) (optF 0 lo a)) (optF len hi a)) (fun _ _ => .fail) (.fail) (fun _ _ _ _ _ => .fail) (.fail) (fun _ => .fail) (.fail) (fun _ _ _ _ _ => .fail) (fun _ => .fail) (.fail) (fun _ _ _ => .fail) (.fail) (fun _ _ => .fail) (fun _ _ => .fail) (.fail) (fun _ _ _ _ => .fail) v) (getX x a)
theorem rSlStrF_eq (x : XO) (lo hi : Option XO) (a : A) (h : H) : rSlStrF x lo hi a h = rSlStr x lo hi a h := by
  unfold rSlStrF rSlStr
  cases getX x a with
  | none => rfl
  | some v => cases v with
    | str len c =>
      show Option.rec (motive := fun _ => OR) (.fail) (fun q => Option.rec (motive := fun _ => OR) (.fail) (fun p => Bool.rec (motive := fun _ => OR) (.fail) (Bool.rec (motive := fun _ => OR) (.fail) (Nat.rec (motive := fun _ => OR) (Nat.rec (motive := fun _ => OR) (.val (.str 0 0) h) (fun i _ => .val (.str 0 (Nat.succ i)) h) (Nat.mod (Nat.div c (Nat.pow 256 p)) (Nat.pow 256 0))) (fun j _ => Nat.rec (motive := fun _ => OR) (.val (.str (Nat.succ j) 0) h) (fun i _ => .val (.str (Nat.succ j) (Nat.succ i)) h) (Nat.mod (Nat.div c (Nat.pow 256 p)) (Nat.pow 256 (Nat.succ j)))) (Nat.sub q p)) (Nat.ble p q)) (Nat.ble q len)) (optF 0 lo a)) (optF len hi a) = _
      have key : ∀ p q : Nat, Bool.rec (motive := fun _ => OR) (.fail) (Bool.rec (motive := fun _ => OR) (.fail) (Nat.rec (motive := fun _ => OR) (Nat.rec (motive := fun _ => OR) (.val (.str 0 0) h) (fun i _ => .val (.str 0 (Nat.succ i)) h) (Nat.mod (Nat.div c (Nat.pow 256 p)) (Nat.pow 256 0))) (fun j _ => Nat.rec (motive := fun _ => OR) (.val (.str (Nat.succ j) 0) h) (fun i _ => .val (.str (Nat.succ j) (Nat.succ i)) h) (Nat.mod (Nat.div c (Nat.pow 256 p)) (Nat.pow 256 (Nat.succ j)))) (Nat.sub q p)) (Nat.ble p q)) (Nat.ble q len) = (match (match Nat.ble q len && Nat.ble p q with | true => some (p, q) | false => none) with | some (p, q) => frc (Nat.sub q p) fun n => frc (Nat.mod (Nat.div c (Nat.pow 256 p)) (Nat.pow 256 n)) fun c => .val (.str n c) h | none => .fail) := by
        intro p q
        cases Nat.ble q len with
        | false => rfl
        | true => cases Nat.ble p q with
          | false => rfl
          | true =>
            simp only [Bool.and_self, frc]
            cases Nat.sub q p with
            | zero => simp only []; cases Nat.mod (Nat.div c (Nat.pow 256 p)) (Nat.pow 256 0) <;> rfl
            | succ j => simp only []; cases Nat.mod (Nat.div c (Nat.pow 256 p)) (Nat.pow 256 (Nat.succ j)) <;> rfl
      cases lo with
      | none => cases hi with
        | none => exact key 0 len
        | some y =>
          rw [optF_some]
          simp only [getOpt, bounds]
          cases getX y a with
          | none => rfl
          | some v => cases hn : natOf v with
            | none => simp only [hn]
            | some q => simp only [hn]; exact key 0 q
      | some z => cases hi with
        | none =>
          rw [optF_some]
          simp only [getOpt, bounds]
          cases getX z a with
          | none => rfl
          | some v => cases hn : natOf v with
            | none => simp only [hn]; rfl
            | some p => simp only [hn]; exact key p len
        | some y =>
          rw [optF_some, optF_some]
          simp only [getOpt, bounds]
          cases getX y a with
          | none => cases getX z a <;> rfl
          | some v => cases getX z a with
            | none => cases hn : natOf v <;> simp only [hn]
            | some u => cases hn : natOf v with
              | none => simp only [hn]
              | some q => cases hm : natOf u with
                | none => simp only [hn, hm]
                | some p => simp only [hn, hm]; exact key p q
    | _ => rfl
def rFldF (g : Bool) (o n : Nat) (x : XO) (a : A) (h : H) : OR := Option.rec (motive := fun _ => OR) (.fail) (fun v => AV.rec (motive_1 := fun _ => OR) (motive_2 := fun _ => OR) (fun _ => .fail) (fun _ _ => .fail) (fun _ _ => .fail) (fun _ _ => .fail) (.fail) (fun _ _ _ _ _ => .fail) (.fail) (fun _ => .fail) (.fail) (fun _ _ _ _ _ => .fail) (fun _ => .fail) (.fail) (fun _ _ _ => .fail) (.fail) (fun cs _ => Bool.rec (motive := fun _ => OR) (Option.rec (motive := fun _ => OR) (.fail) (fun z => .val z h) (nthV cs o)) (Option.rec (motive := fun _ => OR) (.fail) (fun l => Option.rec (motive := fun _ => OR) (.fail) (fun r => .val (.agg r) h) (takeF n l)) (dropF o cs)) (g)) (fun _ _ => .fail) (.fail) (fun _ _ _ _ => .fail) v) (getX x a)
theorem rFldF_eq (g : Bool) (o n : Nat) (x : XO) (a : A) (h : H) : rFldF g o n x a h = rFld g o n x a h := by
  unfold rFldF rFld ofO
  cases getX x a with
  | none => rfl
  | some v => cases v with
    | agg cs => cases g with
      | false => simp only []; cases nthV cs o <;> rfl
      | true =>
        simp only [dropF_eq]
        cases dropL o cs with
        | none => rfl
        | some l =>
          simp only [takeF_eq]
          cases takeL n l <;> rfl
    | _ => rfl
def rBuildF (z : List AV) (ps : List (Nat × Nat × XO)) (a : A) (h : H) : OR := Option.rec (motive := fun _ => OR) (.fail) (fun l => Option.rec (motive := fun _ => OR) (.fail) (fun cs => .val (.agg cs) h) (fillF l z)) (getPartsF ps a)
theorem rBuildF_eq (z : List AV) (ps : List (Nat × Nat × XO)) (a : A) (h : H) : rBuildF z ps a h = rBuild z ps a h := by
  unfold rBuildF rBuild
  rw [getPartsF_eq]
  cases getParts a ps with
  | none => rfl
  | some l =>
    simp only [fillF_eq]
    cases fillL l z <;> rfl
def rBuildSF (e len : Nat) (z : List AV) (ps : List (Nat × Nat × XO)) (a : A) (h : H) : OR := Option.rec (motive := fun _ => OR) (.fail) (fun l => Option.rec (motive := fun _ => OR) (.fail) (fun cs => .val (.slice h.next 0 len len true) (h.new (.cells cs e false false))) (fillF l z)) (getPartsF ps a)
theorem rBuildSF_eq (e len : Nat) (z : List AV) (ps : List (Nat × Nat × XO)) (a : A) (h : H) : rBuildSF e len z ps a h = rBuildS e len z ps a h := by
  unfold rBuildSF rBuildS
  rw [getPartsF_eq]
  cases getParts a ps with
  | none => rfl
  | some l =>
    simp only [fillF_eq]
    cases fillL l z <;> rfl
def rConvF (k : IntKind) (x : XO) (a : A) (h : H) : OR := Option.rec (motive := fun _ => OR) (.fail) (fun v => AV.rec (motive_1 := fun _ => OR) (motive_2 := fun _ => OR) (fun _ => .fail) (fun _i n => Bool.rec (motive := fun _ => OR) (Option.rec (motive := fun _ => OR) (.fail) (fun z => .val z h) (mkIntF k n)) (rConv k x a h) (symBF n)) (fun _ _ => .fail) (fun _ _ => .fail) (.fail) (fun _ _ _ _ _ => .fail) (.fail) (fun _ => .fail) (.fail) (fun _ _ _ _ _ => .fail) (fun _ => .fail) (.fail) (fun _ _ _ => .fail) (.fail) (fun _ _ => .fail) (fun _ _ => .fail) (.fail) (fun _ _ _ _ => .fail) v) (getX x a)
theorem rConvF_eq (k : IntKind) (x : XO) (a : A) (h : H) : rConvF k x a h = rConv k x a h := by
  cases hx : getX x a with
  | none => unfold rConvF rConv; rw [hx]
  | some v => cases v with
    | int i n =>
      unfold rConvF
      rw [hx]
      show Bool.rec (motive := fun _ => OR) (Option.rec (motive := fun _ => OR) (.fail) (fun z => .val z h) (mkIntF k n)) (rConv k x a h) (symBF n) = _
      rw [symBF_eq, mkIntF_eq]
      cases hs : symB n with
      | true => rfl
      | false =>
        unfold rConv ofO
        rw [hx]
        simp only [hs]
        cases mkInt k n <;> rfl
    | _ => unfold rConvF rConv; rw [hx]
def rMkIF (t : TypeId) (x : XO) (a : A) (h : H) : OR := Option.rec (motive := fun _ => OR) (.fail) (fun v => .val (.iface t v) h) (getX x a)
theorem rMkIF_eq (t : TypeId) (x : XO) (a : A) (h : H) : rMkIF t x a h = rMkI t x a h := by
  unfold rMkIF rMkI
  cases getX x a <;> rfl
def rMkFF (f : FuncId) (fs cs : List XO) (a : A) (h : H) : OR := Option.rec (motive := fun _ => OR) (.fail) (fun l => Option.rec (motive := fun _ => OR) (.fail) (fun m => .val (.func (.func f) l m) h) (getXsF cs a)) (getXsF fs a)
theorem rMkFF_eq (f : FuncId) (fs cs : List XO) (a : A) (h : H) : rMkFF f fs cs a h = rMkF f fs cs a h := by
  unfold rMkFF rMkF
  rw [getXsF_eq, getXsF_eq]
  cases getXs a fs with
  | none => rfl
  | some l => cases getXs a cs <;> rfl
def rExtF (x : XO) (i : Nat) (a : A) (h : H) : OR := Option.rec (motive := fun _ => OR) (.fail) (fun v => AV.rec (motive_1 := fun _ => OR) (motive_2 := fun _ => OR) (fun _ => .fail) (fun _ _ => .fail) (fun _ _ => .fail) (fun _ _ => .fail) (.fail) (fun _ _ _ _ _ => .fail) (.fail) (fun _ => .fail) (.fail) (fun _ _ _ _ _ => .fail) (fun _ => .fail) (.fail) (fun _ _ _ => .fail) (.fail) (fun _ _ => .fail) (fun vs _ => Option.rec (motive := fun _ => OR) (.fail) (fun z => .val z h) (nthV vs i)) (.fail) (fun _ _ _ _ => .fail) v) (getX x a)
theorem rExtF_eq (x : XO) (i : Nat) (a : A) (h : H) : rExtF x i a h = rExt x i a h := by
  unfold rExtF rExt ofO
  cases getX x a with
  | none => rfl
  | some v => cases v with
    | tuple vs => simp only []; cases nthV vs i <;> rfl
    | _ => rfl
def rLenF (k : LK) (x : XO) (a : A) (h : H) : OR := Option.rec (motive := fun _ => OR) (.fail) (fun v => AV.rec (motive_1 := fun _ => OR) (motive_2 := fun _ => OR) (fun _ => ofO (evLen k v h) h) (fun _ _ => ofO (evLen k v h) h) (fun n _c => LK.rec (motive := fun _ => OR) (Option.rec (motive := fun _ => OR) (.fail) (fun z => .val z h) (mkNatF .i64 n)) .fail .fail k) (fun _ _ => ofO (evLen k v h) h) (ofO (evLen k v h) h) (fun _b _off n _cap _ex => LK.rec (motive := fun _ => OR) .fail (Option.rec (motive := fun _ => OR) (.fail) (fun z => .val z h) (mkNatF .i64 n)) .fail k) (ofO (evLen k v h) h) (fun _ => ofO (evLen k v h) h) (ofO (evLen k v h) h) (fun _ _ _ _ _ => ofO (evLen k v h) h) (fun _ => ofO (evLen k v h) h) (ofO (evLen k v h) h) (fun _ _ _ => ofO (evLen k v h) h) (ofO (evLen k v h) h) (fun _ _ => ofO (evLen k v h) h) (fun _ _ => ofO (evLen k v h) h) (ofO (evLen k v h) h) (fun _ _ _ _ => ofO (evLen k v h) h) v) (getX x a)
theorem rLenF_eq (k : LK) (x : XO) (a : A) (h : H) : rLenF k x a h = rLen k x a h := by
  unfold rLenF rLen
  cases getX x a with
  | none => rfl
  | some v => cases v with
    | str n c => cases k with
      | str => simp only [mkNatF_eq, evLen, ofO]; cases mkNat .i64 n <;> rfl
      | _ => rfl
    | slice b off n cap ex => cases k with
      | slice => simp only [mkNatF_eq, evLen, ofO]; cases mkNat .i64 n <;> rfl
      | _ => rfl
    | _ => rfl
def rCallF' (f : XO) (args : List XO) (r : Rec) (a : A) (h : H) : OR := Option.rec (motive := fun _ => OR) (.fail) (fun u => AV.rec (motive_1 := fun _ => OR) (motive_2 := fun _ => OR) (fun _ => .fail) (fun _ _ => .fail) (fun _ _ => .fail) (fun _ _ => .fail) (.fail) (fun _ _ _ _ _ => .fail) (.fail) (fun _ => .fail) (.fail) (fun fn fs cs _ _ => (match fn with | .func g => Option.rec (motive := fun _ => OR) (.fail) (fun l => r.call g (appF fs (appF l cs)) h) (getXsF args a) | _ => .fail)) (fun y => Option.rec (motive := fun _ => OR) (.fail) (fun l => r.yield y l h) (getXsF args a)) (.fail) (fun _ _ _ => .fail) (.fail) (fun _ _ => .fail) (fun _ _ => .fail) (.fail) (fun _ _ _ _ => .fail) u) (getX f a)
theorem rCallF'_eq (f : XO) (args : List XO) (r : Rec) (a : A) (h : H) : rCallF' f args r a h = rCall f args r a h := by
  unfold rCallF' rCall
  cases getX f a with
  | none => rfl
  | some u => cases u with
    | func fn fs cs => cases fn with
      | func g =>
        simp only [getXsF_eq]
        cases getXs a args with
        | none => rfl
        | some l => simp only [appF_eq]
      | _ => rfl
    | yield y =>
      simp only [getXsF_eq]
      cases getXs a args <;> rfl
    | _ => rfl
def rCallFF (f : FuncId) (args : List XO) (r : Rec) (a : A) (h : H) : OR := Option.rec (motive := fun _ => OR) (.fail) (fun l => r.call f l h) (getXsF args a)
theorem rCallFF_eq (f : FuncId) (args : List XO) (r : Rec) (a : A) (h : H) : rCallFF f args r a h = rCallF f args r a h := by
  unfold rCallFF rCallF
  rw [getXsF_eq]
  cases getXs a args <;> rfl

/-- one operation -/
def runOpF (x : XOp) : Rec → A → H → OR :=
  XOp.rec (motive := fun _ => Rec → A → H → OR)
    (fun x _ => rMvF x) (fun c x y _ => rPick c x y) (fun cs e _ => rNew cs e) (fun e x _ => rBox e x) (fun z ps _ => rBuildF z ps) (fun e l z ps _ => rBuildSF e l z ps)
    (fun g n x _ => rLdF g n x) (fun n x y _ => rStF n x y) (fun x _ => rNilc x) (fun op k l x y _ => rBinF op k l x y) (fun op x _ => rUn op x) (fun k x _ => rConvF k x) (fun x _ => rConvS x) (fun x _ => rConvB x)
    (fun t x _ => rMkIF t x) (fun f fs cs _ => rMkFF f fs cs) (fun _ => rMkM) (fun e sz by_ z l c _ => rMkS e sz by_ z l c)
    (fun x lo hi _ => rSlStrF x lo hi) (fun sz x lo hi _ => rSlSl sz x lo hi) (fun n sz x lo hi _ => rSlArr n sz x lo hi)
    (fun o x _ => rFaF o x) (fun g o n x _ => rFldF g o n x) (fun sz x i _ => rIaF sz x i) (fun len sz x i _ => rIaArr len sz x i) (fun x i _ => rIxSF x i) (fun len x i _ => rIxA len x i)
    (fun k z ok x i _ => rLook k z ok x i) (fun i m k v _ => rUpd i m k v) (fun i m k v _ => rUpd i m k v) (fun x i _ => rExtF x i) (fun t z ok x _ => rTa t z ok x) (fun x _ => rPan x)
    (fun k x _ => rLenF k x) (fun n _ => rLenN n) (fun x _ => rCapS x) (fun e sz by_ x y _ => rApp e sz by_ x y) (fun e sz by_ z x y _ => rAppZ e sz by_ z x y) (fun x y _ => rMax x y) (fun x y _ => rMin x y) (fun x _ => rRngS x) (fun x _ => rNextS x)
    (fun f args => rCallF' f args) (fun f args => rCallFF f args) (fun f args _ => rDfr f args) (fun _ _ _ => .fail) x
theorem runOpF_eq (x : XOp) : runOpF x = runOp x := by
  funext r a h
  cases x <;> simp only [runOpF, runOp, rMvF_eq, rBuildF_eq, rBuildSF_eq, rLdF_eq, rStF_eq, rBinF_eq, rConvF_eq, rMkIF_eq, rMkFF_eq, rSlStrF_eq, rFaF_eq, rFldF_eq, rIaF_eq, rIxSF_eq, rExtF_eq, rLenF_eq, rCallF'_eq, rCallFF_eq]


/-! control -/
def goXF (r : Rec) (rd : Option Nat) (op : XOp) (d : XD) (k : A → H → CR) (a : A) (h : H) : CR := orK rd d a k (runOpF op r a h)
theorem goXF_eq (r : Rec) (rd : Option Nat) (op : XOp) (d : XD) (k : A → H → CR) (a : A) (h : H) : goXF r rd op d k a h = goX r rd op d k a h := by
  unfold goXF goX
  rw [runOpF_eq]
def guardXF (r : Rec) (rd : Option Nat) (op : XOp) (d : XD) (k : A → H → CR) (g : XO × Bool) (a : A) (h : H) : CR := Prod.rec (motive := fun _ => CR) (fun x b => Option.rec (motive := fun _ => CR) (.fail) (fun u => AV.rec (motive_1 := fun _ => CR) (motive_2 := fun _ => CR) (fun c => Bool.rec (motive := fun _ => CR) (Bool.rec (motive := fun _ => CR) (goXF r rd op d k a h) (k (putX d .undef a) h) (c)) (Bool.rec (motive := fun _ => CR) (k (putX d .undef a) h) (goXF r rd op d k a h) (c)) (b)) (fun _ _ => .fail) (fun _ _ => .fail) (fun _ _ => .fail) (.fail) (fun _ _ _ _ _ => .fail) (.fail) (fun _ => .fail) (.fail) (fun _ _ _ _ _ => .fail) (fun _ => .fail) (.fail) (fun _ _ _ => .fail) (.fail) (fun _ _ => .fail) (fun l _ => List.rec (motive := fun _ => CR) (k (putX d .undef a) h) (fun _x _t _ => .fail) (l)) (.fail) (fun _ _ _ _ => .fail) u) (getX x a)) g
theorem guardXF_eq (r : Rec) (rd : Option Nat) (op : XOp) (d : XD) (k : A → H → CR) (g : XO × Bool) (a : A) (h : H) : guardXF r rd op d k g a h = guardX r rd op d k g a h := by
  obtain ⟨x, b⟩ := g
  unfold guardXF guardX wantedX
  simp only []
  cases getX x a with
  | none => rfl
  | some u => cases u with
    | bool c => cases b <;> cases c <;> simp only [goXF_eq, Bool.not_true, Bool.not_false]
    | tuple l => cases l <;> rfl
    | _ => rfl
def runOpsF (r : Rec) (rd : Option Nat) (l : List XOper) : A → H → CR :=
  List.rec (motive := fun _ => A → H → CR) (fun a h => .normal a h)
    (fun o _ k => XOper.rec (motive := fun _ => A → H → CR) (fun g op d => Option.rec (motive := fun _ => A → H → CR) (goXF r rd op d k) (guardXF r rd op d k) g) o) l
theorem runOpsF_eq (r : Rec) (rd : Option Nat) (l : List XOper) : runOpsF r rd l = runOps r rd l := by
  induction l with
  | nil => rfl
  | cons o l ih =>
    obtain ⟨g, op, d⟩ := o
    funext a h
    cases g with
    | none =>
      show goXF r rd op d (runOpsF r rd l) a h = goX r rd op d (runOps r rd l) a h
      rw [goXF_eq, ih]
    | some g =>
      show guardXF r rd op d (runOpsF r rd l) g a h = guardX r rd op d (runOps r rd l) g a h
      rw [guardXF_eq, ih]

def rSeqF (f g : A → H → CR) (a : A) (h : H) : CR := CR.rec (motive := fun _ => CR) (.fail) (fun a' h' => g a' h') (fun id a' h' => .exit id a' h') (fun l a' h' => .goto l a' h') (fun a' h' => .ret a' h') (fun c a' h' => .pan c a' h') (f a h)
theorem rSeqF_eq (f g : A → H → CR) : rSeqF f g = rSeq f g := by
  funext a h
  unfold rSeqF rSeq
  cases f a h <;> rfl
def rCondF (c : XO) (f g : A → H → CR) (a : A) (h : H) : CR := Option.rec (motive := fun _ => CR) (.fail) (fun u => AV.rec (motive_1 := fun _ => CR) (motive_2 := fun _ => CR) (fun b => Bool.rec (motive := fun _ => CR) (g a h) (f a h) (b)) (fun _ _ => .fail) (fun _ _ => .fail) (fun _ _ => .fail) (.fail) (fun _ _ _ _ _ => .fail) (.fail) (fun _ => .fail) (.fail) (fun _ _ _ _ _ => .fail) (fun _ => .fail) (.fail) (fun _ _ _ => .fail) (.fail) (fun _ _ => .fail) (fun _ _ => .fail) (.fail) (fun _ _ _ _ => .fail) u) (getX c a)
theorem rCondF_eq (c : XO) (f g : A → H → CR) : rCondF c f g = rCond c f g := by
  funext a h
  unfold rCondF rCond
  cases getX c a with
  | none => rfl
  | some u => cases u with
    | bool b => cases b <;> rfl
    | _ => rfl
def rBlockF (id : Nat) (f : A → H → CR) (a : A) (h : H) : CR := CR.rec (motive := fun _ => CR) (.fail) (fun a' h' => .normal a' h') (fun id' a' h' => Bool.rec (motive := fun _ => CR) (.exit id' a' h') (.normal a' h') (Nat.beq id' id)) (fun l a' h' => .goto l a' h') (fun a' h' => .ret a' h') (fun c a' h' => .pan c a' h') (f a h)
theorem rBlockF_eq (id : Nat) (f : A → H → CR) : rBlockF id f = rBlock id f := by
  funext a h
  unfold rBlockF rBlock
  cases f a h with
  | exit j a' h' => simp only []; cases Nat.beq j id <;> rfl
  | _ => rfl
def rScopeF (f : A → H → CR) (a : A) (h : H) : CR := CR.rec (motive := fun _ => CR) (.fail) (fun a' h' => .normal a' h') (fun id a' h' => .exit id a' h') (fun l a' h' => .fail) (fun a' h' => .ret a' h') (fun c a' h' => .pan c a' h') (f a h)
theorem rScopeF_eq (f : A → H → CR) : rScopeF f = rScope f := by
  funext a h
  unfold rScopeF rScope
  cases f a h <;> rfl
def runOpUF (u : Bool) (o : XOp) (r : Rec) (a : A) (h : H) : OR := match u with
  | false => runOpF o r a h
  | true => (match o with
    | .mkM => .val (.map h.next) (h.new (.mapU [] false))
    | .ins kt m k v => (match getX m a, getX k a, getX v a with
      | some (.map _), some key, some _ => (match plainKey kt key, kt with | true, .int => .val .undef h | true, .str => .val .undef h | _, _ => .fail)
      | _, _, _ => .fail)
    | _ => runOpF o r a h)
theorem runOpUF_eq (u : Bool) (o : XOp) (r : Rec) (a : A) (h : H) : runOpUF u o r a h = runOpU u o r a h := by
  cases u with
  | false => exact congrFun (congrFun (congrFun (runOpF_eq o) r) a) h
  | true => cases o <;> first | rfl | (simp only [runOpUF, runOpU, runOpF_eq]; done)
def runDrawF (r : Rec) (qs : List Nat) (u : Bool) (l : List XDr) : UA → A → H → CR := List.rec (motive := fun _ => UA → A → H → CR) (fun acc a h => finU u acc a h) (fun d _ k acc a h => match wantedX d.o.guard a with
    | some false => k acc (putX d.o.dst .undef a) h
    | some true => (match twoOk d.two a with
      | true => (match runOpUF u d.o.op r a h with
      | .val v h' => (match accU u d.o.op a h acc with
        | some acc' => (match chkU acc' h' with
          | true => (match d.again with
            | [] => k acc' (putX d.o.dst v a) h'
            | again => (match recheck r (putX d.o.dst v a) h' again with
              | true => k acc' (putX d.o.dst v a) h'
              | false => .fail))
          | false => .fail)
        | none => .fail)
      | .pan c h' => (match d.quiet with | true => .fail | false => .pan c ⟨delAll qs a.vars, [], a.defers⟩ h')
      | _ => .fail)
      | false => .fail)
    | none => .fail) l
theorem runDrawF_eq (r : Rec) (qs : List Nat) (u : Bool) (l : List XDr) : runDrawF r qs u l = runDraw r qs u l := by
  induction l with
  | nil => rfl
  | cons d l ih =>
    funext acc a h
    rw [runDraw, ← ih, ← runOpUF_eq]
    rfl
def runCodeF (r : Rec) (rd : Option Nat) (c : XCode) : A → H → CR :=
  XCode.rec (motive := fun _ => A → H → CR)
    (fun a h => .normal a h) (fun l a h => runOpsF r rd l ⟨a.vars, [], a.defers⟩ h) (fun u l qs a h => runDrawF r qs u l none ⟨a.vars, [], a.defers⟩ h)
    (fun _ _ f g => rSeqF f g) (fun c _ _ f g => rCondF c f g) (fun id _ f => rBlockF id f) (fun c _ => r.loop rd c) (fun _ f => rScopeF f)
    (fun f n vm ps asg body => rRange f n vm ps asg body r rd) (fun id a h => .exit id a h) (fun l a h => .goto l a h) (fun a h => .ret a h) (fun _ _ => .fail) c
theorem runCodeF_eq (r : Rec) (rd : Option Nat) (c : XCode) : runCodeF r rd c = runCode r rd c := by
  induction c with
  | ops l => funext a h; exact congrFun (congrFun (runOpsF_eq r rd l) _) _
  | draw u l qs => funext a h; exact congrFun (congrFun (congrFun (runDrawF_eq r qs u l) _) _) _
  | seq x y hx hy => show rSeqF (runCodeF r rd x) (runCodeF r rd y) = rSeq (runCode r rd x) (runCode r rd y); rw [hx, hy, rSeqF_eq]
  | cond c x y hx hy => show rCondF c (runCodeF r rd x) (runCodeF r rd y) = rCond c (runCode r rd x) (runCode r rd y); rw [hx, hy, rCondF_eq]
  | block id x hx => show rBlockF id (runCodeF r rd x) = rBlock id (runCode r rd x); rw [hx, rBlockF_eq]
  | scope x hx => show rScopeF (runCodeF r rd x) = rScope (runCode r rd x); rw [hx, rScopeF_eq]
  | _ => rfl

def evResultsF (P : Program) (vm : Nat) (a : A) (h : H) (rs : List ResultVar) : Option (List AV) := List.rec (motive := fun _ => Option (List AV)) (some []) (fun x _ ih => ResultVar.rec (motive := fun _ => Option (List AV))
    (fun t => Bool.rec (motive := fun _ => Option (List AV)) (none) (Option.rec (motive := fun _ => Option (List AV)) (none) (fun v => Option.rec (motive := fun _ => Option (List AV)) (none) (fun l => some (v :: l)) (ih)) (Tr.get a.vars t)) (bit vm t))
    (fun y t => Bool.rec (motive := fun _ => Option (List AV)) (none) (Option.rec (motive := fun _ => Option (List AV)) (none) (fun u => AV.rec (motive_1 := fun _ => Option (List AV)) (motive_2 := fun _ => Option (List AV)) (fun _ => none) (fun _ _ => none) (fun _ _ => none) (fun b off => Option.rec (motive := fun _ => Option (List AV)) (none) (fun g => Option.rec (motive := fun _ => Option (List AV)) (none) (fun n => Option.rec (motive := fun _ => Option (List AV)) (none) (fun v => Option.rec (motive := fun _ => Option (List AV)) (none) (fun l => some (v :: l)) (ih)) (loadF h g n b off)) (szT P t)) (aggT P t)) (none) (fun _ _ _ _ _ => none) (none) (fun _ => none) (none) (fun _ _ _ _ _ => none) (fun _ => none) (none) (fun _ _ _ => none) (none) (fun _ _ => none) (fun _ _ => none) (none) (fun _ _ _ _ => none) u) (Tr.get a.vars y)) (bit vm y)) x) rs
theorem evResultsF_eq (P : Program) (vm : Nat) (a : A) (h : H) (rs : List ResultVar) : evResultsF P vm a h rs = evResults P vm a h rs := by
  induction rs with
  | nil => rfl
  | cons x rs ih => cases x with
    | tmp t =>
      show Bool.rec (motive := fun _ => Option (List AV)) (none) (Option.rec (motive := fun _ => Option (List AV)) (none) (fun v => Option.rec (motive := fun _ => Option (List AV)) (none) (fun l => some (v :: l)) (evResultsF P vm a h rs)) (Tr.get a.vars t)) (bit vm t) = _
      rw [ih, evResults]
      cases bit vm t with
      | false => rfl
      | true => cases Tr.get a.vars t with
        | none => rfl
        | some v => cases evResults P vm a h rs <;> rfl
    | cell y t =>
      show Bool.rec (motive := fun _ => Option (List AV)) (none) (Option.rec (motive := fun _ => Option (List AV)) (none) (fun u => AV.rec (motive_1 := fun _ => Option (List AV)) (motive_2 := fun _ => Option (List AV)) (fun _ => none) (fun _ _ => none) (fun _ _ => none) (fun b off => Option.rec (motive := fun _ => Option (List AV)) (none) (fun g => Option.rec (motive := fun _ => Option (List AV)) (none) (fun n => Option.rec (motive := fun _ => Option (List AV)) (none) (fun v => Option.rec (motive := fun _ => Option (List AV)) (none) (fun l => some (v :: l)) (evResultsF P vm a h rs)) (loadF h g n b off)) (szT P t)) (aggT P t)) (none) (fun _ _ _ _ _ => none) (none) (fun _ => none) (none) (fun _ _ _ _ _ => none) (fun _ => none) (none) (fun _ _ _ => none) (none) (fun _ _ => none) (fun _ _ => none) (none) (fun _ _ _ _ => none) u) (Tr.get a.vars y)) (bit vm y) = _
      rw [ih, evResults]
      cases bit vm y with
      | false => rfl
      | true => cases Tr.get a.vars y with
        | none => rfl
        | some u => cases u with
          | ptr b off => cases aggT P t with
            | none => rfl
            | some g => cases szT P t with
              | none => rfl
              | some n =>
                simp only [loadF_eq]
                cases loadAt h g n b off with
                | none => rfl
                | some v => cases evResults P vm a h rs <;> rfl
          | _ => rfl
def evReturnF (P : Program) (vm : Nat) (rs : List ResultVar) (a : A) (h : H) : OR := Option.rec (motive := fun _ => OR) (.fail) (fun l => List.rec (motive := fun _ => OR) (.val (.tuple l) h) (fun v t _ => List.rec (motive := fun _ => OR) (.val v h) (fun _x _y _ => .val (.tuple l) h) (t)) (l)) (evResultsF P vm a h rs)
theorem evReturnF_eq (P : Program) (vm : Nat) (rs : List ResultVar) (a : A) (h : H) : evReturnF P vm rs a h = evReturn P vm rs a h := by
  unfold evReturnF evReturn
  rw [evResultsF_eq]
  cases evResults P vm a h rs with
  | none => rfl
  | some l => cases l with
    | nil => rfl
    | cons v t => cases t <;> rfl
def evLeaveF (P : Program) (r : Rec) (vm : Nat) (rs : List ResultVar) (a : A) (ds : List ADef) (m : Option (List PE)) (h : H) : OR := List.rec (motive := fun _ => OR) (Option.rec (motive := fun _ => OR) (evReturnF P vm rs a h) (fun c => .pan c h) (m)) (fun _ _ _ => evLeave P r vm rs a ds m h) ds
theorem evLeaveF_eq (P : Program) (r : Rec) (vm : Nat) (rs : List ResultVar) (a : A) (ds : List ADef) (m : Option (List PE)) (h : H) : evLeaveF P r vm rs a ds m h = evLeave P r vm rs a ds m h := by
  cases ds with
  | nil => cases m with
    | none => rw [evLeave]; exact evReturnF_eq P vm rs a h
    | some c => rw [evLeave]; rfl
  | cons d ds => rfl
def evCallF (P : Program) (r : Rec) (f : FuncId) (args : List AV) (h : H) : OR := Option.rec (motive := fun _ => OR) (.fail) (fun xf => XFn.rec (motive := fun _ => OR) (fun n vm rs code => Bool.rec (motive := fun _ => OR) (.fail) (CR.rec (motive := fun _ => OR) (.fail) (fun a' h' => evLeaveF P r vm rs a' a'.defers none h') (fun id a' h' => .fail) (fun l a' h' => .fail) (fun a' h' => evLeaveF P r vm rs a' a'.defers none h') (fun c a' h' => evLeaveF P r vm rs a' a'.defers (some c) h') (runCodeF r none (cCode P n vm code) ⟨mkVarsF args 0 .nil, [], []⟩ h)) (Nat.ble (lenF args) n)) xf) (fnOf P f)
theorem evCallF_eq (P : Program) (r : Rec) (f : FuncId) (args : List AV) (h : H) : evCallF P r f args h = evCall P r f args h := by
  unfold evCallF evCall
  cases fnOf P f with
  | none => rfl
  | some xf =>
    obtain ⟨n, vm, rs, code⟩ := xf
    simp only [lenF_length, mkVarsF_eq, runCodeF_eq]
    cases Nat.ble args.length n with
    | false => rfl
    | true =>
      simp only []
      cases runCode r none (cCode P n vm code) ⟨mkVars args 0 .nil, [], []⟩ h with
      | normal a' h' => exact evLeaveF_eq P r vm rs a' a'.defers none h'
      | ret a' h' => exact evLeaveF_eq P r vm rs a' a'.defers none h'
      | pan c a' h' => exact evLeaveF_eq P r vm rs a' a'.defers (some c) h'
      | _ => rfl
def evLoopF (r : Rec) (rd : Option Nat) (c : XCode) (a : A) (h : H) : CR := CR.rec (motive := fun _ => CR) (.fail) (fun a' h' => r.loop rd c a' h') (fun id a' h' => .exit id a' h') (fun l a' h' => .goto l a' h') (fun a' h' => .ret a' h') (fun e a' h' => .pan e a' h') (runCodeF r rd c a h)
theorem evLoopF_eq (r : Rec) (rd : Option Nat) (c : XCode) (a : A) (h : H) : evLoopF r rd c a h = evLoop r rd c a h := by
  unfold evLoopF evLoop
  rw [runCodeF_eq]
  cases runCode r rd c a h <;> rfl
def callOF (P : Program) (O : Orc) (r : Rec) (f : FuncId) (args : List AV) (h : H) : OR := Option.rec (motive := fun _ => OR) (evCallF P r f args h) (fun x => ansRun x h) (O f args)
theorem callOF_eq (P : Program) (O : Orc) (r : Rec) (f : FuncId) (args : List AV) (h : H) : callOF P O r f args h = callO P O r f args h := by
  unfold callOF callO
  rw [evCallF_eq]
  cases O f args <;> rfl
def fnsF (P : Program) (O : Orc) (n : Nat) : Rec :=
  Nat.rec (motive := fun _ => Rec) ⟨fun _ _ _ => .fail, fun _ _ _ _ => .fail, fun _ _ _ => .fail⟩ (fun _ r => ⟨callOF P O r, evLoopF r, evYield P r⟩) n
theorem fnsF_eq (P : Program) (O : Orc) (n : Nat) : fnsF P O n = fns P O n := by
  induction n with
  | zero => rfl
  | succ n ih =>
    show (⟨callOF P O (fnsF P O n), evLoopF (fnsF P O n), evYield P (fnsF P O n)⟩ : Rec) = ⟨callO P O (fns P O n), evLoop (fns P O n), evYield P (fns P O n)⟩
    rw [ih]
    have e1 : callOF P O (fns P O n) = callO P O (fns P O n) := by funext f args h; exact callOF_eq _ _ _ _ _ _
    have e2 : evLoopF (fns P O n) = evLoop (fns P O n) := by funext rd c a h; exact evLoopF_eq _ _ _ _ _
    rw [e1, e2]

/-! answers: what they ask of the arguments -/
/-- bit n -/
def bitN (mask n : Nat) : Bool := Nat.beq (Nat.mod (Nat.div mask (Nat.pow 2 n)) 2) 1
/-- does a text begin with another? -/
def preB (l c m d : Nat) : Bool := Bool.rec (motive := fun _ => Bool) false (Nat.beq (Nat.mod c (Nat.pow 256 m)) (Nat.mod d (Nat.pow 256 m))) (Nat.ble m l)
def bitR (mask : Nat) (args : List AV) : Option Ans := List.rec (motive := fun _ => Option Ans) (none) (fun x t _ => AV.rec (motive_1 := fun _ => Option Ans) (motive_2 := fun _ => Option Ans) (fun _ => none) (fun k z => List.rec (motive := fun _ => Option Ans) (Bool.rec (motive := fun _ => Option Ans) (none) (Int.rec (motive := fun _ => Option Ans) (fun n => Bool.rec (motive := fun _ => Option Ans) (none) (some (.val (.bool (bitN mask n)))) (Nat.ble (Nat.succ n) 128)) (fun _ => none) (z)) (Nat.beq (kcode k) 3)) (fun _x _y _ => none) (t)) (fun _ _ => none) (fun _ _ => none) (none) (fun _ _ _ _ _ => none) (none) (fun _ => none) (none) (fun _ _ _ _ _ => none) (fun _ => none) (none) (fun _ _ _ => none) (none) (fun _ _ => none) (fun _ _ => none) (none) (fun _ _ _ _ => none) x) (args)
theorem bitR_form {mask : Nat} {args : List AV} {ans : Ans} (h : bitR mask args = some ans) : ∃ n, n < 128 ∧ args = [.int .i64 (.ofNat n)] ∧ ans = .val (.bool (bitN mask n)) := by
  cases args with
  | nil => cases h
  | cons x t => cases x with
    | int k z => cases t with
      | cons y t => cases h
      | nil => cases k with
        | i64 => cases z with
          | negSucc n => cases h
          | ofNat n =>
            have h' : Bool.rec (motive := fun _ => Option Ans) (none) (some (.val (.bool (bitN mask n)))) (Nat.ble (Nat.succ n) 128) = some ans := h
            cases hb : Nat.ble (Nat.succ n) 128 with
            | false => rw [hb] at h'; cases h'
            | true => rw [hb] at h'; cases h'; exact ⟨n, Nat.le_of_ble_eq_true hb, rfl, rfl⟩
        | _ => cases h
    | _ => cases h
def strR (f : Nat → Nat → Option Ans) (args : List AV) : Option Ans := List.rec (motive := fun _ => Option Ans) (none) (fun x t _ => AV.rec (motive_1 := fun _ => Option Ans) (motive_2 := fun _ => Option Ans) (fun _ => none) (fun _ _ => none) (fun l c => List.rec (motive := fun _ => Option Ans) (f l c) (fun _x _y _ => none) (t)) (fun _ _ => none) (none) (fun _ _ _ _ _ => none) (none) (fun _ => none) (none) (fun _ _ _ _ _ => none) (fun _ => none) (none) (fun _ _ _ => none) (none) (fun _ _ => none) (fun _ _ => none) (none) (fun _ _ _ _ => none) x) (args)
theorem strR_form {f : Nat → Nat → Option Ans} {args : List AV} {ans : Ans} (h : strR f args = some ans) : ∃ l c, args = [.str l c] ∧ f l c = some ans := by
  cases args with
  | nil => cases h
  | cons x t => cases x with
    | str l c => cases t with
      | cons y t => cases h
      | nil => exact ⟨l, c, rfl, h⟩
    | _ => cases h
def preR (args : List AV) : Option Ans := List.rec (motive := fun _ => Option Ans) (none) (fun x t _ => AV.rec (motive_1 := fun _ => Option Ans) (motive_2 := fun _ => Option Ans) (fun _ => none) (fun _ _ => none) (fun l c => List.rec (motive := fun _ => Option Ans) (none) (fun y u _ => AV.rec (motive_1 := fun _ => Option Ans) (motive_2 := fun _ => Option Ans) (fun _ => none) (fun _ _ => none) (fun m d => List.rec (motive := fun _ => Option Ans) (some (.val (.bool (preB l c m d)))) (fun _x _y _ => none) (u)) (fun _ _ => none) (none) (fun _ _ _ _ _ => none) (none) (fun _ => none) (none) (fun _ _ _ _ _ => none) (fun _ => none) (none) (fun _ _ _ => none) (none) (fun _ _ => none) (fun _ _ => none) (none) (fun _ _ _ _ => none) y) (t)) (fun _ _ => none) (none) (fun _ _ _ _ _ => none) (none) (fun _ => none) (none) (fun _ _ _ _ _ => none) (fun _ => none) (none) (fun _ _ _ => none) (none) (fun _ _ => none) (fun _ _ => none) (none) (fun _ _ _ _ => none) x) (args)
theorem preR_form {args : List AV} {ans : Ans} (h : preR args = some ans) : ∃ l c m d, args = [.str l c, .str m d] ∧ ans = .val (.bool (preB l c m d)) := by
  cases args with
  | nil => cases h
  | cons x t => cases x with
    | str l c => cases t with
      | nil => cases h
      | cons y u => cases y with
        | str m d => cases u with
          | cons a b => cases h
          | nil => cases h; exact ⟨l, c, m, d, rfl, rfl⟩
        | _ => cases h
    | _ => cases h
def nilR (x : Ans) (args : List AV) : Option Ans := List.rec (motive := fun _ => Option Ans) (some x) (fun _x _y _ => none) (args)
theorem nilR_form {x : Ans} {args : List AV} {ans : Ans} (h : nilR x args = some ans) : args = [] ∧ ans = x := by
  cases args with
  | nil => cases h; exact ⟨rfl, rfl⟩
  | cons _ _ => cases h
end
end Go.Ev
