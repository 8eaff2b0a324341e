/- An evaluator of the model's code over an abstract memory: definitions. -/
import GoSem.Step
set_option linter.unusedVariables false
set_option linter.unusedSimpArgs false
namespace Go.Ev

noncomputable section

/-! ### values -/
inductive AV : Type where
  | bool (b : Bool)
  | int (k : IntKind) (n : Int)
  | str (len code : Nat)
  | ptr (b off : Nat)
  | nilptr
  | slice (b off len cap : Nat) (ex : Bool)
  | nilslice
  | map (b : Nat)
  | nilmap
  | func (fn : Fn) (first captured : List AV)
  | yield (l : Nat)
  | nilfunc
  | iface (t : Nat) (v : AV)
  | niliface
  | agg (cs : List AV)
  | tuple (vs : List AV)
  deriving Inhabited

def AV.undef : AV := .tuple []

/-- the cells of a value; none: a tuple is no value of a variable -/
def AV.cells? : AV → Option (List AV)
  | .agg cs => some cs
  | .tuple _ => none
  | v => some [v]

/-! ### tries -/
inductive Tr (α : Type) : Type where
  | nil : Tr α
  | node (l : Tr α) (v : Option α) (r : Tr α) : Tr α
  deriving Inhabited

def Tr.get {α : Type} (t : Tr α) : Nat → Option α :=
  Tr.rec (motive := fun _ => Nat → Option α) (fun _ => none)
    (fun _ v _ gl gr n => Nat.rec (motive := fun _ => Option α) v
      (fun m _ => Bool.rec (motive := fun _ => Option α) (gr (Nat.div m (nat_lit 2))) (gl (Nat.div m (nat_lit 2))) (Nat.beq (Nat.mod m (nat_lit 2)) (nat_lit 0))) n) t

/-- a trie with one entry; the first number is fuel -/
def Tr.oneF {α : Type} (x : α) : Nat → Nat → Tr α
  | 0, _ => .nil
  | f + 1, n => match n with
    | 0 => .node .nil (some x) .nil
    | m + 1 => match Nat.beq (Nat.mod m 2) 0 with
      | true => .node (Tr.oneF x f (Nat.div m 2)) none .nil
      | false => .node .nil none (Tr.oneF x f (Nat.div m 2))
def Tr.put {α : Type} (t : Tr α) (n : Nat) (x : α) : Tr α :=
  Tr.rec (motive := fun _ => Nat → Tr α) (fun n => Tr.oneF x (Nat.succ n) n)
    (fun l v r pl pr n => Nat.rec (motive := fun _ => Tr α) (.node l (some x) r)
      (fun m _ => Bool.rec (motive := fun _ => Tr α) (.node l v (pr (Nat.div m (nat_lit 2)))) (.node (pl (Nat.div m (nat_lit 2))) v r) (Nat.beq (Nat.mod m (nat_lit 2)) (nat_lit 0))) n) t n

/-! ### strings as numbers: byte i is code / 256^i % 256 -/
def codeOf : List UInt8 → Nat
  | [] => 0
  | b :: bs => b.toNat + 256 * codeOf bs

def bytesOf : Nat → Nat → List UInt8
  | 0, _ => []
  | n + 1, c => UInt8.ofNat (c % 256) :: bytesOf n (c / 256)

def strOf (bs : List UInt8) : AV := .str bs.length (codeOf bs)

/-! ### symbols: integers of which only a little is known; their codes lie beyond all integers that Go has -/
def symB : Int → Bool
  | .ofNat _ => false
  | .negSucc m => Nat.ble 1180591620717411303424 m
/-- a symbol's code: which kind, which argument, a modulus, a residue -/
def symC (id ix md r : Nat) : Int := .negSucc (Nat.add 1180591620717411303424 (Nat.add (Nat.mul id 281474976710656) (Nat.add (Nat.mul ix 4294967296) (Nat.add (Nat.mul md 65536) r))))
def symId (m : Nat) : Nat := Nat.div (Nat.sub m 1180591620717411303424) 281474976710656
def symMd (m : Nat) : Nat := Nat.mod (Nat.div m 65536) 65536
def symR (m : Nat) : Nat := Nat.mod m 65536
/-- is it a power of two? -/
def pow2B (md : Nat) : Bool := Nat.beq md 2 || Nat.beq md 4 || Nat.beq md 8 || Nat.beq md 16 || Nat.beq md 32 || Nat.beq md 64 || Nat.beq md 128 || Nat.beq md 256
/-- 0: an int of which 'uint(n) % md' is known; 1: that uint; 2: an int of which '(n & 255) % md' is known; 3: that 'n & 255'; 4: an int of which 'n % md' is known, md a power of two; 5: that 'n >> 1' -/
def symBin (op : BinOp) (i : IntKind) (a : Int) (j : IntKind) (b : Int) : Option (IntKind × Int) := match a, b with
  | .negSucc m, .ofNat c => (match symId m, op, i, j with
    | 1, .rem, .u64, .u64 => (match Nat.beq c (symMd m) && Nat.blt (symR m) c && Nat.blt (symR m) 256 with | true => some (.u64, .ofNat (symR m)) | false => none)
    | 2, .and, .i64, .i64 => (match Nat.beq c 255 with | true => some (.i64, .negSucc (Nat.add m 281474976710656)) | false => none)
    | 3, .rem, .i64, .i64 => (match Nat.beq c (symMd m) && Nat.blt (symR m) c && Nat.blt (symR m) 256 with | true => some (.i64, .ofNat (symR m)) | false => none)
    | 4, .and, .i64, .i64 => (match pow2B (symMd m) && Nat.blt c (symMd m) && Nat.blt (symR m) (symMd m) with | true => some (.i64, .ofNat (Nat.land (symR m) c)) | false => none)
    | 4, .shr, .i64, _ => (match Nat.beq c 1 with | true => some (.i64, .negSucc (Nat.add m 281474976710656)) | false => none)
    | 5, .and, .i64, .i64 => (match pow2B (symMd m) && Nat.blt (Nat.add c c) (symMd m) && Nat.blt (symR m) (symMd m) with | true => some (.i64, .ofNat (Nat.land (Nat.div (symR m) 2) c)) | false => none)
    | _, _, _, _ => none)
  | _, _ => none
def symConv (i k : IntKind) (a : Int) : Option Int := match a with
  | .negSucc m => (match symId m, i, k with
    | 0, .i64, .u64 => some (.negSucc (Nat.add m 281474976710656))
    | _, _, _ => none)
  | _ => none

/-! ### constants -/
/-- a value of one cell -/
def absC : Value → Option AV
  | .bool b => some (.bool b)
  | .int k n => (match symB n with | true => none | false => some (.int k n))
  | .string s => some (.str s.data.toList.length (codeOf s.data.toList))
  | .pointer none => some .nilptr
  | .slice none 0 0 => some .nilslice
  | .map none => some .nilmap
  | .nilFunc => some .nilfunc
  | .nilIface => some .niliface
  | _ => none
def absL : List Value → Option (List AV)
  | [] => some []
  | v :: vs => match absC v, absL vs with | some a, some l => some (a :: l) | _, _ => none
def absV (v : Value) : Option AV := match v with
  | .agg cs => (match absL cs.toList with | some l => some (.agg l) | none => none)
  | .tuple vs => (match absL vs.toList with | some l => some (.tuple l) | none => none)
  | v => absC v

/-! ### memory -/
inductive ADef : Type where
  | call (fn : Nat) (args : List AV)
  | mark (r : Nat)
  deriving Inhabited

inductive Blk : Type where
  | cells (cs : List AV) (elem : TypeId) (tail ro : Bool)
  | map (es : List (AV × AV × Nat)) (clock : Nat)
  | siter (len code pos : Nat)
  | loop (state : LoopState) (pending : Option Code) (vars : Tr AV) (vm n : Nat) (params : List Tmp) (assign body : Code) (defers : Nat)
  | deferred (fresh : Bool)
  | dead
  /-- a map whose entries have come in an order that is not known; 'fin': all of them are there -/
  | mapU (es : List (AV × AV × Nat)) (fin : Bool)
  deriving Inhabited

structure H where
  next : Nat
  t : Tr Blk
  deriving Inhabited

def H.get (h : H) (b : Nat) : Option Blk := h.t.get b
def H.put (h : H) (b : Nat) (x : Blk) : H := ⟨h.next, h.t.put b x⟩
/-- a new block: its number is 'h.next' -/
def H.new (h : H) (x : Blk) : H := match h.next with
  | 0 => ⟨1, h.t.put 0 x⟩
  | n + 1 => ⟨n + 2, h.t.put (n + 1) x⟩

structure A where
  vars : Tr AV
  log : List (Nat × AV)
  defers : List ADef
  deriving Inhabited

def findLog (t : Nat) (l : List (Nat × AV)) : Option AV :=
  List.rec (motive := fun _ => Option AV) none
    (fun p _ ih => Prod.rec (motive := fun _ => Option AV) (fun u v => Bool.rec (motive := fun _ => Option AV) ih (some v) (Nat.beq u t)) p) l
def nthV (l : List AV) : Nat → Option AV :=
  List.rec (motive := fun _ => Nat → Option AV) (fun _ => none)
    (fun x _ ih n => Nat.rec (motive := fun _ => Option AV) (some x) (fun m _ => ih m) n) l

structure PE where
  v : AV
  recovered : Bool
  deriving Inhabited

inductive OR : Type where
  | fail
  | val (v : AV) (h : H)
  | pan (c : List PE) (h : H)
  | dfr (d : ADef) (h : H)
  deriving Inhabited

inductive CR : Type where
  | fail
  | normal (a : A) (h : H)
  | exit (id : Nat) (a : A) (h : H)
  | goto (l : Nat) (a : A) (h : H)
  | ret (a : A) (h : H)
  | pan (c : List PE) (a : A) (h : H)
  deriving Inhabited

/-! ### types -/
def lenL : List AV → Nat
  | [] => 0
  | _ :: l => Nat.succ (lenL l)
def szT (P : Program) (t : TypeId) : Option Nat := match P.info? t with | some i => some i.size | none => none
def bytesT (P : Program) (t : TypeId) : Option Nat := match P.info? t with | some i => some i.bytes | none => none
def aggT (P : Program) (t : TypeId) : Option Bool := match P.underlying t with | some (.struct _) => some true | some (.array ..) => some true | some _ => some false | none => none
def zeroT (P : Program) (t : TypeId) : Option AV := match P.info? t with
  | some i => match i.zero with | some v => absV v | none => none
  | none => none
/-- the cells of a type's zero value, as many as its size -/
def zeroC (P : Program) (t : TypeId) : Option (List AV) := match zeroT P t, szT P t with
  | some z, some n => (match z.cells? with
    | some cs => (match Nat.beq (lenL cs) n with | true => some cs | false => none)
    | none => none)
  | _, _ => none
def elemT (P : Program) (t : TypeId) : Option TypeId := match P.underlying t with | some (.slice e) => some e | _ => none
/-- a field's offset and type -/
def fieldT (P : Program) (s : TypeId) (f : Nat) : Option (Nat × TypeId) := match P.underlying s with
  | some (.struct fs) => match fs.toList[f]? with | some x => some (x.offset, x.type) | none => none
  | _ => none

/-! ### integers -/
def ilt : Int → Int → Bool
  | .ofNat a, .ofNat b => Nat.blt a b
  | .negSucc _, .ofNat _ => true
  | .ofNat _, .negSucc _ => false
  | .negSucc a, .negSucc b => Nat.blt b a
def ieq : Int → Int → Bool
  | .ofNat a, .ofNat b => Nat.beq a b
  | .negSucc a, .negSucc b => Nat.beq a b
  | _, _ => false
def kindTop : IntKind → Nat
  | .i8 => 128 | .i16 => 32768 | .i32 => 2147483648 | .i64 => 9223372036854775808 | .u8 => 256 | .u16 => 65536 | .u32 => 4294967296 | .u64 => 18446744073709551616
def kindLow : IntKind → Nat
  | .i8 => 128 | .i16 => 32768 | .i32 => 2147483648 | .i64 => 9223372036854775808 | _ => 0
/-- a number, written out -/
def frc {β : Type} (n : Nat) (k : Nat → β) : β := match n with | 0 => k 0 | j + 1 => k (Nat.succ j)
/-- an integer of its kind, its number written out; none: it does not fit -/
def mkNat (k : IntKind) (m : Nat) : Option AV := match Nat.blt m (kindTop k) with
  | true => frc m fun m => some (.int k (.ofNat m))
  | false => none
def mkInt (k : IntKind) : Int → Option AV
  | .ofNat m => mkNat k m
  | .negSucc m => match Nat.blt m (kindLow k) with
    | true => frc m fun m => some (.int k (.negSucc m))
    | false => none
def ikeq : IntKind → IntKind → Bool
  | .i8, .i8 | .i16, .i16 | .i32, .i32 | .i64, .i64 | .u8, .u8 | .u16, .u16 | .u32, .u32 | .u64, .u64 => true
  | _, _ => false

def streq (l1 c1 l2 c2 : Nat) : Bool := match Nat.beq l1 l2 with | true => Nat.beq (Nat.mod c1 (Nat.pow 256 l1)) (Nat.mod c2 (Nat.pow 256 l2)) | false => false

def bitsAnd (k : IntKind) : Int → Int → Option AV
  | .ofNat x, .ofNat y => mkNat k (Nat.land x y)
  | .ofNat x, .negSucc y => (match Nat.blt x (kindTop k) with | true => mkNat k (Nat.sub x (Nat.land x y)) | false => none)
  | _, _ => none
def bitsAndNot (k : IntKind) : Int → Int → Option AV
  | .ofNat x, .ofNat y => (match Nat.blt x (kindTop k) with | true => mkNat k (Nat.sub x (Nat.land x y)) | false => none)
  | _, _ => none
def bitsOf (f : Nat → Nat → Nat) (k : IntKind) : Int → Int → Option AV
  | .ofNat x, .ofNat y => mkNat k (f x y)
  | _, _ => none
def divOf (f : Nat → Nat → Nat) (k : IntKind) : Int → Int → Option AV
  | .ofNat x, .ofNat (y + 1) => mkNat k (f x (y + 1))
  | _, _ => none
def kindBits : IntKind → Nat
  | .i8 | .u8 => 8 | .i16 | .u16 => 16 | .i32 | .u32 => 32 | .i64 | .u64 => 64
def shOf (f : Nat → Nat → Nat) (k : IntKind) : Int → Int → Option AV
  | .ofNat x, .ofNat y => match Nat.ble y (kindBits k) with | true => mkNat k (f x (Nat.pow 2 y)) | false => none
  | _, _ => none

def evInt (op : BinOp) (k : IntKind) (a b : Int) : Option AV := match op with
  | .add => mkInt k (Int.add a b)
  | .sub => mkInt k (Int.sub a b)
  | .mul => mkInt k (Int.mul a b)
  | .quo => divOf Nat.div k a b
  | .rem => divOf Nat.mod k a b
  | .and => bitsAnd k a b
  | .or => bitsOf Nat.lor k a b
  | .xor => bitsOf Nat.xor k a b
  | .andNot => bitsAndNot k a b
  | .eql => some (.bool (ieq a b))
  | .neq => some (.bool (!ieq a b))
  | .lss => some (.bool (ilt a b))
  | .leq => some (.bool (!ilt b a))
  | .gtr => some (.bool (ilt b a))
  | .geq => some (.bool (!ilt a b))
  | .shl => shOf Nat.mul k a b
  | .shr => shOf Nat.div k a b

def evStr (op : BinOp) (l1 c1 l2 c2 : Nat) : Option AV := match op with
  | .eql => some (.bool (streq l1 c1 l2 c2))
  | .neq => some (.bool (!streq l1 c1 l2 c2))
  | .add => match Nat.blt (Nat.add l1 l2) 1000000 with
    | true => frc (Nat.add l1 l2) fun l => frc (Nat.add (Nat.mod c1 (Nat.pow 256 l1)) (Nat.mul c2 (Nat.pow 256 l1))) fun c => some (.str l c)
    | false => none
  | _ => none

/-- the kinds of types whose values are held against each other -/
inductive EK : Type where
  | bool | ptr | slice | map | func | iface | other
  | cells (ks : List Nat)
  | ptrS
  deriving Inhabited
/-- a type of one cell whose values are held against each other bit by bit: 0: an integer, 1: a string, 2: a bool -/
def cellT (P : Program) (t : TypeId) : Option Nat := match P.underlying t with
  | some (.int _) => some 0
  | some .string => some 1
  | some .bool => some 2
  | _ => none
/-- the fields of a struct, each of one cell, in their row -/
def cellsT (P : Program) : List Field → Nat → Option (List Nat)
  | [], _ => some []
  | f :: fs, i => match f.name == "_" || !Nat.beq f.offset i, cellT P f.type, cellsT P fs (Nat.succ i) with | false, some k, some l => some (k :: l) | _, _, _ => none
def structT (P : Program) (t : TypeId) (fs : List Field) : EK := match P.stoodInHeld t || P.eqGuardType P.depth t, cellsT P fs 0 with
  | false, some l => .cells l
  | _, _ => .other
def ekT (P : Program) (t : TypeId) : EK := match P.underlying t with
  | some (.struct fs) => structT P t fs.toList
  | some .bool => .bool
  | some (.pointer e) => (match szT P e with | some (_ + 1) => .ptrS | _ => .ptr)
  | some (.slice _) => .slice
  | some (.map ..) => .map
  | some (.func ..) => .func
  | some (.interface _) => .iface
  | _ => .other
/-- two cells held against each other -/
def eqCell (k : Nat) (x y : AV) : Option Bool := match x, y with
  | .int i a, .int j b => (match Nat.beq k 0 && ikeq i j && !(symB a || symB b) with | true => some (ieq a b) | false => none)
  | .str l c, .str m d => (match Nat.beq k 1 with | true => some (streq l c m d) | false => none)
  | .bool a, .bool b => (match Nat.beq k 2 with | true => some (match a, b with | true, true => true | false, false => true | _, _ => false) | false => none)
  | _, _ => none
def eqCells : List Nat → List AV → List AV → Option Bool
  | [], _, _ => some true
  | k :: ks, x :: xs, y :: ys => (match eqCell k x y with | some true => eqCells ks xs ys | some false => some false | none => none)
  | _, _, _ => none
/-- 'lit': one of the operands is written in the text -/
def evEq (k : EK) (lit : Bool) (x y : AV) : Option Bool := match k, x, y with
  | .bool, .bool a, .bool b => some (match a, b with | true, true => true | false, false => true | _, _ => false)
  | .ptr, .ptr _ _, .nilptr => some false
  | .ptr, .nilptr, .ptr _ _ => some false
  | .ptr, .nilptr, .nilptr => some true
  | .slice, .slice .., .nilslice => some false
  | .slice, .nilslice, .slice .. => some false
  | .slice, .nilslice, .nilslice => some true
  | .map, .map _, .nilmap => some false
  | .map, .nilmap, .map _ => some false
  | .map, .nilmap, .nilmap => some true
  | .func, .func .., .nilfunc => some false
  | .func, .nilfunc, .func .. => some false
  | .func, .nilfunc, .nilfunc => some true
  | .iface, .iface .., .niliface => some false
  | .iface, .niliface, .iface .. => some false
  | .iface, .niliface, .niliface => (match lit with | true => some true | false => none)
  | .cells ks, .agg xs, .agg ys => eqCells ks xs ys
  | .ptrS, .ptr _ _, .nilptr => some false
  | .ptrS, .nilptr, .ptr _ _ => some false
  | .ptrS, .nilptr, .nilptr => some true
  | .ptrS, .ptr b x, .ptr c y => (match Nat.beq b c with | true => some (Nat.beq x y) | false => none)
  | _, _, _ => none

def evOther (op : BinOp) (k : EK) (lit : Bool) (x y : AV) : Option AV := match op with
  | .eql => (match evEq k lit x y with | some b => some (.bool b) | none => none)
  | .neq => (match evEq k lit x y with | some b => some (.bool (match b with | true => false | false => true)) | none => none)
  | _ => none

def isShift : BinOp → Bool
  | .shl | .shr => true
  | _ => false

def evBin (op : BinOp) (k : EK) (lit : Bool) (x y : AV) : Option AV := match x with
  | .int i a => (match y with
    | .int j b => (match symB a || symB b with
      | true => (match symBin op i a j b with | some (k, z) => some (.int k z) | none => none)
      | false => (match ikeq i j with
        | true => evInt op i a b
        | false => (match isShift op with | true => evInt op i a b | false => none)))
    | _ => none)
  | .str l c => (match y with | .str m d => evStr op l c m d | _ => none)
  | _ => evOther op k lit x y

def evUn (op : UnOp) (x : AV) : Option AV := match op, x with
  | .not, .bool b => some (.bool (match b with | true => false | false => true))
  | .neg, .int k n => (match symB n with | true => none | false => mkInt k (Int.sub 0 n))
  | .xor, .int .i64 (.ofNat n) => (match Nat.blt n 9223372036854775808 with | true => some (.int .i64 (.negSucc n)) | false => none)
  | _, _ => none

/-! ### lists of cells -/
def takeL : Nat → List AV → Option (List AV)
  | 0, _ => some []
  | n + 1, x :: l => match takeL n l with | some r => some (x :: r) | none => none
  | _ + 1, [] => none
def dropL : Nat → List AV → Option (List AV)
  | 0, l => some l
  | n + 1, _ :: l => dropL n l
  | _ + 1, [] => none
/-- 'vs' written over 'l' -/
def overL : List AV → List AV → Option (List AV)
  | [], l => some l
  | v :: vs, _ :: l => match overL vs l with | some r => some (v :: r) | none => none
  | _ :: _, [] => none
def writeL : Nat → List AV → List AV → Option (List AV)
  | 0, vs, l => overL vs l
  | n + 1, vs, x :: l => match writeL n vs l with | some r => some (x :: r) | none => none
  | _ + 1, _, [] => none

def loadAt (h : H) (agg : Bool) (n b off : Nat) : Option AV := match h.get b with
  | some (.cells cs _ _ _) => (match agg with
    | true => (match dropL off cs with
      | some l => (match takeL n l with | some r => some (.agg r) | none => none)
      | none => none)
    | false => nthV cs off)
  | _ => none

def storeAt (h : H) (n b off : Nat) (v : AV) : Option H := match h.get b with
  | some (.cells cs e tail false) => (match v.cells? with
    | some vs => (match Nat.beq (lenL vs) n with
      | true => (match writeL off vs cs with | some l => some (h.put b (.cells l e tail false)) | none => none)
      | false => none)
    | none => none)
  | _ => none

def repL : Nat → List AV → List AV
  | 0, _ => []
  | n + 1, z => z ++ repL n z

/-- parts written into cells, each at its place: offset, size, value -/
def fillL : List (Nat × Nat × AV) → List AV → Option (List AV)
  | [], l => some l
  | (off, size, v) :: ps, l => match v.cells? with
    | some vs => (match Nat.beq (lenL vs) size with
      | true => (match writeL off vs l with | some r => fillL ps r | none => none)
      | false => none)
    | none => none

def natOf : AV → Option Nat
  | .int _ (.ofNat n) => some n
  | _ => none

/-- the bounds of a slice expression: low, high; 'cap' is what high may be at most -/
def bounds (len cap : Nat) (lo hi : Option AV) : Option (Nat × Nat) :=
  match (match hi with | some v => natOf v | none => some len), (match lo with | some v => natOf v | none => some 0) with
  | some h, some l => (match Nat.ble h cap && Nat.ble l h with | true => some (l, h) | false => none)
  | _, _ => none

inductive LK : Type where
  | str | slice | map
  deriving Inhabited
def evLen (k : LK) (x : AV) (h : H) : Option AV := match x, k with
  | .str n _, .str => mkNat .i64 n
  | .slice _ _ n _ _, .slice => mkNat .i64 n
  | .nilslice, .slice => mkNat .i64 0
  | .nilmap, .map => mkNat .i64 0
  | .map b, .map => (match h.get b with | some (.map es _) => mkNat .i64 es.length | _ => none)
  | _, _ => none

/-- the cells of the elements that are appended -/
def srcCells (h : H) (sz : Nat) (x : AV) : Option (Nat × List AV) := match x with
  | .nilslice => some (0, [])
  | .slice b off n _ _ => match h.get b with
    | some (.cells cs _ _ _) => (match dropL off cs with | some l => (match takeL (Nat.mul n sz) l with | some r => some (n, r) | none => none) | none => none)
    | _ => none
  | .str n c => (match Nat.beq sz 1 with | true => some (n, (bytesOf n c).map fun b => .int .u8 (.ofNat b.toNat)) | false => none)
  | _ => none

def evAppend (e sz by_ : Nat) (h : H) (s x : AV) : Option (AV × H) := match srcCells h sz x with
  | some (n, new) => match s with
    | .nilslice => (match n with
      | 0 => some (.nilslice, h)
      | _ => (match Nat.blt (Nat.mul n by_) 1000000000 && Nat.blt n 1000000000 with
        | true => some (.slice h.next 0 n n false, h.new (.cells new e true false))
        | false => none))
    | .slice b off len cap ex => (match h.get b with
      | some (.cells cs be tail false) => (match Nat.ble (Nat.add len n) cap with
        | true => (match writeL (Nat.add off (Nat.mul len sz)) new cs with
          | some l => some (.slice b off (Nat.add len n) cap ex, h.put b (.cells l be tail false))
          | none => none)
        | false => (match dropL off cs with
          | some l => (match takeL (Nat.mul len sz) l with
            | some old => (match Nat.blt (Nat.mul (Nat.add len n) by_) 1000000000 && Nat.blt (Nat.add len n) 1000000000 with
              | true => (match ex with
                | true => some (.slice h.next 0 (Nat.add len n) (Nat.add len n) false, h.new (.cells (old ++ new) e true false))
                | false => (match tail && Nat.beq (Nat.add off (Nat.mul cap sz)) (lenL cs) && Nat.beq be e with
                  | true => some (.slice h.next 0 (Nat.add len n) (Nat.add len n) false, (h.put b .dead).new (.cells (old ++ new) e true false))
                  | false => none))
              | false => none)
            | none => none)
          | none => none))
      | _ => none)
    | _ => none
  | none => none

def keyEq (x y : AV) : Option Bool := match x, y with
  | .int j a, .int k b => (match symB a || symB b with | true => none | false => (match ikeq j k with | true => some (ieq a b) | false => none))
  | .str l c, .str m d => some (streq l c m d)
  | .agg [.int j a, .int j' a'], .agg [.int k b, .int k' b'] => (match symB a || symB b || (symB a' || symB b') with | true => none | false => (match ikeq j k && ikeq j' k' with | true => some (ieq a b && ieq a' b') | false => none))
  | _, _ => none
def findK (k : AV) : List (AV × AV × Nat) → Option (Option AV)
  | [] => some none
  | (x, v, _) :: es => match keyEq k x with | some true => some (some v) | some false => findK k es | none => none
def setK (k v : AV) : List (AV × AV × Nat) → Nat → Option (List (AV × AV × Nat) × Nat)
  | [], clock => some ([(k, v, clock)], clock + 1)
  | (x, w, b) :: es, clock => match keyEq k x with
    | some true => some ((k, v, b) :: es, clock)
    | some false => (match setK k v es clock with | some (r, c) => some ((x, w, b) :: r, c) | none => none)
    | none => none
/-- the kinds of keys: an integer, a string, two integers -/
inductive KT : Type where
  | int
  | str
  | two
  deriving Inhabited
def keyT (P : Program) (t : TypeId) : Option KT := match P.underlying t with
  | some (.int _) => some .int
  | some .string => some .str
  | some (.array n e) => (match Nat.beq n 2, P.underlying e, szT P e, aggT P e with | true, some (.int _), some 1, some false => some .two | _, _, _, _ => none)
  | _ => none
def plainKey (kt : KT) (k : AV) : Bool := match k, kt with
  | .int _ n, .int => !symB n
  | .str _ _, .str => true
  | .agg [.int _ a, .int _ b], .two => !symB a && !symB b
  | _, _ => false

/-! ### the compiled form -/
/-- an operand: a variable, a temporary of this region, a value -/
inductive XO : Type where
  | v (t : Nat)
  | l (t : Nat)
  | c (v : AV)
  deriving Inhabited

inductive XOp : Type where
  | mv (x : XO)
  | pick (c x y : XO)
  | new (cs : List AV) (elem : TypeId)
  | box (elem : TypeId) (x : XO)
  | build (z : List AV) (ps : List (Nat × Nat × XO))
  | buildS (e : TypeId) (len : Nat) (z : List AV) (ps : List (Nat × Nat × XO))
  | ld (agg : Bool) (n : Nat) (x : XO)
  | st (n : Nat) (x y : XO)
  | nilc (x : XO)
  | bin (op : BinOp) (k : EK) (lit : Bool) (x y : XO)
  | un (op : UnOp) (x : XO)
  | conv (k : IntKind) (x : XO)
  | convS (x : XO)
  | convB (x : XO)
  | mkI (t : TypeId) (x : XO)
  | mkF (f : FuncId) (fs cs : List XO)
  | mkM
  | mkS (e sz by_ : Nat) (z : List AV) (l c : XO)
  | slStr (x : XO) (lo hi : Option XO)
  | slSl (sz : Nat) (x : XO) (lo hi : Option XO)
  | slArr (n sz : Nat) (x : XO) (lo hi : Option XO)
  | fa (off : Nat) (x : XO)
  | fld (agg : Bool) (off n : Nat) (x : XO)
  | ia (sz : Nat) (x i : XO)
  | iaArr (len sz : Nat) (x i : XO)
  | ixS (x i : XO)
  | ixA (len : Nat) (x i : XO)
  | look (kt : KT) (z : AV) (ok : Bool) (x i : XO)
  | upd (kt : KT) (m k v : XO)
  | ins (kt : KT) (m k v : XO)
  | ext (x : XO) (i : Nat)
  | ta (t : TypeId) (z : AV) (ok : Bool) (x : XO)
  | pan (x : XO)
  | len (k : LK) (x : XO)
  | lenN (n : Nat)
  | capS (x : XO)
  | app (e sz by_ : Nat) (x y : XO)
  | appZ (e sz by_ : Nat) (z : List AV) (x y : XO)
  | max (x y : XO)
  | min (x y : XO)
  | rngS (x : XO)
  | nextS (x : XO)
  | call (f : XO) (args : List XO)
  | callF (f : FuncId) (args : List XO)
  | dfr (f : XO) (args : List XO)
  | bad
  deriving Inhabited

/-- where a result goes -/
inductive XD : Type where
  | no
  | v (t : Nat)
  | l (t : Nat)
  deriving Inhabited

structure XOper where
  guard : Option (XO × Bool)
  op : XOp
  dst : XD
  deriving Inhabited

/-- an operation of a drawn region, in the order in which the evaluator takes them: 'quiet': it only looks or makes; 'again': what is asked again behind it; 'two': it and the last one store, in either order, at these two addresses -/
structure XDr where
  quiet : Bool
  o : XOper
  again : List XOper
  two : Option (XO × XO)
  deriving Inhabited

inductive XCode : Type where
  | skip
  | ops (l : List XOper)
  | draw (u : Bool) (l : List XDr) (qs : List Nat)
  | seq (a b : XCode)
  | cond (c : XO) (a b : XCode)
  | block (id : Nat) (a : XCode)
  | loop (a : XCode)
  | scope (a : XCode)
  | range (f : XO) (n vm : Nat) (ps : List Tmp) (asg body : Code)
  | exit (id : Nat)
  | goto (l : Nat)
  | ret
  | bad
  deriving Inhabited

/-! ### compiling -/
/-- is bit t set? -/
def bit (m t : Nat) : Bool := Nat.beq (Nat.mod (Nat.div m (Nat.pow 2 t)) 2) 1
def cO (vm : Nat) : Operand → Option XO
  | .tmp t => (match bit vm t with | true => some (.v t) | false => some (.l t))
  | .const v => (match absV v with | some a => some (.c a) | none => none)
  | .global g => (match Nat.blt g 64 with | true => some (.c (.ptr g 0)) | false => none)
  | .func f => some (.c (.func (.func f) [] []))
def cOs (vm : Nat) : List Operand → Option (List XO)
  | [] => some []
  | x :: xs => match cO vm x, cOs vm xs with | some a, some l => some (a :: l) | _, _ => none
def cOpt (vm : Nat) : Option Operand → Option (Option XO)
  | none => some none
  | some x => match cO vm x with | some a => some (some a) | none => none
/-- parts: place, size, operand -/
def cParts (vm : Nat) (place : Nat → Option (Nat × Nat)) : List (Nat × Operand) → Option (List (Nat × Nat × XO))
  | [] => some []
  | (i, x) :: ps => match place i, cO vm x, cParts vm place ps with
    | some (off, sz), some a, some l => some ((off, sz, a) :: l)
    | _, _, _ => none
def placesT (P : Program) : List Field → Option (List (Nat × Nat))
  | [] => some []
  | f :: fs => match szT P f.type, placesT P fs with | some n, some l => some ((f.offset, n) :: l) | _, _ => none
def isConst : Operand → Bool
  | .const _ => true
  | _ => false

def appT (P : Program) (u : TypeId) : Bool := match P.underlying u with | some (.slice _) => true | some .string => true | _ => false
def cCall (P : Program) (vm : Nat) (c : Call) : Option XOp := match c.callee with
  | .value (.func f) => (match cOs vm c.args.toList with | some l => some (.callF f l) | none => none)
  | .value f => (match cO vm f, cOs vm c.args.toList with | some g, some l => some (.call g l) | _, _ => none)
  | .invoke .. => none
  | .builtin .len => (match c.args.toList, c.argTypes.toList with
    | [x], [t] => (match P.underlying t, cO vm x with
      | some .string, some a => some (.len .str a)
      | some (.slice _), some a => some (.len .slice a)
      | some (.map ..), some a => some (.len .map a)
      | some (.array n _), some _ => some (.lenN n)
      | _, _ => none)
    | _, _ => none)
  | .builtin .cap => (match c.args.toList, c.argTypes.toList with
    | [x], [t] => (match P.underlying t, cO vm x with | some (.slice _), some a => some (.capS a) | _, _ => none)
    | _, _ => none)
  | .builtin .append => (match c.args.toList, c.argTypes.toList with
    | [x, y], [t, u] => (match cO vm x, cO vm y, elemT P t, appT P u with
      | some a, some b, some e, true => (match szT P e, bytesT P e, zeroC P e with
        | some sz, some by_, some _ => some (.app e sz by_ a b)
        | _, _, _ => none)
      | some a, some b, some e, false => (match P.underlying u with
        | some (.int .i64) => (match szT P e, bytesT P e, zeroC P e with
          | some sz, some by_, some z => some (.appZ e sz by_ z a b)
          | _, _, _ => none)
        | _ => none)
      | _, _, _, _ => none)
    | _, _ => none)
  | .builtin .max => (match c.args.toList with | [x, y] => (match cO vm x, cO vm y with | some a, some b => some (.max a b) | _, _ => none) | _ => none)
  | .builtin .min => (match c.args.toList with | [x, y] => (match cO vm x, cO vm y with | some a, some b => some (.min a b) | _, _ => none) | _ => none)
  | _ => none

def cOp (P : Program) (vm : Nat) : Op → Option XOp
  | .move x => (match cO vm x with | some a => some (.mv a) | none => none)
  | .assign x => (match cO vm x with | some a => some (.mv a) | none => none)
  | .pick c x y => (match cO vm c, cO vm x, cO vm y with | some d, some a, some b => some (.pick d a b) | _, _, _ => none)
  | .alloc t => (match zeroC P t with | some z => some (.new z t) | none => none)
  | .box t x => (match cO vm x with | some a => some (.box t a) | none => none)
  | .build t ps => (match zeroC P t, P.underlying t with
    | some z, some (.struct fs) => (match placesT P fs.toList with
      | some pl => (match cParts vm (fun i => pl[i]?) ps.toList with | some l => some (.build z l) | none => none)
      | none => none)
    | some z, some (.array _ e) => (match szT P e with
      | some sz => (match cParts vm (fun i => some (Nat.mul i sz, sz)) ps.toList with | some l => some (.build z l) | none => none)
      | none => none)
    | _, _ => none)
  | .buildSlice t len ps => (match elemT P t with
    | some e => (match szT P e, zeroC P e with
      | some sz, some z => (match Nat.blt (Nat.mul len sz) 10000, cParts vm (fun i => some (Nat.mul i sz, sz)) ps.toList with
        | true, some l => some (.buildS e len (repL len z) l)
        | _, _ => none)
      | _, _ => none)
    | none => none)
  | .load t x => (match cO vm x, aggT P t, szT P t with | some a, some g, some n => some (.ld g n a) | _, _, _ => none)
  | .store t x y => (match cO vm x, cO vm y, szT P t with | some a, some b, some n => some (.st n a b) | _, _, _ => none)
  | .nilCheck x => (match cO vm x with | some a => some (.nilc a) | none => none)
  | .binOp op t x y _ => (match cO vm x, cO vm y with | some a, some b => some (.bin op (ekT P t) (isConst x || isConst y) a b) | _, _ => none)
  | .unOp op _ x => (match cO vm x with | some a => some (.un op a) | none => none)
  | .convert s d x => (match P.underlying s, P.underlying d, cO vm x with
    | some _, some (.int k), some a => some (.conv k a)
    | some (.slice e), some .string, some a => (match P.underlying e with | some (.int .u8) => some (.convB a) | _ => none)
    | some _, some .string, some a => some (.convS a)
    | _, _, _ => none)
  | .makeInterface t x => (match P.underlying t, cO vm x with
    | some (.interface _), _ => none
    | some _, some a => some (.mkI t a)
    | _, _ => none)
  | .makeFunc fn fs cs => (match fn, cOs vm fs.toList, cOs vm cs.toList with
    | .func f, some l, some m => some (.mkF f l m)
    | _, _, _ => none)
  | .makeMap _ none => some .mkM
  | .makeSlice t l c => (match elemT P t, cO vm l, cO vm c with
    | some e, some a, some b => (match szT P e, bytesT P e, zeroC P e with
      | some sz, some by_, some z => some (.mkS e sz by_ z a b)
      | _, _, _ => none)
    | _, _, _ => none)
  | .slice t x lo hi none => (match P.underlying t, cO vm x, cOpt vm lo, cOpt vm hi with
    | some .string, some a, some l, some h => some (.slStr a l h)
    | some (.slice e), some a, some l, some h => (match szT P e with | some sz => some (.slSl sz a l h) | none => none)
    | some (.array n e), some a, some l, some h => (match szT P e with | some sz => some (.slArr n sz a l h) | none => none)
    | _, _, _, _ => none)
  | .fieldAddr s x f => (match cO vm x, fieldT P s f with
    | some a, some (o, ft) => (match szT P ft with | some (_ + 1) => some (.fa o a) | _ => none)
    | _, _ => none)
  | .field s x f => (match cO vm x, fieldT P s f with
    | some a, some (o, ft) => (match aggT P ft, szT P ft with | some g, some n => some (.fld g o n a) | _, _ => none)
    | _, _ => none)
  | .indexAddr t x i => (match P.underlying t, cO vm x, cO vm i with
    | some (.slice e), some a, some b => (match szT P e with | some sz => some (.ia sz a b) | none => none)
    | some (.array len e), some a, some b => (match szT P e with | some sz => some (.iaArr len sz a b) | none => none)
    | _, _, _ => none)
  | .index t x i => (match P.underlying t, cO vm x, cO vm i with
    | some .string, some a, some b => some (.ixS a b)
    | some (.array len e), some a, some b => (match aggT P e, szT P e with | some false, some 1 => some (.ixA len a b) | _, _ => none)
    | _, _, _ => none)
  | .lookup t x i ok => (match P.underlying t, cO vm x, cO vm i with
    | some (.map kt et), some a, some b => (match keyT P kt, zeroT P et with | some k, some z => some (.look k z ok a b) | _, _ => none)
    | _, _, _ => none)
  | .mapUpdate t m k v => (match P.underlying t, cO vm m, cO vm k, cO vm v with
    | some (.map kt _), some a, some b, some c => (match keyT P kt with | some i => some (.upd i a b c) | none => none)
    | _, _, _, _ => none)
  | .insert t m k v => (match P.underlying t, cO vm m, cO vm k, cO vm v with
    | some (.map kt _), some a, some b, some c => (match keyT P kt with | some i => some (.ins i a b c) | none => none)
    | _, _, _, _ => none)
  | .extract x i => (match cO vm x with | some a => some (.ext a i) | none => none)
  | .range t x => (match P.underlying t, cO vm x with | some .string, some a => some (.rngS a) | _, _ => none)
  | .next x true => (match cO vm x with | some a => some (.nextS a) | none => none)
  | .typeAssert x _ t ok => (match P.underlying t, cO vm x, zeroT P t with
    | some (.interface _), _, _ => none
    | some _, some a, some z => some (.ta t z ok a)
    | _, _, _ => none)
  | .panic x => (match cO vm x with | some a => some (.pan a) | none => none)
  | .call c => cCall P vm c
  | .defer c => (match c.callee with
    | .value f => (match cO vm f, cOs vm c.args.toList with | some g, some l => some (.dfr g l) | _, _ => none)
    | _ => none)
  | _ => none

def cDst (n vm : Nat) : Option Tmp → Option XD
  | none => some .no
  | some t => match Nat.blt t n with
    | true => (match bit vm t with | true => some (.v t) | false => some (.l t))
    | false => none
def cGuard (vm : Nat) (all : List Oper) : Option (Nat × Bool) → Option (Option (XO × Bool))
  | none => some none
  | some (j, b) => match all[j]? with
    | some oj => (match oj.dst with
      | some t => (match bit vm t with | true => some (some (.v t, b)) | false => some (some (.l t, b)))
      | none => none)
    | none => none
def cOper (P : Program) (n vm : Nat) (all : List Oper) (o : Oper) : XOper := match cGuard vm all o.guard, cOp P vm o.op, cDst n vm o.dst with
  | some g, some x, some d => ⟨g, x, d⟩
  | _, _, _ => ⟨none, .bad, .no⟩
def cOpers (P : Program) (n vm : Nat) (all : List Oper) : List Oper → List XOper
  | [] => []
  | o :: os => cOper P n vm all o :: cOpers P n vm all os

/-! drawn regions: what only looks, or makes new memory, comes as early as it can -/
def isQuiet : Op → Bool
  | .move _ | .pick .. | .alloc _ | .box .. | .build .. | .buildSlice .. | .load .. | .nilCheck _ | .binOp .. | .unOp .. | .convert .. | .makeInterface ..
  | .makeFunc .. | .makeMap .. | .slice .. | .fieldAddr .. | .field .. | .indexAddr .. | .index .. | .lookup .. | .extract .. => true
  | .call { callee := .builtin .cap, .. } => true
  | .call { callee := .builtin .len, .. } | .call { callee := .builtin .min, .. } | .call { callee := .builtin .max, .. } => true
  | _ => false
/-- 'u': new entries of maps, in whatever order they come -/
def isQuietU (u : Bool) (o : Op) : Bool := match u, o with
  | true, .insert .. => true
  | _, _ => isQuiet o
def needM : List Edge → Nat
  | [] => 0
  | e :: es => (match Region.binds .any e with | true => Nat.lor (Nat.pow 2 e.on) (needM es) | false => needM es)
/-- number, quiet, which it waits for -/
def rowsE (u : Bool) : List Oper → Nat → List (Nat × Bool × Nat)
  | [], _ => []
  | o :: os, i => (i, isQuietU u o.op, needM o.after.toList) :: rowsE u os (Nat.succ i)
/-- the first that may come, and the others -/
def pickE (q : Bool) (mask : Nat) : List (Nat × Bool × Nat) → Option (Nat × List (Nat × Bool × Nat))
  | [] => none
  | x :: rest => (match (!q || x.2.1) && Nat.beq (Nat.land x.2.2 mask) x.2.2 with
    | true => some (x.1, rest)
    | false => (match pickE q mask rest with | some y => some (y.1, x :: y.2) | none => none))
def eagerE : Nat → Nat → List (Nat × Bool × Nat) → List Nat
  | 0, _, _ => []
  | f + 1, mask, l => (match pickE true mask l with
    | some (i, r) => i :: eagerE f (Nat.lor mask (Nat.pow 2 i)) r
    | none => (match pickE false mask l with
      | some (i, r) => i :: eagerE f (Nat.lor mask (Nat.pow 2 i)) r
      | none => []))
/-- an order: what is quiet first -/
def eager (u : Bool) (ops : List Oper) : List Nat := eagerE ops.length 0 (rowsE u ops 0)

/-- the operands of an operation -/
def partXs : List (Nat × Nat × XO) → List XO
  | [] => []
  | (_, _, x) :: ps => x :: partXs ps
def optXs : Option XO → List XO
  | none => []
  | some x => [x]
def xreads : XOp → List XO
  | .mv x | .box _ x | .ld _ _ x | .nilc x | .un _ x | .conv _ x | .convS x | .convB x | .mkI _ x | .fa _ x | .fld _ _ _ x | .ext x _ | .ta _ _ _ x | .pan x | .len _ x | .capS x | .rngS x | .nextS x => [x]
  | .pick c x y => [c, x, y]
  | .new _ _ | .mkM | .lenN _ | .bad => []
  | .build _ ps | .buildS _ _ _ ps => partXs ps
  | .st _ x y | .bin _ _ _ x y | .ia _ x y | .iaArr _ _ x y | .ixS x y | .ixA _ x y | .look _ _ _ x y | .app _ _ _ x y | .appZ _ _ _ _ x y | .max x y | .min x y | .mkS _ _ _ _ x y => [x, y]
  | .mkF _ fs cs => fs ++ cs
  | .slStr x lo hi | .slSl _ x lo hi | .slArr _ _ x lo hi => x :: (optXs lo ++ optXs hi)
  | .upd _ m k v | .ins _ m k v => [m, k, v]
  | .call f args | .dfr f args => f :: args
  | .callF _ args => args
def xreadsO (o : XOper) : List XO := match o.guard with
  | none => xreads o.op
  | some (x, _) => x :: xreads o.op
/-- does it only look, or make new memory? -/
def xquiet : XOp → Bool
  | .mv _ | .pick .. | .new .. | .box .. | .build .. | .buildS .. | .ld .. | .nilc _ | .bin .. | .un .. | .conv .. | .convS _ | .convB _ | .mkI .. | .mkF .. | .mkM
  | .slStr .. | .slSl .. | .slArr .. | .fa .. | .fld .. | .ia .. | .iaArr .. | .ixS .. | .ixA .. | .look .. | .ext .. | .len .. | .lenN _ | .capS _ | .max .. | .min .. => true
  | _ => false
def xquietU (u : Bool) (o : XOp) : Bool := match u, o with
  | true, .ins .. => true
  | _, _ => xquiet o
/-- does it look at memory? -/
def xlooks : XOp → Bool
  | .ld .. | .look .. | .len .. | .convB _ => true
  | _ => false
def xmv : XOp → Bool
  | .mv _ => true
  | _ => false
/-- is what goes to 'd' among 'l'? -/
def hitX (d : XD) (x : XO) : Bool := match d, x with
  | .v t, .v u => Nat.beq t u
  | .l t, .l u => Nat.beq t u
  | _, _ => false
def hits (d : XD) : List XO → Bool
  | [] => false
  | x :: l => match hitX d x with | true => true | false => hits d l
def sameD (d e : XD) : Bool := match d, e with
  | .v t, .v u => Nat.beq t u
  | .l t, .l u => Nat.beq t u
  | _, _ => false

/-- slots as bits -/
def dmask : XD → Nat
  | .v t => Nat.pow 2 (Nat.mul 2 t)
  | .l t => Nat.pow 2 (Nat.succ (Nat.mul 2 t))
  | .no => 0
def omask : XO → Nat
  | .v t => Nat.pow 2 (Nat.mul 2 t)
  | .l t => Nat.pow 2 (Nat.succ (Nat.mul 2 t))
  | .c _ => 0
def rmask : List XO → Nat
  | [] => 0
  | x :: l => Nat.lor (omask x) (rmask l)
/-- an operation of a drawn region that has been placed: its number, which it waits for (through others too), what it is, what it writes and reads -/
structure Pl where
  i : Nat
  m : Nat
  q : Bool
  x : XOper
  dm : Nat
  rm : Nat
  hd : dm = dmask x.dst
  hr : rm = rmask (xreadsO x)
def findPl (i : Nat) : List Pl → Option Pl
  | [] => none
  | p :: ps => match Nat.beq p.i i with | true => some p | false => findPl i ps
/-- what an operation waits for; none: it waits for what is not placed yet -/
def predMask (ps : List Pl) : List Edge → Option Nat
  | [] => some 0
  | e :: es => match predMask ps es with
    | some m => (match Region.binds .any e with
      | true => (match findPl e.on ps with | some p => some (Nat.lor m (Nat.lor (Nat.pow 2 e.on) p.m)) | none => none)
      | false => some m)
    | none => none
/-- may 'x', which waits for 'm', come behind those of 'ps'? -/
def pairsOk (m : Nat) (q : Bool) (x : XOper) : List Pl → Bool
  | [] => true
  | p :: ps => (match Nat.beq (Nat.land p.dm (dmask x.dst)) 0 && (Nat.beq (Nat.land p.dm (rmask (xreadsO x))) 0 && Nat.beq (Nat.land p.rm (dmask x.dst)) 0) with
      | true => true
      | false => (match bit m p.i with
        | true => (match q with | true => !hits x.dst (xreadsO p.x) | false => true)
        | false => !hits p.x.dst (xreadsO x) && !hits x.dst (xreadsO p.x)) && !sameD p.x.dst x.dst) && pairsOk m q x ps
/-- which of the looking operations must be asked again behind an operation that waits for 'm' -/
def againOf (m : Nat) : List Pl → List XOper
  | [] => []
  | p :: ps => match p.q && xlooks p.x.op && !bit m p.i with
    | true => p.x :: againOf m ps
    | false => againOf m ps
/-- one operation placed; none: it is not taken -/
def placeOne (u : Bool) (P : Program) (n vm : Nat) (ops : List Oper) (i : Nat) (ps : List Pl) (last : Option Nat) : Option (Pl × XDr) := match ops[i]?, findPl i ps with
  | some o, none => (match predMask ps o.after.toList with
    | some m => (match (match last with | some f => bit m f | none => true) && pairsOk m (isQuietU u o.op) (cOper P n vm ops o) ps &&
        (!isQuietU u o.op || (xquietU u (cOper P n vm ops o).op && !hits (cOper P n vm ops o).dst (xreadsO (cOper P n vm ops o)))) with
      | true => some (⟨i, m, isQuietU u o.op, cOper P n vm ops o, dmask (cOper P n vm ops o).dst, rmask (xreadsO (cOper P n vm ops o)), rfl, rfl⟩, ⟨isQuietU u o.op, cOper P n vm ops o, match isQuietU u o.op || xmv (cOper P n vm ops o).op with | true => [] | false => againOf m ps, none⟩)
      | false => none)
    | none => none)
  | _, _ => none
def twoSt (d e : XDr) : Option (XO × XO) := match d, e with
  | ⟨false, ⟨none, .st _ x _, .no⟩, [], none⟩, ⟨false, ⟨none, .st _ y _, .no⟩, [], none⟩ => some (x, y)
  | _, _ => none
def placeGo (u : Bool) (P : Program) (n vm : Nat) (ops : List Oper) : List Nat → List Pl → Option Nat → Option (List XDr)
  | [], _, _ => some []
  | i :: is, ps, last => match placeOne u P n vm ops i ps last with
    | some (p, d) => (match placeGo u P n vm ops is (p :: ps) (match p.q with | true => last | false => some i) with
      | some l => some (d :: l)
      | none => (match u, is with
        | false, [j] => (match placeOne u P n vm ops j ps last with
          | some (p', d') => (match placeOne u P n vm ops j (p :: ps) none, placeOne u P n vm ops i (p' :: ps) none with
            | some (_, d2), some (_, d1) => (match twoSt d1 d2, twoSt d d' with
              | some t, some _ => some [⟨d1.quiet, d1.o, d1.again, some t⟩, d2]
              | _, _ => none)
            | _, _ => none)
          | none => none)
        | _, _ => none))
    | none => none
def quietVs : List XDr → List Nat
  | [] => []
  | d :: ds => match d.quiet, d.o.dst with | true, .v t => t :: quietVs ds | _, _ => quietVs ds
def coversB (order : List Nat) : Nat → Bool
  | 0 => true
  | n + 1 => order.contains n && coversB order n
def cDrawU (u : Bool) (P : Program) (n vm : Nat) (ops : List Oper) : XCode := match coversB (eager u ops) ops.length, placeGo u P n vm ops (eager u ops) [] none with
  | true, some l => .draw u l (quietVs l)
  | _, _ => .bad
def hasIns : List Oper → Bool
  | [] => false
  | o :: os => match o.op with | .insert .. => true | _ => hasIns os
def cDraw (P : Program) (n vm : Nat) (ops : List Oper) : XCode := cDrawU (hasIns ops) P n vm ops

def cCode (P : Program) (n vm : Nat) : Code → XCode
  | .skip => .skip
  | .label _ => .skip
  | .region _ ops d => (match d with
    | false => .ops (cOpers P n vm ops.toList ops.toList)
    | true => cDraw P n vm ops.toList)
  | .seq x y => .seq (cCode P n vm x) (cCode P n vm y)
  | .cond c x y => (match cO vm c with | some a => .cond a (cCode P n vm x) (cCode P n vm y) | none => .bad)
  | .block id c => .block id (cCode P n vm c)
  | .loop c => .loop (cCode P n vm c)
  | .scope c => .scope (cCode P n vm c)
  | .rangeFunc f ps asg body => (match cO vm f with | some a => .range a n vm ps.toList asg body | none => .bad)
  | .exit id => .exit id
  | .goto l => .goto l
  | .ret => .ret
  | .refuse _ => .bad

/-! which slots are variables: those that a region looks at before it sets them -/
def useMask (defs : Nat) : List Operand → Nat → Nat
  | [], m => m
  | .tmp t :: xs, m => (match bit defs t with | true => useMask defs xs m | false => useMask defs xs (Nat.lor m (Nat.pow 2 t)))
  | _ :: xs, m => useMask defs xs m
def opsMask : List Oper → Nat → Nat → Nat
  | [], _, m => m
  | o :: os, defs, m => opsMask os (match o.dst with | some t => Nat.lor defs (Nat.pow 2 t) | none => defs) (useMask defs o.op.operands.toList m)
def tmpsMask : List Tmp → Nat → Nat
  | [], m => m
  | t :: ts, m => tmpsMask ts (Nat.lor m (Nat.pow 2 t))
def codeMask : Code → Nat → Nat
  | .region _ ops _, m => opsMask ops.toList 0 m
  | .seq x y, m => codeMask y (codeMask x m)
  | .cond _ x y, m => codeMask y (codeMask x m)
  | .block _ c, m => codeMask c m
  | .loop c, m => codeMask c m
  | .scope c, m => codeMask c m
  | .rangeFunc _ ps asg body, m => codeMask body (codeMask asg (tmpsMask ps.toList m))
  | _, m => m
def resMask : List ResultVar → Nat → Nat
  | [], m => m
  | .tmp t :: rs, m => resMask rs (Nat.lor m (Nat.pow 2 t))
  | .cell t _ :: rs, m => resMask rs (Nat.lor m (Nat.pow 2 t))

/-! ### running -/
def getX (x : XO) (a : A) : Option AV :=
  XO.rec (motive := fun _ => Option AV) (fun t => a.vars.get t) (fun t => findLog t a.log) (fun v => some v) x
def getXs (a : A) : List XO → Option (List AV)
  | [] => some []
  | x :: xs => match getX x a, getXs a xs with | some v, some l => some (v :: l) | _, _ => none
def getOpt (a : A) : Option XO → Option (Option AV)
  | none => some none
  | some x => match getX x a with | some v => some (some v) | none => none
def getParts (a : A) : List (Nat × Nat × XO) → Option (List (Nat × Nat × AV))
  | [] => some []
  | (o, s, x) :: ps => match getX x a, getParts a ps with | some v, some l => some ((o, s, v) :: l) | _, _ => none
def putX (d : XD) (v : AV) (a : A) : A :=
  XD.rec (motive := fun _ => A) a (fun t => ⟨a.vars.put t v, a.log, a.defers⟩) (fun t => ⟨a.vars, (t, v) :: a.log, a.defers⟩) d

def ofO (x : Option AV) (h : H) : OR := match x with | some v => .val v h | none => .fail

/-- what is left open by one level of fuel -/
structure Rec where
  call : FuncId → List AV → H → OR
  loop : Option Nat → XCode → A → H → CR
  yield : Nat → List AV → H → OR

def rMv (x : XO) (a : A) (h : H) : OR := ofO (getX x a) h
def rPick (c x y : XO) (a : A) (h : H) : OR := match getX c a with
  | some (.bool true) => ofO (getX x a) h
  | some (.bool false) => ofO (getX y a) h
  | _ => .fail
def rNew (cs : List AV) (e : TypeId) (_ : A) (h : H) : OR := .val (.ptr h.next 0) (h.new (.cells cs e false false))
def rBox (e : TypeId) (x : XO) (a : A) (h : H) : OR := match getX x a with
  | some v => (match v.cells? with | some cs => .val (.ptr h.next 0) (h.new (.cells cs e false false)) | none => .fail)
  | none => .fail
def rBuild (z : List AV) (ps : List (Nat × Nat × XO)) (a : A) (h : H) : OR := match getParts a ps with
  | some l => (match fillL l z with | some cs => .val (.agg cs) h | none => .fail)
  | none => .fail
def rBuildS (e : TypeId) (len : Nat) (z : List AV) (ps : List (Nat × Nat × XO)) (a : A) (h : H) : OR := match getParts a ps with
  | some l => (match fillL l z with | some cs => .val (.slice h.next 0 len len true) (h.new (.cells cs e false false)) | none => .fail)
  | none => .fail
def rLd (g : Bool) (n : Nat) (x : XO) (a : A) (h : H) : OR := match getX x a with
  | some (.ptr b off) => ofO (loadAt h g n b off) h
  | _ => .fail
def rSt (n : Nat) (x y : XO) (a : A) (h : H) : OR := match getX x a with
  | some (.ptr b off) => (match getX y a with
    | some v => (match storeAt h n b off v with | some h' => .val .undef h' | none => .fail)
    | none => .fail)
  | _ => .fail
def rNilc (x : XO) (a : A) (h : H) : OR := match getX x a with
  | some (.ptr b off) => .val (.ptr b off) h
  | some (.func (.func f) fs cs) => .val (.func (.func f) fs cs) h
  | some (.iface t v) => .val (.iface t v) h
  | _ => .fail
def rBin (op : BinOp) (k : EK) (lit : Bool) (x y : XO) (a : A) (h : H) : OR := match getX x a with
  | some u => (match getX y a with | some v => ofO (evBin op k lit u v) h | none => .fail)
  | none => .fail
def rUn (op : UnOp) (x : XO) (a : A) (h : H) : OR := match getX x a with | some v => ofO (evUn op v) h | none => .fail
def rConv (k : IntKind) (x : XO) (a : A) (h : H) : OR := match getX x a with
  | some (.int i n) => (match symB n with
    | true => (match symConv i k n with | some z => .val (.int k z) h | none => .fail)
    | false => ofO (mkInt k n) h)
  | _ => .fail
def rConvS (x : XO) (a : A) (h : H) : OR := match getX x a with | some (.str l c) => .val (.str l c) h | _ => .fail
/-- the text that a row of bytes spells -/
def codeC : List AV → Option Nat
  | [] => some 0
  | .int .u8 (.ofNat m) :: l => (match codeC l with | some c => some (Nat.add (Nat.mod m 256) (Nat.mul 256 c)) | none => none)
  | _ => none
def rConvB (x : XO) (a : A) (h : H) : OR := match getX x a with
  | some .nilslice => .val (.str 0 0) h
  | some (.slice b off n _ _) => (match loadAt h true n b off with
    | some (.agg cs) => (match codeC cs with | some c => frc c fun c => .val (.str n c) h | none => .fail)
    | _ => .fail)
  | _ => .fail
def rMkI (t : TypeId) (x : XO) (a : A) (h : H) : OR := match getX x a with | some v => .val (.iface t v) h | none => .fail
def rMkF (f : FuncId) (fs cs : List XO) (a : A) (h : H) : OR := match getXs a fs, getXs a cs with
  | some l, some m => .val (.func (.func f) l m) h
  | _, _ => .fail
def rMkM (_ : A) (h : H) : OR := .val (.map h.next) (h.new (.map [] 0))
def rMkS (e sz by_ : Nat) (z : List AV) (l c : XO) (a : A) (h : H) : OR := match getX l a, getX c a with
  | some (.int _ (.ofNat n)), some (.int _ (.ofNat m)) => (match Nat.ble n m && Nat.blt m 10000 && Nat.blt (Nat.mul m by_) 1000000 && Nat.blt (Nat.mul m sz) 100000 with
    | true => .val (.slice h.next 0 n m true) (h.new (.cells (repL m z) e false false))
    | false => .fail)
  | _, _ => .fail
def rSlStr (x : XO) (lo hi : Option XO) (a : A) (h : H) : OR := match getX x a with
  | some (.str len c) => (match getOpt a lo, getOpt a hi with
    | some l, some m => (match bounds len len l m with
      | some (p, q) => frc (Nat.sub q p) fun n => frc (Nat.mod (Nat.div c (Nat.pow 256 p)) (Nat.pow 256 n)) fun c => .val (.str n c) h
      | none => .fail)
    | _, _ => .fail)
  | _ => .fail
def rSlSl (sz : Nat) (x : XO) (lo hi : Option XO) (a : A) (h : H) : OR := match getX x a, getOpt a lo, getOpt a hi with
  | some .nilslice, some l, some m => (match bounds 0 0 l m with | some _ => .val .nilslice h | none => .fail)
  | some (.slice b off len cap ex), some l, some m => (match bounds len cap l m with
    | some (p, q) => (match p with
      | 0 => .val (.slice b off q cap ex) h
      | _ => (match Nat.beq p cap with
        | true => (match ex with | true => .val (.slice b off (Nat.sub q p) 0 true) h | false => .fail)
        | false => .val (.slice b (Nat.add off (Nat.mul p sz)) (Nat.sub q p) (Nat.sub cap p) ex) h))
    | none => .fail)
  | _, _, _ => .fail
def rSlArr (n sz : Nat) (x : XO) (lo hi : Option XO) (a : A) (h : H) : OR := match getX x a, getOpt a lo, getOpt a hi with
  | some (.ptr b off), some l, some m => (match bounds n n l m with
    | some (p, q) => (match p with
      | 0 => .val (.slice b off q n true) h
      | _ => (match Nat.beq p n with
        | true => .val (.slice b off (Nat.sub q p) 0 true) h
        | false => .val (.slice b (Nat.add off (Nat.mul p sz)) (Nat.sub q p) (Nat.sub n p) true) h))
    | none => .fail)
  | _, _, _ => .fail
def rFa (o : Nat) (x : XO) (a : A) (h : H) : OR := match getX x a with
  | some (.ptr b off) => frc (Nat.add off o) fun n => .val (.ptr b n) h
  | _ => .fail
def rFld (g : Bool) (o n : Nat) (x : XO) (a : A) (h : H) : OR := match getX x a with
  | some (.agg cs) => (match g with
    | true => (match dropL o cs with | some l => (match takeL n l with | some r => .val (.agg r) h | none => .fail) | none => .fail)
    | false => ofO (nthV cs o) h)
  | _ => .fail
def rIa (sz : Nat) (x i : XO) (a : A) (h : H) : OR := match getX x a with
  | some (.slice b off len _ _) => (match getX i a with
    | some (.int _ (.ofNat n)) => (match Nat.blt n len with
      | true => frc (Nat.add off (Nat.mul n sz)) fun m => .val (.ptr b m) h
      | false => .fail)
    | _ => .fail)
  | _ => .fail
def rIaArr (len sz : Nat) (x i : XO) (a : A) (h : H) : OR := match getX x a with
  | some (.ptr b off) => (match getX i a with
    | some (.int _ (.ofNat n)) => (match Nat.blt n len with
      | true => frc (Nat.add off (Nat.mul n sz)) fun m => .val (.ptr b m) h
      | false => .fail)
    | _ => .fail)
  | _ => .fail
def rIxS (x i : XO) (a : A) (h : H) : OR := match getX x a with
  | some (.str len c) => (match getX i a with
    | some (.int _ (.ofNat n)) => (match Nat.blt n len with
      | true => ofO (mkNat .u8 (Nat.mod (Nat.div c (Nat.pow 256 n)) 256)) h
      | false => .fail)
    | _ => .fail)
  | _ => .fail
def rIxA (len : Nat) (x i : XO) (a : A) (h : H) : OR := match getX x a with
  | some (.agg cs) => (match getX i a with
    | some (.int _ (.ofNat n)) => (match Nat.blt n len with | true => ofO (nthV cs n) h | false => .fail)
    | _ => .fail)
  | _ => .fail
def mapEs (kt : KT) (m : AV) (h : H) : Option (List (AV × AV × Nat)) := match m with
  | .nilmap => some []
  | .map b => (match h.get b with | some (.map es _) => some es | some (.mapU es true) => (match kt with | .two => none | _ => some es) | _ => none)
  | _ => none
def rLook (kt : KT) (z : AV) (ok : Bool) (x i : XO) (a : A) (h : H) : OR := match getX x a, getX i a with
  | some m, some k => (match plainKey kt k, mapEs kt m h with
    | true, some es => (match findK k es with
      | some (some v) => .val (match ok with | true => .tuple [v, .bool true] | false => v) h
      | some none => .val (match ok with | true => .tuple [z, .bool false] | false => z) h
      | none => .fail)
    | _, _ => .fail)
  | _, _ => .fail
def rUpd (kt : KT) (m k v : XO) (a : A) (h : H) : OR := match getX m a, getX k a, getX v a with
  | some (.map b), some key, some val => (match plainKey kt key, h.get b with
    | true, some (.map es clock) => (match setK key val es clock with
      | some (es', c') => .val .undef (h.put b (.map es' c'))
      | none => .fail)
    | _, _ => .fail)
  | _, _, _ => .fail
def rExt (x : XO) (i : Nat) (a : A) (h : H) : OR := match getX x a with | some (.tuple vs) => ofO (nthV vs i) h | _ => .fail
def rTa (t : TypeId) (z : AV) (ok : Bool) (x : XO) (a : A) (h : H) : OR := match getX x a with
  | some (.iface u v) => (match Nat.beq u t with
    | true => .val (match ok with | true => .tuple [v, .bool true] | false => v) h
    | false => (match ok with | true => .val (.tuple [z, .bool false]) h | false => .fail))
  | some .niliface => (match ok with | true => .val (.tuple [z, .bool false]) h | false => .fail)
  | _ => .fail
def rPan (x : XO) (a : A) (h : H) : OR := match getX x a with
  | some (.iface t v) => .pan [⟨.iface t v, false⟩] h
  | _ => .fail
def rLen (k : LK) (x : XO) (a : A) (h : H) : OR := match getX x a with | some v => ofO (evLen k v h) h | none => .fail
def rLenN (n : Nat) (_ : A) (h : H) : OR := ofO (mkNat .i64 n) h
def rCapS (x : XO) (a : A) (h : H) : OR := match getX x a with
  | some .nilslice => .val (.int .i64 (.ofNat 0)) h
  | some (.slice _ _ _ cap true) => ofO (mkNat .i64 cap) h
  | _ => .fail
def rApp (e sz by_ : Nat) (x y : XO) (a : A) (h : H) : OR := match getX x a, getX y a with
  | some s, some v => (match evAppend e sz by_ h s v with | some (r, h') => .val r h' | none => .fail)
  | _, _ => .fail
/-- 'append(nil, make(.., n)...)' -/
def rAppZ (e sz by_ : Nat) (z : List AV) (x y : XO) (a : A) (h : H) : OR := match getX x a, getX y a with
  | some .nilslice, some (.int .i64 (.ofNat n)) => (match Nat.blt 0 (Nat.mul n sz) && Nat.blt (Nat.mul n by_) 1000000000 && Nat.blt n 1000000 with
    | true => .val (.slice h.next 0 n n false) (h.new (.cells (repL n z) e true false))
    | false => .fail)
  | _, _ => .fail
def rMax (x y : XO) (a : A) (h : H) : OR := match getX x a, getX y a with
  | some (.int k p), some (.int j q) => (match ikeq k j && !(symB p || symB q) with | true => .val (.int k (match ilt p q with | true => q | false => p)) h | false => .fail)
  | _, _ => .fail
def rMin (x y : XO) (a : A) (h : H) : OR := match getX x a, getX y a with
  | some (.int k p), some (.int j q) => (match ikeq k j && !(symB p || symB q) with | true => .val (.int k (match ilt q p with | true => q | false => p)) h | false => .fail)
  | _, _ => .fail
def rRngS (x : XO) (a : A) (h : H) : OR := match getX x a with
  | some (.str l c) => .val (.ptr h.next 0) (h.new (.siter l c 0))
  | _ => .fail
/-- the next sign of a text, of one byte; else none is said -/
def rNextS (x : XO) (a : A) (h : H) : OR := match getX x a with
  | some (.ptr b 0) => (match h.get b with
    | some (.siter l c pos) => (match Nat.blt pos l with
      | true => (match Nat.blt (Nat.mod (Nat.div c (Nat.pow 256 pos)) 256) 128 with
        | true => frc (Nat.mod (Nat.div c (Nat.pow 256 pos)) 256) fun m => frc pos fun p => .val (.tuple [.bool true, .int .i64 (.ofNat p), .int .i32 (.ofNat m)]) (h.put b (.siter l c (Nat.succ p)))
        | false => .fail)
      | false => .val (.tuple [.bool false]) h)
    | _ => .fail)
  | _ => .fail
def rCall (f : XO) (args : List XO) (r : Rec) (a : A) (h : H) : OR := match getX f a, getXs a args with
  | some (.func (.func g) fs cs), some l => r.call g (fs ++ (l ++ cs)) h
  | some (.yield y), some l => r.yield y l h
  | _, _ => .fail
def rCallF (f : FuncId) (args : List XO) (r : Rec) (a : A) (h : H) : OR := match getXs a args with
  | some l => r.call f l h
  | none => .fail

def rDfr (f : XO) (args : List XO) (a : A) (h : H) : OR := match getX f a, getXs a args with
  | some (.func (.func g) fs cs), some l => .dfr (.call g (fs ++ (l ++ cs))) h
  | _, _ => .fail

/-- one operation -/
def runOp (x : XOp) : Rec → A → H → OR :=
  XOp.rec (motive := fun _ => Rec → A → H → OR)
    (fun x _ => rMv x) (fun c x y _ => rPick c x y) (fun cs e _ => rNew cs e) (fun e x _ => rBox e x) (fun z ps _ => rBuild z ps) (fun e l z ps _ => rBuildS e l z ps)
    (fun g n x _ => rLd g n x) (fun n x y _ => rSt n x y) (fun x _ => rNilc x) (fun op k l x y _ => rBin op k l x y) (fun op x _ => rUn op x) (fun k x _ => rConv k x) (fun x _ => rConvS x) (fun x _ => rConvB x)
    (fun t x _ => rMkI t x) (fun f fs cs _ => rMkF f fs cs) (fun _ => rMkM) (fun e sz by_ z l c _ => rMkS e sz by_ z l c)
    (fun x lo hi _ => rSlStr x lo hi) (fun sz x lo hi _ => rSlSl sz x lo hi) (fun n sz x lo hi _ => rSlArr n sz x lo hi)
    (fun o x _ => rFa o x) (fun g o n x _ => rFld g o n x) (fun sz x i _ => rIa sz x i) (fun len sz x i _ => rIaArr len sz x i) (fun x i _ => rIxS x i) (fun len x i _ => rIxA len x i)
    (fun k z ok x i _ => rLook k z ok x i) (fun i m k v _ => rUpd i m k v) (fun i m k v _ => rUpd i m k v) (fun x i _ => rExt x i) (fun t z ok x _ => rTa t z ok x) (fun x _ => rPan x)
    (fun k x _ => rLen k x) (fun n _ => rLenN n) (fun x _ => rCapS x) (fun e sz by_ x y _ => rApp e sz by_ x y) (fun e sz by_ z x y _ => rAppZ e sz by_ z x y) (fun x y _ => rMax x y) (fun x y _ => rMin x y) (fun x _ => rRngS x) (fun x _ => rNextS x)
    (fun f args => rCall f args) (fun f args => rCallF f args) (fun f args _ => rDfr f args) (fun _ _ _ => .fail) x

/-- is it wanted? none: it can't be said -/
def wantedX (g : Option (XO × Bool)) (a : A) : Option Bool := match g with
  | none => some true
  | some (x, b) => match getX x a with
    | some (.bool c) => some (match b with | true => c | false => !c)
    | some (.tuple []) => some false
    | _ => none

/-- what is done with an operation's result -/
def orK (rd : Option Nat) (d : XD) (a : A) (k : A → H → CR) (x : OR) : CR :=
  OR.rec (motive := fun _ => CR) .fail (fun v h => k (putX d v a) h) (fun c h => .pan c a h)
    (fun e h => match rd, d with | none, .no => k ⟨a.vars, a.log, e :: a.defers⟩ h | _, _ => .fail) x
def goX (r : Rec) (rd : Option Nat) (op : XOp) (d : XD) (k : A → H → CR) (a : A) (h : H) : CR := orK rd d a k (runOp op r a h)
def guardX (r : Rec) (rd : Option Nat) (op : XOp) (d : XD) (k : A → H → CR) (g : XO × Bool) (a : A) (h : H) : CR := match wantedX (some g) a with
  | some true => goX r rd op d k a h
  | some false => k (putX d .undef a) h
  | none => .fail
def runOps (r : Rec) (rd : Option Nat) (l : List XOper) : A → H → CR :=
  List.rec (motive := fun _ => A → H → CR) (fun a h => .normal a h)
    (fun o _ k => XOper.rec (motive := fun _ => A → H → CR) (fun g op d => Option.rec (motive := fun _ => A → H → CR) (goX r rd op d k) (guardX r rd op d k) g) o) l

mutual
def AV.beq : AV → AV → Bool
  | .bool a, .bool b => a == b
  | .int j a, .int k b => ikeq j k && ieq a b
  | .str l c, .str m d => Nat.beq l m && Nat.beq c d
  | .ptr a b, .ptr c d => Nat.beq a c && Nat.beq b d
  | .nilptr, .nilptr | .nilslice, .nilslice | .nilmap, .nilmap | .nilfunc, .nilfunc | .niliface, .niliface => true
  | .slice a b c d e, .slice f g i j k => Nat.beq a f && Nat.beq b g && Nat.beq c i && Nat.beq d j && e == k
  | .map a, .map b => Nat.beq a b
  | .yield a, .yield b => Nat.beq a b
  | .iface t v, .iface u w => Nat.beq t u && AV.beq v w
  | .agg a, .agg b | .tuple a, .tuple b => AV.beqL a b
  | .func (.func f) a b, .func (.func g) c d => Nat.beq f g && AV.beqL a c && AV.beqL b d
  | _, _ => false
def AV.beqL : List AV → List AV → Bool
  | [], [] => true
  | x :: xs, y :: ys => AV.beq x y && AV.beqL xs ys
  | _, _ => false
end

def getD (d : XD) (a : A) : Option AV := match d with
  | .no => none
  | .v t => a.vars.get t
  | .l t => findLog t a.log

/-- the looking operations still yield what they yielded -/
def recheck (r : Rec) (a : A) (h : H) : List XOper → Bool
  | [] => true
  | o :: os => (match wantedX o.guard a with
    | some true => (match runOp o.op r a h, getD o.dst a with | .val v _, some u => AV.beq v u | _, _ => false)
    | some false => true
    | none => false) && recheck r a h os

def Tr.del {α : Type} : Tr α → Nat → Tr α
  | .nil, _ => .nil
  | .node l v r, n => match n with
    | 0 => .node l none r
    | m + 1 => match Nat.beq (Nat.mod m 2) 0 with
      | true => .node (l.del (Nat.div m 2)) v r
      | false => .node l v (r.del (Nat.div m 2))
def delAll : List Nat → Tr AV → Tr AV
  | [], t => t
  | i :: is, t => delAll is (t.del i)

def twoOk (t : Option (XO × XO)) (a : A) : Bool := match t with
  | none => true
  | some (x, y) => (match getX x a, getX y a with | some (.ptr b _), some (.ptr c _) => !Nat.beq b c | _, _ => false)

/-- in a region of kind 'u' a new map's entries come in whatever order; they are not looked at until all of them are there -/
def runOpU (u : Bool) (o : XOp) (r : Rec) (a : A) (h : H) : OR := match u with
  | false => runOp o r a h
  | true => (match o with
    | .mkM => .val (.map h.next) (h.new (.mapU [] false))
    | .ins kt m k v => (match getX m a, getX k a, getX v a with
      | some (.map _), some key, some _ => (match plainKey kt key, kt with | true, .int => .val .undef h | true, .str => .val .undef h | _, _ => .fail)
      | _, _, _ => .fail)
    | _ => runOp o r a h)
/-- the region's map, and what has come into it -/
abbrev UA := Option (Nat × List (AV × AV × Nat))
def accU (u : Bool) (o : XOp) (a : A) (h : H) (acc : UA) : Option UA := match u with
  | false => some acc
  | true => (match o with
    | .mkM => (match acc with | none => some (some (h.next, [])) | some _ => none)
    | .ins _ m k v => (match acc, getX m a, getX k a, getX v a with
      | some (M, l), some (.map b), some key, some val => (match Nat.beq b M, findK key l with
        | true, some none => some (some (M, (key, val, 0) :: l))
        | _, _ => none)
      | _, _, _, _ => none)
    | _ => some acc)
def chkU (acc : UA) (h : H) : Bool := match acc with
  | none => true
  | some (M, _) => (match h.get M with | some (.mapU [] false) => true | _ => false)
def finU (u : Bool) (acc : UA) (a : A) (h : H) : CR := match u with
  | false => .normal a h
  | true => (match acc with
    | some (M, e :: l) => .normal a (h.put M (.mapU (e :: l) true))
    | _ => .fail)

def runDraw (r : Rec) (qs : List Nat) (u : Bool) : List XDr → UA → A → H → CR
  | [], acc, a, h => finU u acc a h
  | d :: ds, acc, a, h => match wantedX d.o.guard a with
    | some false => runDraw r qs u ds acc (putX d.o.dst .undef a) h
    | some true => (match twoOk d.two a with
      | true => (match runOpU u d.o.op r a h with
      | .val v h' => (match accU u d.o.op a h acc with
        | some acc' => (match chkU acc' h' with
          | true => (match d.again with
            | [] => runDraw r qs u ds acc' (putX d.o.dst v a) h'
            | again => (match recheck r (putX d.o.dst v a) h' again with
              | true => runDraw r qs u ds acc' (putX d.o.dst v a) h'
              | false => .fail))
          | false => .fail)
        | none => .fail)
      | .pan c h' => (match d.quiet with | true => .fail | false => .pan c ⟨delAll qs a.vars, [], a.defers⟩ h')
      | _ => .fail)
      | false => .fail)
    | none => .fail

def rSeq (f g : A → H → CR) (a : A) (h : H) : CR := match f a h with
  | .normal a' h' => g a' h'
  | .fail => .fail
  | .exit id a' h' => .exit id a' h'
  | .goto l a' h' => .goto l a' h'
  | .ret a' h' => .ret a' h'
  | .pan c a' h' => .pan c a' h'
def rCond (c : XO) (f g : A → H → CR) (a : A) (h : H) : CR := match getX c a with
  | some (.bool true) => f a h
  | some (.bool false) => g a h
  | _ => .fail
def rBlock (id : Nat) (f : A → H → CR) (a : A) (h : H) : CR := match f a h with
  | .exit j a' h' => (match Nat.beq j id with | true => .normal a' h' | false => .exit j a' h')
  | .normal a' h' => .normal a' h'
  | .fail => .fail
  | .goto l a' h' => .goto l a' h'
  | .ret a' h' => .ret a' h'
  | .pan c a' h' => .pan c a' h'
def rScope (f : A → H → CR) (a : A) (h : H) : CR := match f a h with
  | .goto _ _ _ => .fail
  | .exit j a' h' => .exit j a' h'
  | .normal a' h' => .normal a' h'
  | .fail => .fail
  | .ret a' h' => .ret a' h'
  | .pan c a' h' => .pan c a' h'
/-- where a loop over a function begins: the block of the deferred calls, the frame, the memory -/
def rangeStart (rd : Option Nat) (a : A) (h : H) : Option (Nat × A × H) := match rd with
  | none => some (h.next, ⟨a.vars, a.log, .mark h.next :: a.defers⟩, h.new (.deferred true))
  | some l => (match h.get l with | some (.loop _ _ _ _ _ _ _ _ d) => some (d, a, h) | _ => none)
def rRange (f : XO) (n vm : Nat) (ps : List Tmp) (asg body : Code) (r : Rec) (rd : Option Nat) (a : A) (h : H) : CR := match getX f a with
  | some (.func (.func g) fs cs) => (match rangeStart rd a h with
    | some (d, a1, h1) => (match r.call g (fs ++ (.yield h1.next :: cs)) (h1.new (.loop .ready none a.vars vm n ps asg body d)) with
      | .val _ h2 => (match h2.get h1.next with
        | some (.loop st pend t vm n ps' asg' body' d') => (match st with
          | .busy => .fail
          | _ => (match pend with
            | none => .normal a1 (h2.put h1.next (.loop .exhausted pend t vm n ps' asg' body' d'))
            | some .ret => .ret a1 (h2.put h1.next (.loop .exhausted pend t vm n ps' asg' body' d'))
            | some (.exit id) => .exit id a1 (h2.put h1.next (.loop .exhausted pend t vm n ps' asg' body' d'))
            | some _ => .fail))
        | _ => .fail)
      | .pan c h2 => .pan c a1 h2
      | _ => .fail)
    | none => .fail)
  | _ => .fail

def runCode (r : Rec) (rd : Option Nat) (c : XCode) : A → H → CR :=
  XCode.rec (motive := fun _ => A → H → CR)
    (fun a h => .normal a h) (fun l a h => runOps r rd l ⟨a.vars, [], a.defers⟩ h) (fun u l qs a h => runDraw r qs u l none ⟨a.vars, [], a.defers⟩ h)
    (fun _ _ f g => rSeq f g) (fun c _ _ f g => rCond c f g) (fun id _ f => rBlock id f) (fun c _ => r.loop rd c) (fun _ f => rScope f)
    (fun f n vm ps asg body => rRange f n vm ps asg body r rd) (fun id a h => .exit id a h) (fun l a h => .goto l a h) (fun a h => .ret a h) (fun _ _ => .fail) c

/-- the variables at a function's start: the arguments -/
def mkVars : List AV → Nat → Tr AV → Tr AV
  | [], _, t => t
  | v :: vs, i, t => mkVars vs (Nat.succ i) (t.put i v)

def evResults (P : Program) (vm : Nat) (a : A) (h : H) : List ResultVar → Option (List AV)
  | [] => some []
  | .tmp t :: rs => (match bit vm t, a.vars.get t, evResults P vm a h rs with | true, some v, some l => some (v :: l) | _, _, _ => none)
  | .cell x t :: rs => (match bit vm x, a.vars.get x, aggT P t, szT P t with
    | true, some (.ptr b off), some g, some n => (match loadAt h g n b off, evResults P vm a h rs with | some v, some l => some (v :: l) | _, _ => none)
    | _, _, _, _ => none)

def evReturn (P : Program) (vm : Nat) (rs : List ResultVar) (a : A) (h : H) : OR := match evResults P vm a h rs with
  | some [v] => .val v h
  | some l => .val (.tuple l) h
  | none => .fail

/-- a function's parts -/
structure XFn where
  n : Nat
  vm : Nat
  results : List ResultVar
  code : Code
  deriving Inhabited
def fnOf (P : Program) (f : FuncId) : Option XFn := match P.funcs[f]? with
  | some fn => (match fn.body with
    | some c => some ⟨fn.ntmps, frc (codeMask c (resMask fn.results.toList (Nat.sub (Nat.pow 2 (Nat.add fn.params.size fn.nfree)) 1))) fun m => m, fn.results.toList, c⟩
    | none => none)
  | none => none

/-- what a deferred function gets from recover, and how its frame's caller goes on -/
def recovered : Option (List PE) → Option (AV × Option (List PE))
  | none => some (.niliface, none)
  | some (⟨v, false⟩ :: older) => some (v, some (⟨v, true⟩ :: older))
  | some _ => none
def settled : Option (List PE) → Option (Option (List PE))
  | none => some none
  | some (⟨_, true⟩ :: []) => some none
  | some (⟨_, true⟩ :: _) => none
  | m => some m

/-- a deferred call in a frame that is leaving: its body begins with a region that asks recover and keeps what it gets -/
def evDeferred (P : Program) (r : Rec) (d : ADef) (mode : Option (List PE)) (h : H) : Option (Option (List PE) × H) := match d with
  | .mark m => (match h.get m with | some (.deferred true) => some (mode, h.put m (.deferred false)) | _ => none)
  | .call g args => (match fnOf P g with
    | some ⟨n, vm, rs, .seq (.region _ ops false) rest⟩ => (match ops.toList, recovered mode with
      | [⟨some x, .call ⟨.builtin .recover, _, _⟩, _, _, _, none⟩, ⟨some y, .assign (.tmp z), _, _, _, none⟩], some (v, mode') =>
        (match Nat.beq x z && !bit vm x && bit vm y && Nat.blt x n && Nat.blt y n && Nat.ble args.length n with
        | true => (match runCode r none (cCode P n vm rest) ⟨(mkVars args 0 .nil).put y v, [(x, v)], []⟩ h with
          | .normal a3 h3 => (match a3.defers, evResults P vm a3 h3 rs, settled mode' with | [], some _, some m => some (m, h3) | _, _, _ => none)
          | .ret a3 h3 => (match a3.defers, evResults P vm a3 h3 rs, settled mode' with | [], some _, some m => some (m, h3) | _, _, _ => none)
          | _ => none)
        | false => none)
      | _, _ => none)
    | _ => none)

def evLeave (P : Program) (r : Rec) (vm : Nat) (rs : List ResultVar) (a : A) : List ADef → Option (List PE) → H → OR
  | [], none, h => evReturn P vm rs a h
  | [], some c, h => .pan c h
  | d :: ds, m, h => match evDeferred P r d m h with
    | some (m', h') => evLeave P r vm rs a ds m' h'
    | none => .fail

def evCall (P : Program) (r : Rec) (f : FuncId) (args : List AV) (h : H) : OR := match fnOf P f with
  | some ⟨n, vm, rs, code⟩ => (match Nat.ble args.length n with
    | true => (match runCode r none (cCode P n vm code) ⟨mkVars args 0 .nil, [], []⟩ h with
      | .normal a h' => evLeave P r vm rs a a.defers none h'
      | .ret a h' => evLeave P r vm rs a a.defers none h'
      | .pan ch a h' => evLeave P r vm rs a a.defers (some ch) h'
      | _ => .fail)
    | false => .fail)
  | none => .fail

def evLoop (r : Rec) (rd : Option Nat) (c : XCode) (a : A) (h : H) : CR := match runCode r rd c a h with
  | .normal a' h' => r.loop rd c a' h'
  | .fail => .fail
  | .exit id a' h' => .exit id a' h'
  | .goto l a' h' => .goto l a' h'
  | .ret a' h' => .ret a' h'
  | .pan c a' h' => .pan c a' h'

def setParams : List Tmp → List AV → Nat → Tr AV → Option (Tr AV)
  | [], [], _, t => some t
  | p :: ps, v :: vs, n, t => (match Nat.blt p n with | true => setParams ps vs n (t.put p v) | false => none)
  | _, _, _, _ => none

/-- the end of a round -/
def endRound (l : Nat) (j : Option Code) (a : A) (h : H) : OR := match a.defers, h.get l with
  | [], some (.loop _ _ t vm n ps asg body d) => .val (.bool (match j with | none => true | some _ => false)) (h.put l (.loop (match j with | none => .ready | some _ => .done) j t vm n ps asg body d))
  | _, _ => .fail

/-- a round of a loop over a function -/
def evYield (P : Program) (r : Rec) (l : Nat) (args : List AV) (h : H) : OR := match h.get l with
  | some (.loop .ready _ t vm n ps asg body _) => (match setParams ps args n t with
    | some t1 => (match runCode r (some l) (cCode P n vm asg) ⟨t1, [], []⟩ h with
      | .normal a1 h1 => (match h1.get l with
        | some (.loop .ready pend t2 vm2 n2 ps2 asg2 body2 d2) => (match runCode r (some l) (cCode P n vm body) a1 (h1.put l (.loop .busy pend t2 vm2 n2 ps2 asg2 body2 d2)) with
          | .normal a2 h2 => endRound l none a2 h2
          | .ret a2 h2 => endRound l (some .ret) a2 h2
          | .exit id a2 h2 => endRound l (some (.exit id)) a2 h2
          | _ => .fail)
        | _ => .fail)
      | _ => .fail)
    | none => .fail)
  | _ => .fail

/-- a call's answer that is known beforehand: a value without addresses; a new row of such values -/
inductive Ans : Type where
  | val (v : AV)
  | row (cs : List AV) (e : TypeId) (n : Nat)
  | set (n b off : Nat) (v res : AV)
  deriving Inhabited
def ansRun (x : Ans) (h : H) : OR := match x with
  | .val v => .val v h
  | .set n b off v res => (match storeAt h n b off v with | some h' => .val res h' | none => .fail)
  | .row cs e n => .val (.slice h.next 0 n n true) (h.new (.cells cs e false false))
abbrev Orc := FuncId → List AV → Option Ans
def noOrc : Orc := fun _ _ => none
def callO (P : Program) (O : Orc) (r : Rec) (f : FuncId) (args : List AV) (h : H) : OR := match O f args with
  | some x => ansRun x h
  | none => evCall P r f args h

def fns (P : Program) (O : Orc) (n : Nat) : Rec :=
  Nat.rec (motive := fun _ => Rec) ⟨fun _ _ _ => .fail, fun _ _ _ _ => .fail, fun _ _ _ => .fail⟩ (fun _ r => ⟨callO P O r, evLoop r, evYield P r⟩) n

end
end Go.Ev
