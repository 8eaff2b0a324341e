/- The texts of the law ScopePatterns, by their items, and what is known of calls beforehand; the closed run asked for. No condition. -/
import Derived.Test.YtgpibpkplhlihaaGreatDoorVpT
namespace Go.Proofs.YtgpibpkplhlihaaGreatDoor
open Go Go.Ev
set_option linter.unusedSectionVars false
set_option linter.unusedVariables false
def itV0 : List (Nat × Nat) := [(3, 2895990), (1, 44), (5, 191078889083), (12, 13768919546206716974138548603), (7, 12487553801673563), (7, 12493889090891894), (20, 253987408743601097996591524024169088556428712827)]
def itV1 : List (Nat × Nat) := [(3, 2896246), (1, 44), (5, 191078954619), (12, 13768919546206718073650176379), (7, 12487553818450779), (7, 12493889090892150), (20, 253987495855887029756838170666515335162800397179)]
def itV2 : List (Nat × Nat) := [(3, 2896502), (1, 44), (5, 191079020155), (12, 13768919546206719173161804155), (7, 12487553835227995), (7, 12493889090892406), (20, 253987582968172961517084817308861581769172081531)]
def itV3 : List (Nat × Nat) := [(3, 2896758), (1, 44), (5, 191079085691), (12, 13768919546206720272673431931), (7, 12487553852005211), (7, 12493889090892662), (20, 253987670080458893277331463951207828375543765883)]
def itV4 : List (Nat × Nat) := [(3, 2897014), (1, 44), (5, 191079151227), (12, 13768919546206721372185059707), (7, 12487553868782427), (7, 12493889090892918), (20, 253987757192744825037578110593554074981915450235)]
def itV5 : List (Nat × Nat) := [(3, 2897270), (1, 44), (5, 191079216763), (12, 13768919546206722471696687483), (7, 12487553885559643), (7, 12493889090893174), (20, 253987844305030756797824757235900321588287134587)]
def itV6 : List (Nat × Nat) := [(3, 2897526), (1, 44), (5, 191079282299), (12, 13768919546206723571208315259), (7, 12487553902336859), (7, 12493889090893430), (20, 253987931417316688558071403878246568194658818939)]
def itV7 : List (Nat × Nat) := [(3, 2897782), (1, 44), (5, 191079347835), (12, 13768919546206724670719943035), (7, 12487553919114075), (7, 12493889090893686), (20, 253988018529602620318318050520592814801030503291)]
def itV8 : List (Nat × Nat) := [(3, 2898038), (1, 44), (5, 191079413371), (12, 13768919546206725770231570811), (7, 12487553935891291), (7, 12493889090893942), (20, 253988105641888552078564697162939061407402187643)]
def itV9 : List (Nat × Nat) := [(3, 2898294), (1, 44), (5, 191079478907), (12, 13768919546206726869743198587), (7, 12487553952668507), (7, 12493889090894198), (20, 253988192754174483838811343805285308013773871995)]
def itV10 : List (Nat × Nat) := [(4, 741355894), (1, 44), (6, 48916191082107), (13, 3524843403828919469882094543227), (8, 3196813772072573787), (8, 3198435607268307318), (22, 16645317282168847250995189046772275109605595018451835)]
def itV11 : List (Nat × Nat) := [(4, 741421430), (1, 44), (6, 48916207859323), (13, 3524843403828919751357071253883), (8, 3196813776367541083), (8, 3198435607268372854), (22, 16645322991159618074834713279920875274069010194652027)]
def itV12 : List (Nat × Nat) := [(4, 741486966), (1, 44), (6, 48916224636539), (13, 3524843403828920032832047964539), (8, 3196813780662508379), (8, 3198435607268438390), (22, 16645328700150388898674237513069475438532425370852219)]
def itV13 : List (Nat × Nat) := [(4, 741552502), (1, 44), (6, 48916241413755), (13, 3524843403828920314307024675195), (8, 3196813784957475675), (8, 3198435607268503926), (22, 16645334409141159722513761746218075602995840547052411)]
def itV14 : List (Nat × Nat) := [(4, 741618038), (1, 44), (6, 48916258190971), (13, 3524843403828920595782001385851), (8, 3196813789252442971), (8, 3198435607268569462), (22, 16645340118131930546353285979366675767459255723252603)]
def itV15 : List (Nat × Nat) := [(4, 741683574), (1, 44), (6, 48916274968187), (13, 3524843403828920877256978096507), (8, 3196813793547410267), (8, 3198435607268634998), (22, 16645345827122701370192810212515275931922670899452795)]
def itV16 : List (Nat × Nat) := [(4, 741749110), (1, 44), (6, 48916291745403), (13, 3524843403828921158731954807163), (8, 3196813797842377563), (8, 3198435607268700534), (22, 16645351536113472194032334445663876096386086075652987)]
def itV17 : List (Nat × Nat) := [(4, 741814646), (1, 44), (6, 48916308522619), (13, 3524843403828921440206931517819), (8, 3196813802137344859), (8, 3198435607268766070), (22, 16645357245104243017871858678812476260849501251853179)]
def itV18 : List (Nat × Nat) := [(4, 741880182), (1, 44), (6, 48916325299835), (13, 3524843403828921721681908228475), (8, 3196813806432312155), (8, 3198435607268831606), (22, 16645362954095013841711382911961076425312916428053371)]
def itV19 : List (Nat × Nat) := [(4, 741945718), (1, 44), (6, 48916342077051), (13, 3524843403828922003156884939131), (8, 3196813810727279451), (8, 3198435607268897142), (22, 16645368663085784665550907145109676589776331604253563)]
def itV (j : Nat) : List (Nat × Nat) := match j with
  | 0 => itV0
  | 1 => itV1
  | 2 => itV2
  | 3 => itV3
  | 4 => itV4
  | 5 => itV5
  | 6 => itV6
  | 7 => itV7
  | 8 => itV8
  | 9 => itV9
  | 10 => itV10
  | 11 => itV11
  | 12 => itV12
  | 13 => itV13
  | 14 => itV14
  | 15 => itV15
  | 16 => itV16
  | 17 => itV17
  | 18 => itV18
  | _ => itV19
def repV (s : List Nat) : Nat → List (List Nat)
  | 0 => []
  | m + 1 => s :: repV s m
def itsV : Nat → Nat → List (List (Nat × Nat))
  | _, 0 => []
  | j, m + 1 => itV j :: itsV (Nat.succ j) m
abbrev cV : List Nat := [0, 1, 2, 3, 4, 5, 6]
noncomputable def polV2 : Tr (List (Nat × List Nat)) := (Tr.put (Tr.put (Tr.put (Tr.put (Tr.put (Tr.put .nil 22 [(0, [2008])]) 43 [(0, [])]) 44 [(1, [])]) 40 [(0, [])]) 59 [(0, [])]) 86 [(1, [])])
noncomputable def txV (m : Nat) : Tx := { on := true, head := (5, 391386522988), its := itsV 0 m, sep := (0, 0), tail := (9, 2234379081487502683694), ks := repV cV m, pol := polV2, lp := [(125, 0, [1], [0, 2, 3, 4])] }
noncomputable def orcV : Orc := orcOf3 (trOf anssI) (trT [(43, hpT)]) (trM [(44, tmJ jPlace (atK2 lexK)), (162, tmJ jLast (atK2 bindingK)), (41, tmJ jLast (atK2 isK)), (206, tmJ jLast (atK2 defaultedK)), (36, leftM), (37, depthM), (40, tokM 5), (59, tokM 1), (22, peekM)])
/-- a tree as the memory tells it: kind, text, beginning, kids -/
inductive AT where
  | node (k l c : Nat) (z : Int) (kids : List AT)
noncomputable def absL (g : List AV → Option AT) : Nat → List AV → Option (List AT)
  | 0, _ => some []
  | n + 1, xs => (match g xs, absL g n (xs.drop 5) with | some t, some l => some (t :: l) | _, _ => none)
/-- under one alternative of an item -/
noncomputable def absT (h : H) (j k : Nat) : Nat → List AV → Option AT
  | 0, _ => none
  | f + 1, cs => (match cs with
    | a :: b :: c :: d :: _ => (match resV [(j, k)] a, resV [(j, k)] b, resV [(j, k)] c, resV [(j, k)] d with
      | .int .i64 (.ofNat kd), .str l cd, ks, .int .i64 z => (match Nat.blt kd 1000 with
        | true => (match ks with
          | .nilslice => some (.node kd l cd z [])
          | .slice bl off n _ _ => (match h.get bl, Nat.ble n 1000 with
            | some (.cells xs _ _ false), true => (match absL (absT h j k f) n (xs.drop off) with
              | some kids => some (.node kd l cd z kids)
              | none => none)
            | _, _ => none)
          | _ => none)
        | false => none)
      | _, _, _, _ => none)
    | _ => none)
abbrev NmA := (Nat × Nat) × Int
noncomputable def catO (g : AT → Option (List NmA)) : List AT → Option (List NmA)
  | [] => some []
  | t :: l => (match g t, catO g l with | some a, some b => some (a ++ b) | _, _ => none)
noncomputable def lastA : List AT → Option AT
  | [] => none
  | t :: l => (match l with | [] => some t | _ :: _ => lastA l)
/-- the names that a node binds -/
noncomputable def bindsA : Nat → AT → Option (List NmA)
  | 0, _ => none
  | f + 1, .node kd l c z kids => (match Nat.beq kd 1 with
    | true => some [((l, c), z)]
    | false => (match Nat.beq kd 0 with
      | true => some []
      | false => (match memN kd [42, 43, 46] with
        | true => catO (bindsA f) kids
        | false => (match Nat.beq kd 45 with
          | true => (match kids with | t :: _ => bindsA f t | [] => none)
          | false => (match Nat.beq kd 44 with
            | true => (match lastA kids with | some t => bindsA f t | none => none)
            | false => none)))))
/-- the names are those that are wanted, one behind the other within the item -/
noncomputable def chkN (tx : Tx) (j k : Nat) : Nat → List NmA → List (Nat × Nat) → Bool
  | _, [], ps => (match ps with | [] => true | _ :: _ => false)
  | lo, x :: xs, ps => (match ps, plOf tx x.2, altP tx j k with
    | p :: ps, some (i, r), some a => (match eqP x.1 p && (Nat.beq i j && (Nat.ble lo r && Nat.blt r (Nat.add 32768 a.1))) with | true => chkN tx j k (Nat.succ r) xs ps | false => false)
    | _, _, _ => false)
def wantA (j k : Nat) : List (Nat × Nat) := match k with
  | 1 => []
  | 6 => [nmV j, (Nat.add 1 (nmV j).1, Nat.add 101 (Nat.mul 256 (nmV j).2))]
  | _ => [nmV j]
noncomputable def chkI (h : H) (j k : Nat) (cs : List AV) : Bool := match absT h j k 12 cs with
  | some t => (match bindsA 12 t with
    | some xs => chkN h.tx j k 32768 xs (wantA j k)
    | none => false)
  | none => false
noncomputable def chkKs (h : H) (j : Nat) (cs : List AV) : List Nat → Bool
  | [] => true
  | k :: ks => (match chkI h j k cs with | true => chkKs h j cs ks | false => false)
/-- the last: the rest, z -/
noncomputable def chkZ (h : H) (m : Nat) (cs : List AV) : Bool := match absT h m 0 12 cs with
  | some t => (match bindsA 12 t with
    | some [(p, z)] => (match plOf h.tx z with | some (i, r) => eqP p (1, 122) && (Nat.beq i m && Nat.ble 32768 r) | none => false)
    | _ => false)
  | none => false
noncomputable def chkIs (h : H) : Nat → Nat → List AV → Bool
  | 0, j, xs => chkZ h j xs
  | n + 1, j, xs => (match chkKs h j xs cV with | true => chkIs h n (Nat.succ j) (xs.drop 5) | false => false)
/-- a node: kind, text, beginning, how many kids, their cells -/
noncomputable def kidsA (h : H) (cs : List AV) : Option (Nat × (Nat × Nat) × Int × Nat × List AV) := match cs with
  | .int .i64 (.ofNat kd) :: .str l c :: .slice b off n _ _ :: .int .i64 z :: .int .i64 _ :: _ => (match Nat.blt kd 1000, Nat.ble n 1000, h.get b with
    | true, true, some (.cells xs _ _ false) => some (kd, (l, c), z, n, xs.drop off)
    | _, _, _ => none)
  | _ => none
/-- the declaration -/
noncomputable def chkD (m : Nat) (h : H) (cs : List AV) : Bool := match kidsA h cs with
  | some (60, p, _, 1, x1) => eqP p (3, 7628140) && (match kidsA h x1 with
    | some (61, _, _, 2, x2) => (match kidsA h x2, absT h m 0 12 (x2.drop 5) with
      | some (42, _, _, n, x3), some _ => Nat.beq n (Nat.succ m) && chkIs h m 0 x3
      | _, _ => false)
    | _ => false)
  | _ => false
/-- the text is read, and its tree is as it should be -/
noncomputable def chkP (m : Nat) : OR → Bool
  | .val (.tuple [.agg [.int .i64 (.ofNat 86), .str _ _, .slice b off 1 _ _, .int .i64 _, .int .i64 _], _, .int .i64 (.ofNat 0), .int .i64 (.ofNat 0)]) h => (match h.get b with
    | some (.cells xs _ _ false) => chkD m h (xs.drop off)
    | _ => false)
  | _ => false
/-- the text is read -/
noncomputable def runP (m : Nat) : Bool := chkP m ((fnsF Tryz.prog orcV 3000).call 12 [.pre (endI (txV m)), .bool false] (hInitT tabs (txV m) []))
end Go.Proofs.YtgpibpkplhlihaaGreatDoor
