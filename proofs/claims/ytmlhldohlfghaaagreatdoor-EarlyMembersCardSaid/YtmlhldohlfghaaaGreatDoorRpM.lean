/- The text of the law, by its items, and what is known of calls beforehand. No condition. -/
import Derived.Test.YtmlhldohlfghaaaGreatDoorTqM
import Derived.Test.YtmlhldohlfghaaaGreatDoorMemM
namespace Go.Proofs.YtmlhldohlfghaaaGreatDoor
open Go Go.Ev
set_option linter.unusedSectionVars false
def kindsM : List (Nat × Nat) := [(16, 166792804284693992115535083013223116643), (18, 10930933221595764277585486145423545004417831), (20, 716369639610889369503905035082438421533422806375), (17, 42698957896881661981576981251385117860650), (16, 78679528177445337466088551627438845795), (23, 12018688179594046904270827617065647204765266967586239603), (21, 183390627740370403924108415874747514689497939932275), (23, 5669457500499531364077487823896299662443033197268792435), (14, 2545056217722752088862664619422320), (20, 716369639610778870781640556128355744648320460635), (27, 51619872672178206010133247342150566229540717187980160314961392755), (2, 15224)]
noncomputable def polM : Tr (List (Nat × List Nat)) := (Tr.put (Tr.put (Tr.put (Tr.put (Tr.put (Tr.put (Tr.put (Tr.put (Tr.put (Tr.put (Tr.put .nil 38 [(0, [8])]) 68 [(0, [])]) 87 [(1, [])]) 91 [(0, [])]) 88 [(0, [])]) 111 [(1, [])]) 125 [(0, [])]) 126 [(0, [])]) 213 [(0, [1]), (0, [2])]) 15 [(0, [1, 0]), (0, [1, 1]), (0, [1, 2])]) 67 [(0, []), (0, [0])])
def itsOf (k : List (Nat × Nat)) : List (List Nat) → List (List (Nat × Nat))
  | [] => []
  | _ :: l => k :: itsOf k l
noncomputable def txM (ks : List (List Nat)) : Tx := { on := true, head := (9, 2271273695629203827811), its := itsOf kindsM ks, sep := (0, 0), tail := (1, 125), ks := ks, pol := polM }
noncomputable def orcC (v : Bool) (m : Nat) : Orc := orcOf3 (trOf anss) (trT [(68, hpT)]) (trM [(87, tmG jPlace lexTq), (213, tmG jLast itemTq), (15, tmG jLast visitTq), (17, leftM), (18, depthM), (66, membersM v m)])
/-- the law's last call, of the text, comes to true -/
noncomputable def runJ (fine : Bool) (m : Nat) : Bool := isV (.bool true) ((fnsF Tryz.prog (orcC fine m) 3000).call 6 [.pre (endI (txM (repP mC m))), .bool false, .bool fine, .int .i64 1211] (hInitT tabs (txM (repP mC m)) []))
end Go.Proofs.YtmlhldohlfghaaaGreatDoor
