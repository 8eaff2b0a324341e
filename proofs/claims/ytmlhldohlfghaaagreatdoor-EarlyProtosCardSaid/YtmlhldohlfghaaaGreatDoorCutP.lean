/- Templates: calls of the lexer, of an item of a list, of the look at an item, each in a small memory of its own. No condition. · The text of the law, by its items, and what is known of calls beforehand. No condition. · Patterns of what the items may be: at most one, at least one, at least two of a class; each row of items fits one. No condition. · A list of patterns, cut into pieces. No condition. -/
import Derived.Test.YtmlhldohlfghaaaGreatDoorTab
import Derived.Test.YtmlhldohlfghaaaGreatDoorEvTmG
namespace Go.Proofs.YtmlhldohlfghaaaGreatDoor
open Go Go.Ev
set_option linter.unusedSectionVars false
abbrev pl (ix r : Nat) : Int := symC 6 ix 0 r
def lexTq0 : Tq := ⟨(2, 31528), (2, 10621), (8, 3201905882093870943), 0, [.pre (pl 3 32770), .int .i64 (pl 1 32768), .int .i64 1], [], [], 64, [], [], 6, .tuple [.agg [.int .i64 1, .str 7 31371744425041759, .int .i64 (pl 1 32768), .int .i64 (pl 1 32775), .bool false], .nilslice, .int .i64 0, .int .i64 0]⟩
def lexTq1 : Tq := ⟨(2, 31528), (2, 10621), (13, 3501242877391677967236896677727), 0, [.pre (pl 3 32770), .int .i64 (pl 1 32768), .int .i64 1], [], [], 64, [], [], 6, .tuple [.agg [.int .i64 1, .str 9 1759317530180435599199, .int .i64 (pl 1 32768), .int .i64 (pl 1 32777), .bool false], .nilslice, .int .i64 0, .int .i64 0]⟩
def lexTq2 : Tq := ⟨(2, 31528), (2, 10621), (13, 3501242877391677967236896677727), 0, [.pre (pl 3 32770), .int .i64 (pl 1 32777), .int .i64 1], [], [], 64, [], [], 8, .tuple [.agg [.int .i64 5, .str 1 58, .int .i64 (pl 1 32777), .int .i64 (pl 1 32778), .bool false], .nilslice, .int .i64 0, .int .i64 0]⟩
def lexTq3 : Tq := ⟨(2, 31528), (2, 10621), (13, 3501242877391677967236896677727), 0, [.pre (pl 3 32770), .int .i64 (pl 1 32780), .int .i64 1], [], [], 64, [], [], 8, .tuple [.agg [.int .i64 5, .str 1 44, .int .i64 (pl 1 32780), .int .i64 (pl 1 32781), .bool false], .nilslice, .int .i64 0, .int .i64 0]⟩
def lexTq4 : Tq := ⟨(2, 31528), (2, 10621), (13, 3501242877391677967236896677727), 0, [.pre (pl 3 32770), .int .i64 (pl 1 32778), .int .i64 2], [], [], 64, [], [], 8, .tuple [.agg [.int .i64 3, .str 1 49, .int .i64 (pl 1 32779), .int .i64 (pl 1 32780), .bool false], .nilslice, .int .i64 0, .int .i64 0]⟩
def lexTq5 : Tq := ⟨(2, 31528), (2, 10621), (15, 229477735554644517526052909820632871), 0, [.pre (pl 3 32770), .int .i64 (pl 1 32768), .int .i64 1], [], [], 64, [], [], 34, .tuple [.agg [.int .i64 4, .str 11 47598492252696729326935847, .int .i64 (pl 1 32768), .int .i64 (pl 1 32779), .bool false], .nilslice, .int .i64 0, .int .i64 0]⟩
def lexTq6 : Tq := ⟨(2, 31528), (2, 10621), (15, 229477735554644517526052909820632871), 0, [.pre (pl 3 32770), .int .i64 (pl 1 32779), .int .i64 1], [], [], 64, [], [], 8, .tuple [.agg [.int .i64 5, .str 1 58, .int .i64 (pl 1 32779), .int .i64 (pl 1 32780), .bool false], .nilslice, .int .i64 0, .int .i64 0]⟩
def lexTq7 : Tq := ⟨(2, 31528), (2, 10621), (15, 229477735554644517526052909820632871), 0, [.pre (pl 3 32770), .int .i64 (pl 1 32782), .int .i64 1], [], [], 64, [], [], 8, .tuple [.agg [.int .i64 5, .str 1 44, .int .i64 (pl 1 32782), .int .i64 (pl 1 32783), .bool false], .nilslice, .int .i64 0, .int .i64 0]⟩
def lexTq8 : Tq := ⟨(2, 31528), (2, 10621), (15, 229477735554644517526052909820632871), 0, [.pre (pl 3 32770), .int .i64 (pl 1 32780), .int .i64 2], [], [], 64, [], [], 8, .tuple [.agg [.int .i64 3, .str 1 50, .int .i64 (pl 1 32781), .int .i64 (pl 1 32782), .bool false], .nilslice, .int .i64 0, .int .i64 0]⟩
def lexTq9 : Tq := ⟨(2, 31528), (2, 10621), (15, 231006117993255055835946212402421599), 0, [.pre (pl 3 32770), .int .i64 (pl 1 32768), .int .i64 1], [], [], 64, [], [], 6, .tuple [.agg [.int .i64 1, .str 9 1759317530180435599199, .int .i64 (pl 1 32768), .int .i64 (pl 1 32777), .bool false], .nilslice, .int .i64 0, .int .i64 0]⟩
def lexTq10 : Tq := ⟨(2, 31528), (2, 10621), (15, 231006117993255055835946212402421599), 0, [.pre (pl 3 32770), .int .i64 (pl 1 32777), .int .i64 1], [], [], 64, [], [], 8, .tuple [.agg [.int .i64 5, .str 1 40, .int .i64 (pl 1 32777), .int .i64 (pl 1 32778), .bool false], .nilslice, .int .i64 0, .int .i64 0]⟩
def lexTq11 : Tq := ⟨(2, 31528), (2, 10621), (15, 231006117993255055835946212402421599), 0, [.pre (pl 3 32770), .int .i64 (pl 1 32778), .int .i64 1], [], [], 64, [], [], 8, .tuple [.agg [.int .i64 5, .str 1 41, .int .i64 (pl 1 32778), .int .i64 (pl 1 32779), .bool false], .nilslice, .int .i64 0, .int .i64 0]⟩
def lexTq12 : Tq := ⟨(2, 31528), (2, 10621), (15, 231006117993255055835946212402421599), 0, [.pre (pl 3 32770), .int .i64 (pl 1 32779), .int .i64 2], [], [], 64, [], [], 7, .tuple [.agg [.int .i64 5, .str 1 123, .int .i64 (pl 1 32780), .int .i64 (pl 1 32781), .bool false], .nilslice, .int .i64 0, .int .i64 0]⟩
def lexTq13 : Tq := ⟨(2, 31528), (2, 10621), (15, 231006117993255055835946212402421599), 0, [.pre (pl 3 32770), .int .i64 (pl 1 32781), .int .i64 2], [], [], 64, [], [], 7, .tuple [.agg [.int .i64 5, .str 1 125, .int .i64 (pl 1 32781), .int .i64 (pl 1 32782), .bool false], .nilslice, .int .i64 0, .int .i64 0]⟩
def lexTq14 : Tq := ⟨(2, 31528), (2, 10621), (17, 15041711337561742471903752017862771812187), 0, [.pre (pl 3 32770), .int .i64 (pl 1 32768), .int .i64 1], [], [], 64, [], [], 8, .tuple [.agg [.int .i64 5, .str 1 91, .int .i64 (pl 1 32768), .int .i64 (pl 1 32769), .bool false], .nilslice, .int .i64 0, .int .i64 0]⟩
def lexTq15 : Tq := ⟨(2, 31528), (2, 10621), (17, 15041711337561742471903752017862771812187), 0, [.pre (pl 3 32770), .int .i64 (pl 1 32780), .int .i64 1], [], [], 64, [], [], 8, .tuple [.agg [.int .i64 5, .str 1 93, .int .i64 (pl 1 32780), .int .i64 (pl 1 32781), .bool false], .nilslice, .int .i64 0, .int .i64 0]⟩
def lexTq16 : Tq := ⟨(2, 31528), (2, 10621), (17, 15041711337561742471903752017862771812187), 0, [.pre (pl 3 32770), .int .i64 (pl 1 32781), .int .i64 1], [], [], 64, [], [], 8, .tuple [.agg [.int .i64 5, .str 1 58, .int .i64 (pl 1 32781), .int .i64 (pl 1 32782), .bool false], .nilslice, .int .i64 0, .int .i64 0]⟩
def lexTq17 : Tq := ⟨(2, 31528), (2, 10621), (17, 15041711337561742471903752017862771812187), 0, [.pre (pl 3 32770), .int .i64 (pl 1 32784), .int .i64 1], [], [], 64, [], [], 8, .tuple [.agg [.int .i64 5, .str 1 44, .int .i64 (pl 1 32784), .int .i64 (pl 1 32785), .bool false], .nilslice, .int .i64 0, .int .i64 0]⟩
def lexTq18 : Tq := ⟨(2, 31528), (2, 10621), (17, 15041711337561742471903752017862771812187), 0, [.pre (pl 3 32770), .int .i64 (pl 1 32769), .int .i64 2], [], [], 64, [], [], 34, .tuple [.agg [.int .i64 4, .str 11 47598492252696729326935847, .int .i64 (pl 1 32769), .int .i64 (pl 1 32780), .bool false], .nilslice, .int .i64 0, .int .i64 0]⟩
def lexTq19 : Tq := ⟨(2, 31528), (2, 10621), (17, 15041711337561742471903752017862771812187), 0, [.pre (pl 3 32770), .int .i64 (pl 1 32782), .int .i64 2], [], [], 64, [], [], 8, .tuple [.agg [.int .i64 3, .str 1 52, .int .i64 (pl 1 32783), .int .i64 (pl 1 32784), .bool false], .nilslice, .int .i64 0, .int .i64 0]⟩
def lexTq20 : Tq := ⟨(2, 31528), (2, 10621), (18, 3850337818856659764195580317977004752788514), 0, [.pre (pl 3 32770), .int .i64 (pl 1 32768), .int .i64 1], [], [], 64, [], [], 34, .tuple [.agg [.int .i64 4, .str 14 697158137779561258291831374371874, .int .i64 (pl 1 32768), .int .i64 (pl 1 32782), .bool false], .nilslice, .int .i64 0, .int .i64 0]⟩
def lexTq21 : Tq := ⟨(2, 31528), (2, 10621), (18, 3850337818856659764195580317977004752788514), 0, [.pre (pl 3 32770), .int .i64 (pl 1 32782), .int .i64 1], [], [], 64, [], [], 8, .tuple [.agg [.int .i64 5, .str 1 58, .int .i64 (pl 1 32782), .int .i64 (pl 1 32783), .bool false], .nilslice, .int .i64 0, .int .i64 0]⟩
def lexTq22 : Tq := ⟨(2, 31528), (2, 10621), (18, 3850337818856659764195580317977004752788514), 0, [.pre (pl 3 32770), .int .i64 (pl 1 32785), .int .i64 1], [], [], 64, [], [], 8, .tuple [.agg [.int .i64 5, .str 1 44, .int .i64 (pl 1 32785), .int .i64 (pl 1 32786), .bool false], .nilslice, .int .i64 0, .int .i64 0]⟩
def lexTq23 : Tq := ⟨(2, 31528), (2, 10621), (18, 3850337818856659764195580317977004752788514), 0, [.pre (pl 3 32770), .int .i64 (pl 1 32783), .int .i64 2], [], [], 64, [], [], 8, .tuple [.agg [.int .i64 3, .str 1 51, .int .i64 (pl 1 32784), .int .i64 (pl 1 32785), .bool false], .nilslice, .int .i64 0, .int .i64 0]⟩
def lexTq24 : Tq := ⟨(2, 31528), (2, 10621), (19, 992163721956947613402042923483470359453525351), 0, [.pre (pl 3 32770), .int .i64 (pl 1 32768), .int .i64 1], [], [], 64, [], [], 6, .tuple [.agg [.int .i64 1, .str 3 7628135, .int .i64 (pl 1 32768), .int .i64 (pl 1 32771), .bool false], .nilslice, .int .i64 0, .int .i64 0]⟩
def lexTq25 : Tq := ⟨(2, 31528), (2, 10621), (19, 992163721956947613402042923483470359453525351), 0, [.pre (pl 3 32770), .int .i64 (pl 1 32771), .int .i64 1], [], [], 64, [], [], 6, .tuple [.agg [.int .i64 1, .str 9 1759317530180435599199, .int .i64 (pl 1 32772), .int .i64 (pl 1 32781), .bool false], .nilslice, .int .i64 0, .int .i64 0]⟩
def lexTq26 : Tq := ⟨(2, 31528), (2, 10621), (19, 992163721956947613402042923483470359453525351), 0, [.pre (pl 3 32770), .int .i64 (pl 1 32781), .int .i64 1], [], [], 64, [], [], 8, .tuple [.agg [.int .i64 5, .str 1 40, .int .i64 (pl 1 32781), .int .i64 (pl 1 32782), .bool false], .nilslice, .int .i64 0, .int .i64 0]⟩
def lexTq27 : Tq := ⟨(2, 31528), (2, 10621), (19, 992163721956947613402042923483470359453525351), 0, [.pre (pl 3 32770), .int .i64 (pl 1 32782), .int .i64 1], [], [], 64, [], [], 8, .tuple [.agg [.int .i64 5, .str 1 41, .int .i64 (pl 1 32782), .int .i64 (pl 1 32783), .bool false], .nilslice, .int .i64 0, .int .i64 0]⟩
def lexTq28 : Tq := ⟨(2, 31528), (2, 10621), (19, 992163721956947613402042923483470359453525351), 0, [.pre (pl 3 32770), .int .i64 (pl 1 32783), .int .i64 2], [], [], 64, [], [], 7, .tuple [.agg [.int .i64 5, .str 1 123, .int .i64 (pl 1 32784), .int .i64 (pl 1 32785), .bool false], .nilslice, .int .i64 0, .int .i64 0]⟩
def lexTq29 : Tq := ⟨(2, 31528), (2, 10621), (19, 992163721956947613402042923483470359453525351), 0, [.pre (pl 3 32770), .int .i64 (pl 1 32785), .int .i64 2], [], [], 64, [], [], 7, .tuple [.agg [.int .i64 5, .str 1 125, .int .i64 (pl 1 32785), .int .i64 (pl 1 32786), .bool false], .nilslice, .int .i64 0, .int .i64 0]⟩
def lexTq30 : Tq := ⟨(2, 31528), (2, 10621), (1, 44), 1, [.pre (pl 3 32770), .int .i64 (pl 1 32768), .int .i64 1], [], [], 64, [], [], 8, .tuple [.agg [.int .i64 5, .str 1 44, .int .i64 (pl 1 32768), .int .i64 (pl 1 32769), .bool false], .nilslice, .int .i64 0, .int .i64 0]⟩
def lexTq31 : Tq := ⟨(2, 31528), (2, 10621), (0, 0), 2, [.pre (pl 1 32770), .int .i64 1, .int .i64 1], [], [], 64, [], [], 8, .tuple [.agg [.int .i64 5, .str 1 123, .int .i64 1, .int .i64 2, .bool false], .nilslice, .int .i64 0, .int .i64 0]⟩
def lexTq32 : Tq := ⟨(2, 31528), (2, 10621), (0, 0), 2, [.pre (pl 1 32770), .int .i64 (pl 1 32768), .int .i64 1], [], [], 64, [], [], 8, .tuple [.agg [.int .i64 5, .str 1 125, .int .i64 (pl 1 32768), .int .i64 (pl 1 32769), .bool false], .nilslice, .int .i64 0, .int .i64 0]⟩
def lexTq33 : Tq := ⟨(2, 31528), (2, 10621), (0, 0), 2, [.pre (pl 1 32770), .int .i64 (pl 1 32769), .int .i64 1], [], [], 64, [], [], 8, .tuple [.agg [.int .i64 5, .str 1 41, .int .i64 (pl 1 32769), .int .i64 (pl 1 32770), .bool false], .nilslice, .int .i64 0, .int .i64 0]⟩
def lexTq34 : Tq := ⟨(2, 31528), (2, 10621), (0, 0), 2, [.pre (pl 1 32770), .int .i64 (pl 1 32770), .int .i64 1], [], [], 64, [], [], 6, .tuple [.agg [.int .i64 0, .str 0 0, .int .i64 (pl 1 32770), .int .i64 (pl 1 32770), .bool false], .nilslice, .int .i64 0, .int .i64 0]⟩
def lexTq35 : Tq := ⟨(2, 31528), (2, 10621), (0, 0), 2, [.pre (pl 1 32770), .int .i64 1, .int .i64 2], [], [], 64, [], [], 7, .tuple [.agg [.int .i64 5, .str 1 123, .int .i64 1, .int .i64 2, .bool false], .nilslice, .int .i64 0, .int .i64 0]⟩
def lexTq36 : Tq := ⟨(2, 31528), (2, 10621), (0, 0), 2, [.pre (pl 1 32770), .int .i64 0, .int .i64 2], [], [], 64, [], [], 7, .tuple [.agg [.int .i64 5, .str 1 40, .int .i64 0, .int .i64 1, .bool false], .nilslice, .int .i64 0, .int .i64 0]⟩
def lexTq : List Tq := [lexTq0, lexTq1, lexTq2, lexTq3, lexTq4, lexTq5, lexTq6, lexTq7, lexTq8, lexTq9, lexTq10, lexTq11, lexTq12, lexTq13, lexTq14, lexTq15, lexTq16, lexTq17, lexTq18, lexTq19, lexTq20, lexTq21, lexTq22, lexTq23, lexTq24, lexTq25, lexTq26, lexTq27, lexTq28, lexTq29, lexTq30, lexTq31, lexTq32, lexTq33, lexTq34, lexTq35, lexTq36]
def itemTq0 : Tq := ⟨(2, 31528), (2, 10621), (13, 3501242877391677967236896677727), 0, [.ptr 64 0], [(64, .cells [.pre (pl 3 32770), .int .i64 (pl 1 32768), .int .i64 1, .str 9 1759317530180435599199, .int .i64 (pl 1 32768), .int .i64 (pl 1 32777), .bool false, .nilslice, .int .i64 1, .nilslice, .bool false, .int .i64 1, .int .i64 3, .rng 66 0 600000, .map 65] 63 false false)], [], 67, [(64, .cells [.pre (pl 3 32770), .int .i64 (pl 1 32780), .int .i64 5, .str 1 44, .int .i64 (pl 1 32780), .int .i64 (pl 2 32768), .bool false, .nilslice, .int .i64 1, .nilslice, .bool false, .int .i64 1, .int .i64 3, .int .i64 (pl 1 32779), .map 65] 63 false false)], [(472, .cells [.int .i64 1, .str 9 1759317530180435599199, .nilslice, .int .i64 (pl 1 32768), .int .i64 (pl 1 32777), .int .i64 3, .str 1 49, .nilslice, .int .i64 (pl 1 32779), .int .i64 (pl 1 32780)] 34 false false)], 407, .agg [.int .i64 13, .str 0 0, .slice 472 0 2 2 true, .int .i64 (pl 1 32768), .int .i64 (pl 1 32780)]⟩
def itemTq1 : Tq := ⟨(2, 31528), (2, 10621), (15, 229477735554644517526052909820632871), 0, [.ptr 64 0], [(64, .cells [.pre (pl 3 32770), .int .i64 (pl 1 32768), .int .i64 4, .str 11 47598492252696729326935847, .int .i64 (pl 1 32768), .int .i64 (pl 1 32779), .bool false, .nilslice, .int .i64 1, .nilslice, .bool false, .int .i64 1, .int .i64 3, .rng 66 0 600000, .map 65] 63 false false)], [], 67, [(64, .cells [.pre (pl 3 32770), .int .i64 (pl 1 32782), .int .i64 5, .str 1 44, .int .i64 (pl 1 32782), .int .i64 (pl 2 32768), .bool false, .nilslice, .int .i64 1, .nilslice, .bool false, .int .i64 1, .int .i64 3, .int .i64 (pl 1 32781), .map 65] 63 false false)], [(472, .cells [.int .i64 4, .str 11 47598492252696729326935847, .nilslice, .int .i64 (pl 1 32768), .int .i64 (pl 1 32779), .int .i64 3, .str 1 50, .nilslice, .int .i64 (pl 1 32781), .int .i64 (pl 1 32782)] 34 false false)], 407, .agg [.int .i64 13, .str 0 0, .slice 472 0 2 2 true, .int .i64 (pl 1 32768), .int .i64 (pl 1 32782)]⟩
def itemTq2 : Tq := ⟨(2, 31528), (2, 10621), (18, 3850337818856659764195580317977004752788514), 0, [.ptr 64 0], [(64, .cells [.pre (pl 3 32770), .int .i64 (pl 1 32768), .int .i64 4, .str 14 697158137779561258291831374371874, .int .i64 (pl 1 32768), .int .i64 (pl 1 32782), .bool false, .nilslice, .int .i64 1, .nilslice, .bool false, .int .i64 1, .int .i64 3, .rng 66 0 600000, .map 65] 63 false false)], [], 67, [(64, .cells [.pre (pl 3 32770), .int .i64 (pl 1 32785), .int .i64 5, .str 1 44, .int .i64 (pl 1 32785), .int .i64 (pl 2 32768), .bool false, .nilslice, .int .i64 1, .nilslice, .bool false, .int .i64 1, .int .i64 3, .int .i64 (pl 1 32784), .map 65] 63 false false)], [(472, .cells [.int .i64 4, .str 14 697158137779561258291831374371874, .nilslice, .int .i64 (pl 1 32768), .int .i64 (pl 1 32782), .int .i64 3, .str 1 51, .nilslice, .int .i64 (pl 1 32784), .int .i64 (pl 1 32785)] 34 false false)], 407, .agg [.int .i64 13, .str 0 0, .slice 472 0 2 2 true, .int .i64 (pl 1 32768), .int .i64 (pl 1 32785)]⟩
def itemTq3 : Tq := ⟨(2, 31528), (2, 10621), (17, 15041711337561742471903752017862771812187), 0, [.ptr 64 0], [(64, .cells [.pre (pl 3 32770), .int .i64 (pl 1 32768), .int .i64 5, .str 1 91, .int .i64 (pl 1 32768), .int .i64 (pl 1 32769), .bool false, .nilslice, .int .i64 1, .nilslice, .bool false, .int .i64 1, .int .i64 3, .rng 66 0 600000, .map 65] 63 false false)], [], 67, [(64, .cells [.pre (pl 3 32770), .int .i64 (pl 1 32784), .int .i64 5, .str 1 44, .int .i64 (pl 1 32784), .int .i64 (pl 2 32768), .bool false, .nilslice, .int .i64 1, .nilslice, .bool false, .int .i64 1, .int .i64 3, .int .i64 (pl 1 32783), .map 65] 63 false false)], [(424, .cells [.int .i64 4, .str 11 47598492252696729326935847, .nilslice, .int .i64 (pl 1 32769), .int .i64 (pl 1 32780)] 34 false false), (800, .cells [.int .i64 14, .str 0 0, .slice 424 0 1 1 true, .int .i64 (pl 1 32768), .int .i64 (pl 1 32781), .int .i64 3, .str 1 52, .nilslice, .int .i64 (pl 1 32783), .int .i64 (pl 1 32784)] 34 false false)], 735, .agg [.int .i64 13, .str 0 0, .slice 800 0 2 2 true, .int .i64 (pl 1 32768), .int .i64 (pl 1 32784)]⟩
def itemTq4 : Tq := ⟨(2, 31528), (2, 10621), (15, 231006117993255055835946212402421599), 0, [.ptr 64 0], [(64, .cells [.pre (pl 3 32770), .int .i64 (pl 1 32768), .int .i64 1, .str 9 1759317530180435599199, .int .i64 (pl 1 32768), .int .i64 (pl 1 32777), .bool false, .nilslice, .int .i64 1, .nilslice, .bool false, .int .i64 1, .int .i64 3, .rng 66 0 600000, .map 65] 63 false false)], [], 67, [(64, .cells [.pre (pl 3 32770), .int .i64 (pl 1 32782), .int .i64 5, .str 1 125, .int .i64 (pl 1 32781), .int .i64 (pl 1 32782), .bool false, .nilslice, .int .i64 0, .nilslice, .bool false, .int .i64 1, .int .i64 3, .rng 66 0 600000, .map 65] 63 false false)], [(435, .cells [.int .i64 0, .str 0 0, .nilslice, .int .i64 0, .int .i64 0, .int .i64 21, .str 0 0, .nilslice, .int .i64 (pl 1 32777), .int .i64 (pl 1 32779), .int .i64 58, .str 0 0, .nilslice, .int .i64 (pl 1 32780), .int .i64 (pl 1 32782)] 34 false false), (437, .cells [.int .i64 1, .str 9 1759317530180435599199, .nilslice, .int .i64 (pl 1 32768), .int .i64 (pl 1 32777), .int .i64 19, .str 0 0, .slice 435 0 3 3 true, .int .i64 (pl 1 32777), .int .i64 (pl 1 32782)] 34 false false)], 373, .agg [.int .i64 15, .str 0 0, .slice 437 0 2 2 true, .int .i64 (pl 1 32768), .int .i64 (pl 1 32782)]⟩
def itemTq5 : Tq := ⟨(2, 31528), (2, 10621), (8, 3201905882093870943), 0, [.ptr 64 0], [(64, .cells [.pre (pl 3 32770), .int .i64 (pl 1 32768), .int .i64 1, .str 7 31371744425041759, .int .i64 (pl 1 32768), .int .i64 (pl 1 32775), .bool false, .nilslice, .int .i64 1, .nilslice, .bool false, .int .i64 1, .int .i64 3, .rng 66 0 600000, .map 65] 63 false false)], [], 67, [(64, .cells [.pre (pl 3 32770), .int .i64 (pl 1 32775), .int .i64 5, .str 1 44, .int .i64 (pl 1 32775), .int .i64 (pl 1 32776), .bool false, .nilslice, .int .i64 1, .nilslice, .bool false, .int .i64 1, .int .i64 3, .rng 66 0 600000, .map 65] 63 false false)], [(115, .cells [.int .i64 1, .str 7 31371744425041759, .nilslice, .int .i64 (pl 1 32768), .int .i64 (pl 1 32775)] 34 false false)], 50, .agg [.int .i64 13, .str 5 500136110195, .slice 115 0 1 1 true, .int .i64 (pl 1 32768), .int .i64 (pl 1 32775)]⟩
def itemTq6 : Tq := ⟨(2, 31528), (2, 10621), (19, 992163721956947613402042923483470359453525351), 0, [.ptr 64 0], [(64, .cells [.pre (pl 3 32770), .int .i64 (pl 1 32768), .int .i64 1, .str 3 7628135, .int .i64 (pl 1 32768), .int .i64 (pl 1 32771), .bool false, .nilslice, .int .i64 1, .nilslice, .bool false, .int .i64 1, .int .i64 3, .rng 66 0 600000, .map 65] 63 false false)], [], 67, [(64, .cells [.pre (pl 3 32770), .int .i64 (pl 1 32786), .int .i64 5, .str 1 125, .int .i64 (pl 1 32785), .int .i64 (pl 1 32786), .bool false, .nilslice, .int .i64 0, .nilslice, .bool false, .int .i64 1, .int .i64 3, .rng 66 0 600000, .map 65] 63 false false)], [(504, .cells [.int .i64 0, .str 0 0, .nilslice, .int .i64 0, .int .i64 0, .int .i64 21, .str 0 0, .nilslice, .int .i64 (pl 1 32781), .int .i64 (pl 1 32783), .int .i64 58, .str 0 0, .nilslice, .int .i64 (pl 1 32784), .int .i64 (pl 1 32786)] 34 false false), (506, .cells [.int .i64 1, .str 9 1759317530180435599199, .nilslice, .int .i64 (pl 1 32772), .int .i64 (pl 1 32781), .int .i64 19, .str 0 0, .slice 504 0 3 3 true, .int .i64 (pl 1 32781), .int .i64 (pl 1 32786)] 34 false false)], 442, .agg [.int .i64 15, .str 3 7628135, .slice 506 0 2 2 true, .int .i64 (pl 1 32768), .int .i64 (pl 1 32786)]⟩
def itemTq : List Tq := [itemTq0, itemTq1, itemTq2, itemTq3, itemTq4, itemTq5, itemTq6]
def visitTq0 : Tq := ⟨(2, 31528), (2, 10621), (13, 3501242877391677967236896677727), 0, [.ptr 64 0, .bool false], [], [(64, .cells [.ptr 65 0, .ptr 66 0, .rng 67 0 600000] 0 false true), (65, .cells [.ptr 69 0, .ptr 68 0] 0 false true), (66, .cells [.int .i64 13, .str 0 0, .slice 70 0 2 2 true, .int .i64 (pl 1 32768), .int .i64 (pl 1 32780)] 0 false true), (68, .cells [.int .i64 12, .str 0 0] 0 false true), (70, .cells [.int .i64 1, .str 9 1759317530180435599199, .nilslice, .int .i64 (pl 1 32768), .int .i64 (pl 1 32777), .int .i64 3, .str 1 49, .nilslice, .int .i64 (pl 1 32779), .int .i64 (pl 1 32780)] 0 false true)], 71, [], [], 5, .tuple []⟩
def visitTq1 : Tq := ⟨(2, 31528), (2, 10621), (15, 229477735554644517526052909820632871), 0, [.ptr 64 0, .bool false], [], [(64, .cells [.ptr 65 0, .ptr 66 0, .rng 67 0 600000] 0 false true), (65, .cells [.ptr 69 0, .ptr 68 0] 0 false true), (66, .cells [.int .i64 13, .str 0 0, .slice 70 0 2 2 true, .int .i64 (pl 1 32768), .int .i64 (pl 1 32782)] 0 false true), (68, .cells [.int .i64 12, .str 0 0] 0 false true), (70, .cells [.int .i64 4, .str 11 47598492252696729326935847, .nilslice, .int .i64 (pl 1 32768), .int .i64 (pl 1 32779), .int .i64 3, .str 1 50, .nilslice, .int .i64 (pl 1 32781), .int .i64 (pl 1 32782)] 0 false true)], 71, [], [], 5, .tuple []⟩
def visitTq2 : Tq := ⟨(2, 31528), (2, 10621), (18, 3850337818856659764195580317977004752788514), 0, [.ptr 64 0, .bool false], [], [(64, .cells [.ptr 65 0, .ptr 66 0, .rng 67 0 600000] 0 false true), (65, .cells [.ptr 69 0, .ptr 68 0] 0 false true), (66, .cells [.int .i64 13, .str 0 0, .slice 70 0 2 2 true, .int .i64 (pl 1 32768), .int .i64 (pl 1 32785)] 0 false true), (68, .cells [.int .i64 12, .str 0 0] 0 false true), (70, .cells [.int .i64 4, .str 14 697158137779561258291831374371874, .nilslice, .int .i64 (pl 1 32768), .int .i64 (pl 1 32782), .int .i64 3, .str 1 51, .nilslice, .int .i64 (pl 1 32784), .int .i64 (pl 1 32785)] 0 false true)], 71, [], [], 5, .tuple []⟩
def visitTq3 : Tq := ⟨(2, 31528), (2, 10621), (17, 15041711337561742471903752017862771812187), 0, [.ptr 64 0, .bool false], [], [(64, .cells [.ptr 65 0, .ptr 66 0, .rng 67 0 600000] 0 false true), (65, .cells [.ptr 69 0, .ptr 68 0] 0 false true), (66, .cells [.int .i64 13, .str 0 0, .slice 70 0 2 2 true, .int .i64 (pl 1 32768), .int .i64 (pl 1 32784)] 0 false true), (68, .cells [.int .i64 12, .str 0 0] 0 false true), (70, .cells [.int .i64 14, .str 0 0, .slice 71 0 1 1 true, .int .i64 (pl 1 32768), .int .i64 (pl 1 32781), .int .i64 3, .str 1 52, .nilslice, .int .i64 (pl 1 32783), .int .i64 (pl 1 32784)] 0 false true), (71, .cells [.int .i64 4, .str 11 47598492252696729326935847, .nilslice, .int .i64 (pl 1 32769), .int .i64 (pl 1 32780)] 0 false true)], 72, [], [], 7, .tuple []⟩
def visitTq4 : Tq := ⟨(2, 31528), (2, 10621), (15, 231006117993255055835946212402421599), 0, [.ptr 64 0, .bool false], [], [(64, .cells [.ptr 65 0, .ptr 66 0, .rng 67 0 600000] 0 false true), (65, .cells [.ptr 69 0, .ptr 68 0] 0 false true), (66, .cells [.int .i64 15, .str 0 0, .slice 70 0 2 2 true, .int .i64 (pl 1 32768), .int .i64 (pl 1 32782)] 0 false true), (68, .cells [.int .i64 12, .str 0 0] 0 false true), (70, .cells [.int .i64 1, .str 9 1759317530180435599199, .nilslice, .int .i64 (pl 1 32768), .int .i64 (pl 1 32777), .int .i64 19, .str 0 0, .slice 71 0 3 3 true, .int .i64 (pl 1 32777), .int .i64 (pl 1 32782)] 0 false true), (71, .cells [.int .i64 0, .str 0 0, .nilslice, .int .i64 0, .int .i64 0, .int .i64 21, .str 0 0, .nilslice, .int .i64 (pl 1 32777), .int .i64 (pl 1 32779), .int .i64 58, .str 0 0, .nilslice, .int .i64 (pl 1 32780), .int .i64 (pl 1 32782)] 0 false true)], 72, [], [], 31, .tuple []⟩
def visitTq5 : Tq := ⟨(2, 31528), (2, 10621), (8, 3201905882093870943), 0, [.ptr 64 0, .bool false], [], [(64, .cells [.ptr 65 0, .ptr 66 0, .rng 67 0 600000] 0 false true), (65, .cells [.ptr 69 0, .ptr 68 0] 0 false true), (66, .cells [.int .i64 13, .str 5 500136110195, .slice 70 0 1 1 true, .int .i64 (pl 1 32768), .int .i64 (pl 1 32775)] 0 false true), (68, .cells [.int .i64 12, .str 0 0] 0 false true), (70, .cells [.int .i64 1, .str 7 31371744425041759, .nilslice, .int .i64 (pl 1 32768), .int .i64 (pl 1 32775)] 0 false true)], 71, [], [], 3, .tuple []⟩
def visitTq6 : Tq := ⟨(2, 31528), (2, 10621), (19, 992163721956947613402042923483470359453525351), 0, [.ptr 64 0, .bool false], [], [(64, .cells [.ptr 65 0, .ptr 66 0, .rng 67 0 600000] 0 false true), (65, .cells [.ptr 69 0, .ptr 68 0] 0 false true), (66, .cells [.int .i64 15, .str 3 7628135, .slice 70 0 2 2 true, .int .i64 (pl 1 32768), .int .i64 (pl 1 32786)] 0 false true), (68, .cells [.int .i64 12, .str 0 0] 0 false true), (70, .cells [.int .i64 1, .str 9 1759317530180435599199, .nilslice, .int .i64 (pl 1 32772), .int .i64 (pl 1 32781), .int .i64 19, .str 0 0, .slice 71 0 3 3 true, .int .i64 (pl 1 32781), .int .i64 (pl 1 32786)] 0 false true), (71, .cells [.int .i64 0, .str 0 0, .nilslice, .int .i64 0, .int .i64 0, .int .i64 21, .str 0 0, .nilslice, .int .i64 (pl 1 32781), .int .i64 (pl 1 32783), .int .i64 58, .str 0 0, .nilslice, .int .i64 (pl 1 32784), .int .i64 (pl 1 32786)] 0 false true)], 72, [], [], 31, .tuple []⟩
def visitTq : List Tq := [visitTq0, visitTq1, visitTq2, visitTq3, visitTq4, visitTq5, visitTq6]
theorem and_of {a b : Bool} (h : (a && b) = true) : a = true ∧ b = true := by cases a <;> cases b <;> first | exact ⟨rfl, rfl⟩ | cases h
theorem tabs_closed : tabsClosed tabs = true := by kernel_rfl
noncomputable def orcA : Orc := orcOf3 (trOf anss) (trT [(68, hpT)]) (trM [])
noncomputable def orcB : Orc := orcOf3 (trOf anss) (trT [(68, hpT)]) (trM [(87, tmG jPlace lexTq)])
theorem hp_ok [Sig] : AnsTOk Tryz.prog tabs 68 hpT := hpT_ok (by kernel_rfl) hp_calls
theorem orcA_ok (S : Sig) (W : Wb) : @TabsB S W tabs → @OrcOk S Tryz.prog W orcA := by
  refine @orcOf3_ok S Tryz.prog tabs anss [(68, hpT)] [] anss_ok ?_ (fun p hp => by cases hp) W
  intro p hp
  rw [List.mem_singleton] at hp
  subst hp
  exact hp_ok
end Go.Proofs.YtmlhldohlfghaaaGreatDoor
namespace Go.Proofs.YtmlhldohlfghaaaGreatDoor
open Go Go.Ev
set_option linter.unusedSectionVars false
def kindsP : List (Nat × Nat) := [(12, 15203726764047113120962862943), (14, 1016673779112101870711071334948647), (17, 17397237859208911744128739865567618948130), (16, 69287193040450079515269290864970508123), (14, 2545056217722640180604373916737375), (7, 31371744425041759), (18, 10930933221600195174471319486942453190387047)]
noncomputable def polP : Tr (List (Nat × List Nat)) := (Tr.put (Tr.put (Tr.put (Tr.put (Tr.put (Tr.put (Tr.put (Tr.put (Tr.put .nil 38 [(0, [8])]) 68 [(0, [])]) 87 [(1, [])]) 91 [(0, [])]) 88 [(0, [])]) 111 [(1, [])]) 346 [(0, [1]), (0, [2])]) 15 [(0, [1, 0]), (0, [1, 1]), (0, [1, 2])]) 67 [(0, []), (0, [0])])
def itsOf (k : List (Nat × Nat)) : List (List Nat) → List (List (Nat × Nat))
  | [] => []
  | _ :: l => k :: itsOf k l
noncomputable def txP (ks : List (List Nat)) (ps : List (List (List Nat))) : Tx := { on := true, head := (2, 31528), its := itsOf kindsP ks, sep := (1, 44), tail := (2, 10621), ks := ks, pol := polP, pats := ps, pf := 30, po := [1, 0], pk := 12 }
noncomputable def orcC : Orc := orcOf3 (trOf anss) (trT [(68, hpT)]) (trM [(87, tmG jPlace lexTq), (346, tmG jLast itemTq), (15, tmG jLast visitTq), (17, leftM), (18, depthM)])
/-- the law's last call, of the text, comes to true -/
noncomputable def runJ (fine : Bool) (ks : List (List Nat)) (ps : List (List (List Nat))) : Bool := isV (.bool true) ((fnsF Tryz.prog orcC 3000).call 6 [.pre (endI (txP ks ps)), .bool false, .bool fine, .int .i64 1207] (hInitT tabs (txP ks ps) []))
end Go.Proofs.YtmlhldohlfghaaaGreatDoor
namespace Go.Proofs.YtmlhldohlfghaaaGreatDoor
open Go Go.Ev
set_option linter.unusedVariables false
def repP (s : List Nat) : Nat → List (List Nat)
  | 0 => []
  | m + 1 => s :: repP s m
def mapC (s : List Nat) : List (List (List Nat)) → List (List (List Nat))
  | [] => []
  | q :: l => (s :: q) :: mapC s l
/-- at most one of 'pr', all others of 'ot' -/
def upTo1 (pr ot : List Nat) : Nat → List (List (List Nat))
  | 0 => [[]]
  | m + 1 => (pr :: repP ot m) :: mapC ot (upTo1 pr ot m)
/-- the first of 'pr'; ahead of it all of 'ot' -/
def from1 (pr ot al : List Nat) : Nat → List (List (List Nat))
  | 0 => []
  | m + 1 => (pr :: repP al m) :: mapC ot (from1 pr ot al m)
/-- the first two of 'pr' -/
def from2 (pr ot al : List Nat) : Nat → List (List (List Nat))
  | 0 => []
  | m + 1 => mapC pr (from1 pr ot al m) ++ mapC ot (from2 pr ot al m)
def Fits : List (List Nat) → List Nat → Prop
  | [], [] => True
  | s :: q, k :: ks => k ∈ s ∧ Fits q ks
  | _, _ => False
theorem mapC_mem {s : List Nat} {q : List (List Nat)} : ∀ {l : List (List (List Nat))}, q ∈ l → (s :: q) ∈ mapC s l
  | x :: l, h => by
    rw [mapC]
    rcases List.mem_cons.1 h with rfl | h
    · exact List.mem_cons_self ..
    · exact List.mem_cons_of_mem _ (mapC_mem h)
theorem fits_rep {s : List Nat} : ∀ {ks : List Nat}, (∀ k ∈ ks, k ∈ s) → Fits (repP s ks.length) ks
  | [], _ => trivial
  | k :: ks, h => ⟨h k (List.mem_cons_self ..), fits_rep fun x hx => h x (List.mem_cons_of_mem _ hx)⟩
/-- how many of 'ks' are of a class -/
def cntP (p : Nat → Bool) : List Nat → Nat
  | [] => 0
  | k :: ks => (if p k then 1 else 0) + cntP p ks
variable {p : Nat → Bool} {pr ot al : List Nat}
theorem fits_0 (ho : ∀ k, k ∈ al → p k = false → k ∈ ot) : ∀ {ks : List Nat}, (∀ k ∈ ks, k ∈ al) → cntP p ks = 0 → Fits (repP ot ks.length) ks
  | [], _, _ => trivial
  | k :: ks, ha, h => by
    rw [cntP] at h
    cases hk : p k with
    | true => rw [hk] at h; simp at h
    | false => exact ⟨ho k (ha k (List.mem_cons_self ..)) hk, fits_0 ho (fun x hx => ha x (List.mem_cons_of_mem _ hx)) (by omega)⟩
theorem fits_up (hp : ∀ k, k ∈ al → p k = true → k ∈ pr) (ho : ∀ k, k ∈ al → p k = false → k ∈ ot) : ∀ {ks : List Nat}, (∀ k ∈ ks, k ∈ al) → cntP p ks ≤ 1 → ∃ q ∈ upTo1 pr ot ks.length, Fits q ks
  | [], _, _ => ⟨[], by simp [upTo1], trivial⟩
  | k :: ks, ha, h => by
    rw [cntP] at h
    have ha' : ∀ x ∈ ks, x ∈ al := fun x hx => ha x (List.mem_cons_of_mem _ hx)
    cases hk : p k with
    | true =>
      rw [hk] at h
      simp at h
      exact ⟨_, List.mem_cons_self .., hp k (ha k (List.mem_cons_self ..)) hk, fits_0 ho ha' (by omega)⟩
    | false =>
      rw [hk] at h
      simp at h
      obtain ⟨q, h1, h2⟩ := fits_up hp ho ha' h
      exact ⟨_, List.mem_cons_of_mem _ (mapC_mem h1), ho k (ha k (List.mem_cons_self ..)) hk, h2⟩
theorem fits_1 (hp : ∀ k, k ∈ al → p k = true → k ∈ pr) (ho : ∀ k, k ∈ al → p k = false → k ∈ ot) : ∀ {ks : List Nat}, (∀ k ∈ ks, k ∈ al) → 1 ≤ cntP p ks → ∃ q ∈ from1 pr ot al ks.length, Fits q ks
  | [], _, h => by simp [cntP] at h
  | k :: ks, ha, h => by
    rw [cntP] at h
    have ha' : ∀ x ∈ ks, x ∈ al := fun x hx => ha x (List.mem_cons_of_mem _ hx)
    cases hk : p k with
    | true => exact ⟨_, List.mem_cons_self .., hp k (ha k (List.mem_cons_self ..)) hk, fits_rep ha'⟩
    | false =>
      rw [hk] at h
      simp at h
      obtain ⟨q, h1, h2⟩ := fits_1 hp ho ha' h
      exact ⟨_, List.mem_cons_of_mem _ (mapC_mem h1), ho k (ha k (List.mem_cons_self ..)) hk, h2⟩
theorem fits_2 (hp : ∀ k, k ∈ al → p k = true → k ∈ pr) (ho : ∀ k, k ∈ al → p k = false → k ∈ ot) : ∀ {ks : List Nat}, (∀ k ∈ ks, k ∈ al) → 2 ≤ cntP p ks → ∃ q ∈ from2 pr ot al ks.length, Fits q ks
  | [], _, h => by simp [cntP] at h
  | k :: ks, ha, h => by
    rw [cntP] at h
    have ha' : ∀ x ∈ ks, x ∈ al := fun x hx => ha x (List.mem_cons_of_mem _ hx)
    cases hk : p k with
    | true =>
      rw [hk] at h
      simp at h
      obtain ⟨q, h1, h2⟩ := fits_1 hp ho ha' (by omega)
      exact ⟨_, List.mem_append_left _ (mapC_mem h1), hp k (ha k (List.mem_cons_self ..)) hk, h2⟩
    | false =>
      rw [hk] at h
      simp at h
      obtain ⟨q, h1, h2⟩ := fits_2 hp ho ha' h
      exact ⟨_, List.mem_append_right _ (mapC_mem h1), ho k (ha k (List.mem_cons_self ..)) hk, h2⟩
theorem fits_get : ∀ {q : List (List Nat)} {ks : List Nat}, Fits q ks → ∀ (i : Nat) (s : List Nat), q[i]? = some s → ks.getD i 0 ∈ s
  | [], [], _, i, s, h => by simp at h
  | s :: q, k :: ks, ⟨h1, h2⟩, 0, s', h => by simp at h; subst h; exact h1
  | s :: q, k :: ks, ⟨h1, h2⟩, i + 1, s', h => by
    rw [List.getElem?_cons_succ] at h
    have := fits_get h2 i s' h
    simpa using this
  | [], _ :: _, h, _, _, _ => h.elim
  | _ :: _, [], h, _, _, _ => h.elim
end Go.Proofs.YtmlhldohlfghaaaGreatDoor
namespace Go.Proofs.YtmlhldohlfghaaaGreatDoor
open Go Go.Ev
set_option linter.unusedVariables false
def cutP (i n : Nat) (l : List (List (List Nat))) : List (List (List Nat)) := (l.drop (i * n)).take n
theorem cutP_mem {n : Nat} (hn : 0 < n) {q : List (List Nat)} : ∀ {l : List (List (List Nat))}, q ∈ l → ∃ i, i * n < l.length ∧ q ∈ cutP i n l := by
  intro l h
  obtain ⟨j, hj⟩ := List.mem_iff_getElem?.1 h
  have hl : j < l.length := by
    rcases Nat.lt_or_ge j l.length with h1 | h1
    · exact h1
    · rw [List.getElem?_eq_none h1] at hj; cases hj
  have e : j / n * n + j % n = j := by rw [Nat.mul_comm]; exact Nat.div_add_mod j n
  have hm := Nat.mod_lt j hn
  refine ⟨j / n, by omega, List.mem_iff_getElem?.2 ⟨j % n, ?_⟩⟩
  unfold cutP
  rw [List.getElem?_take, if_pos hm, List.getElem?_drop, e, hj]
end Go.Proofs.YtmlhldohlfghaaaGreatDoor
