/- Templates: calls of the lexer, of parts of the parser at an item, each in a small memory of its own, at each name. No condition. -/
import Derived.Test.YtgpibpkplhlihaaGreatDoorTqB
namespace Go.Proofs.YtgpibpkplhlihaaGreatDoor
open Go Go.Ev
set_option linter.unusedSectionVars false
set_option linter.unusedVariables false
/-- two texts, one behind the other -/
def catP (a b : Nat × Nat) : Nat × Nat := (Nat.add a.1 b.1, Nat.add a.2 (Nat.mul (Nat.pow 256 a.1) b.2))
/-- the text of a kind, at a name -/
def pcV (k n c : Nat) : Nat × Nat := match k with
  | 0 => (catP (n, c) (1, 44))
  | 1 => (1, 44)
  | 2 => (catP (1, 123) (catP (n, c) (2, 11389)))
  | 3 => (catP (4, 540696955) (catP (n, c) (6, 48917028814112)))
  | 4 => (catP (2, 23387) (catP (n, c) (3, 2907485)))
  | 5 => (catP (n, c) (5, 190641618208))
  | _ => (catP (7, 25649657927719803) (catP (n, c) (catP (7, 28479748525010013) (catP (n, c) (2, 11389)))))
def lexV0 (n c d : Nat) : Tq := ⟨(5, 391386522988), (9, 2234379081487502683694), (pcV 0 n c), 0, [.pre (pl 3 32777), .int .i64 (pl 1 32768), .int .i64 1], [], [], 64, [], [], 6, .tuple [.agg [.int .i64 1, .str n c, .int .i64 (pl 1 32768), .int .i64 (pl 1 (Nat.add 32770 d)), .bool false], .nilslice, .int .i64 0, .int .i64 0]⟩
def lexV1 (n c d : Nat) : Tq := ⟨(5, 391386522988), (9, 2234379081487502683694), (pcV 1 n c), 0, [.pre (pl 3 32777), .int .i64 (pl 1 32768), .int .i64 1], [], [], 64, [], [], 8, .tuple [.agg [.int .i64 5, .str 1 44, .int .i64 (pl 1 32768), .int .i64 (pl 1 32769), .bool false], .nilslice, .int .i64 0, .int .i64 0]⟩
def lexV2 (n c d : Nat) : Tq := ⟨(5, 391386522988), (9, 2234379081487502683694), (pcV 2 n c), 0, [.pre (pl 3 32777), .int .i64 (pl 1 32768), .int .i64 1], [], [], 64, [], [], 8, .tuple [.agg [.int .i64 5, .str 1 123, .int .i64 (pl 1 32768), .int .i64 (pl 1 32769), .bool false], .nilslice, .int .i64 0, .int .i64 0]⟩
def lexV3 (n c d : Nat) : Tq := ⟨(5, 391386522988), (9, 2234379081487502683694), (pcV 3 n c), 0, [.pre (pl 3 32777), .int .i64 (pl 1 32768), .int .i64 1], [], [], 64, [], [], 8, .tuple [.agg [.int .i64 5, .str 1 123, .int .i64 (pl 1 32768), .int .i64 (pl 1 32769), .bool false], .nilslice, .int .i64 0, .int .i64 0]⟩
def lexV4 (n c d : Nat) : Tq := ⟨(5, 391386522988), (9, 2234379081487502683694), (pcV 4 n c), 0, [.pre (pl 3 32777), .int .i64 (pl 1 32768), .int .i64 1], [], [], 64, [], [], 8, .tuple [.agg [.int .i64 5, .str 1 91, .int .i64 (pl 1 32768), .int .i64 (pl 1 32769), .bool false], .nilslice, .int .i64 0, .int .i64 0]⟩
def lexV5 (n c d : Nat) : Tq := ⟨(5, 391386522988), (9, 2234379081487502683694), (pcV 5 n c), 0, [.pre (pl 3 32777), .int .i64 (pl 1 32768), .int .i64 1], [], [], 64, [], [], 6, .tuple [.agg [.int .i64 1, .str n c, .int .i64 (pl 1 32768), .int .i64 (pl 1 (Nat.add 32770 d)), .bool false], .nilslice, .int .i64 0, .int .i64 0]⟩
def lexV6 (n c d : Nat) : Tq := ⟨(5, 391386522988), (9, 2234379081487502683694), (pcV 6 n c), 0, [.pre (pl 3 32777), .int .i64 (pl 1 32768), .int .i64 1], [], [], 64, [], [], 8, .tuple [.agg [.int .i64 5, .str 1 123, .int .i64 (pl 1 32768), .int .i64 (pl 1 32769), .bool false], .nilslice, .int .i64 0, .int .i64 0]⟩
def lexV7 (n c d : Nat) : Tq := ⟨(5, 391386522988), (9, 2234379081487502683694), (pcV 0 n c), 0, [.pre (pl 3 32777), .int .i64 (pl 1 (Nat.add 32770 d)), .int .i64 1], [], [], 64, [], [], 8, .tuple [.agg [.int .i64 5, .str 1 44, .int .i64 (pl 1 (Nat.add 32770 d)), .int .i64 (pl 1 (Nat.add 32771 d)), .bool false], .nilslice, .int .i64 0, .int .i64 0]⟩
def lexV8 (n c d : Nat) : Tq := ⟨(5, 391386522988), (9, 2234379081487502683694), (pcV 2 n c), 0, [.pre (pl 3 32777), .int .i64 (pl 1 (Nat.add 32772 d)), .int .i64 1], [], [], 64, [], [], 8, .tuple [.agg [.int .i64 5, .str 1 44, .int .i64 (pl 1 (Nat.add 32772 d)), .int .i64 (pl 1 (Nat.add 32773 d)), .bool false], .nilslice, .int .i64 0, .int .i64 0]⟩
def lexV9 (n c d : Nat) : Tq := ⟨(5, 391386522988), (9, 2234379081487502683694), (pcV 3 n c), 0, [.pre (pl 3 32777), .int .i64 (pl 1 (Nat.add 32779 d)), .int .i64 1], [], [], 64, [], [], 8, .tuple [.agg [.int .i64 5, .str 1 44, .int .i64 (pl 1 (Nat.add 32779 d)), .int .i64 (pl 1 (Nat.add 32780 d)), .bool false], .nilslice, .int .i64 0, .int .i64 0]⟩
def lexV10 (n c d : Nat) : Tq := ⟨(5, 391386522988), (9, 2234379081487502683694), (pcV 4 n c), 0, [.pre (pl 3 32777), .int .i64 (pl 1 (Nat.add 32774 d)), .int .i64 1], [], [], 64, [], [], 8, .tuple [.agg [.int .i64 5, .str 1 44, .int .i64 (pl 1 (Nat.add 32774 d)), .int .i64 (pl 1 (Nat.add 32775 d)), .bool false], .nilslice, .int .i64 0, .int .i64 0]⟩
def lexV11 (n c d : Nat) : Tq := ⟨(5, 391386522988), (9, 2234379081487502683694), (pcV 5 n c), 0, [.pre (pl 3 32777), .int .i64 (pl 1 (Nat.add 32774 d)), .int .i64 1], [], [], 64, [], [], 8, .tuple [.agg [.int .i64 5, .str 1 44, .int .i64 (pl 1 (Nat.add 32774 d)), .int .i64 (pl 1 (Nat.add 32775 d)), .bool false], .nilslice, .int .i64 0, .int .i64 0]⟩
def lexV12 (n c d : Nat) : Tq := ⟨(5, 391386522988), (9, 2234379081487502683694), (pcV 6 n c), 0, [.pre (pl 3 32777), .int .i64 (pl 1 (Nat.add 32787 (Nat.add d d))), .int .i64 1], [], [], 64, [], [], 8, .tuple [.agg [.int .i64 5, .str 1 44, .int .i64 (pl 1 (Nat.add 32787 (Nat.add d d))), .int .i64 (pl 1 (Nat.add 32788 (Nat.add d d))), .bool false], .nilslice, .int .i64 0, .int .i64 0]⟩
def lexV13 (n c d : Nat) : Tq := ⟨(5, 391386522988), (9, 2234379081487502683694), (pcV 5 n c), 0, [.pre (pl 3 32777), .int .i64 (pl 1 (Nat.add 32770 d)), .int .i64 1], [], [], 64, [], [], 8, .tuple [.agg [.int .i64 5, .str 1 61, .int .i64 (pl 1 (Nat.add 32771 d)), .int .i64 (pl 1 (Nat.add 32772 d)), .bool false], .nilslice, .int .i64 0, .int .i64 0]⟩
def lexV (n c d : Nat) : List Tq := [lexV0 n c d, lexV1 n c d, lexV2 n c d, lexV3 n c d, lexV4 n c d, lexV5 n c d, lexV6 n c d, lexV7 n c d, lexV8 n c d, lexV9 n c d, lexV10 n c d, lexV11 n c d, lexV12 n c d, lexV13 n c d]
def lexK (k n c d : Nat) : List Tq := match k with
  | 0 => [lexV0 n c d, lexV7 n c d]
  | 1 => [lexV1 n c d]
  | 2 => [lexV2 n c d, lexV8 n c d]
  | 3 => [lexV3 n c d, lexV9 n c d]
  | 4 => [lexV4 n c d, lexV10 n c d]
  | 5 => [lexV5 n c d, lexV11 n c d, lexV13 n c d]
  | 6 => [lexV6 n c d, lexV12 n c d]
  | _ => []
theorem lexK_mem (n c d : Nat) (T : Tq) : ∀ k, T ∈ lexK k n c d → T ∈ lexV n c d := by
  intro k h
  unfold lexK at h
  split at h
  · simp only [List.mem_cons, List.not_mem_nil, or_false] at h
    rcases h with rfl | rfl
    · exact .head _
    · exact .tail _ (.tail _ (.tail _ (.tail _ (.tail _ (.tail _ (.tail _ (.head _)))))))
  · simp only [List.mem_cons, List.not_mem_nil, or_false] at h
    rcases h with rfl
    · exact .tail _ (.head _)
  · simp only [List.mem_cons, List.not_mem_nil, or_false] at h
    rcases h with rfl | rfl
    · exact .tail _ (.tail _ (.head _))
    · exact .tail _ (.tail _ (.tail _ (.tail _ (.tail _ (.tail _ (.tail _ (.tail _ (.head _))))))))
  · simp only [List.mem_cons, List.not_mem_nil, or_false] at h
    rcases h with rfl | rfl
    · exact .tail _ (.tail _ (.tail _ (.head _)))
    · exact .tail _ (.tail _ (.tail _ (.tail _ (.tail _ (.tail _ (.tail _ (.tail _ (.tail _ (.head _)))))))))
  · simp only [List.mem_cons, List.not_mem_nil, or_false] at h
    rcases h with rfl | rfl
    · exact .tail _ (.tail _ (.tail _ (.tail _ (.head _))))
    · exact .tail _ (.tail _ (.tail _ (.tail _ (.tail _ (.tail _ (.tail _ (.tail _ (.tail _ (.tail _ (.head _))))))))))
  · simp only [List.mem_cons, List.not_mem_nil, or_false] at h
    rcases h with rfl | rfl | rfl
    · exact .tail _ (.tail _ (.tail _ (.tail _ (.tail _ (.head _)))))
    · exact .tail _ (.tail _ (.tail _ (.tail _ (.tail _ (.tail _ (.tail _ (.tail _ (.tail _ (.tail _ (.tail _ (.head _)))))))))))
    · exact .tail _ (.tail _ (.tail _ (.tail _ (.tail _ (.tail _ (.tail _ (.tail _ (.tail _ (.tail _ (.tail _ (.tail _ (.tail _ (.head _)))))))))))))
  · simp only [List.mem_cons, List.not_mem_nil, or_false] at h
    rcases h with rfl | rfl
    · exact .tail _ (.tail _ (.tail _ (.tail _ (.tail _ (.tail _ (.head _))))))
    · exact .tail _ (.tail _ (.tail _ (.tail _ (.tail _ (.tail _ (.tail _ (.tail _ (.tail _ (.tail _ (.tail _ (.tail _ (.head _))))))))))))
  · cases h
def bindingV0 (n c d : Nat) : Tq := ⟨(5, 391386522988), (9, 2234379081487502683694), (pcV 0 n c), 0, [.ptr 64 0], [(64, .cells [.pre (pl 3 32777), .int .i64 (pl 1 32768), .int .i64 1, .str n c, .int .i64 (pl 1 32768), .int .i64 (pl 1 (Nat.add 32770 d)), .bool false, .nilslice, .int .i64 1, .nilslice, .bool false, .int .i64 1, .int .i64 2, .rng 66 0 600000, .map 65] 77 false false), (65, .map [] 0)], [], 67, [(64, .cells [.pre (pl 3 32777), .int .i64 (pl 1 (Nat.add 32770 d)), .int .i64 1, .str n c, .int .i64 (pl 1 32768), .int .i64 (pl 1 (Nat.add 32770 d)), .bool false, .nilslice, .int .i64 0, .nilslice, .bool false, .int .i64 1, .int .i64 2, .rng 66 0 600000, .map 65] 77 false false), (65, .map [] 0)], [], 13, .agg [.int .i64 1, .str n c, .nilslice, .int .i64 (pl 1 32768), .int .i64 (pl 1 (Nat.add 32770 d))]⟩
def bindingV1 (n c d : Nat) : Tq := ⟨(5, 391386522988), (9, 2234379081487502683694), (pcV 2 n c), 0, [.ptr 64 0], [(64, .cells [.pre (pl 3 32777), .int .i64 (pl 1 32768), .int .i64 5, .str 1 123, .int .i64 (pl 1 32768), .int .i64 (pl 1 32769), .bool false, .nilslice, .int .i64 1, .nilslice, .bool false, .int .i64 1, .int .i64 2, .rng 66 0 600000, .map 65] 77 false false), (65, .map [] 0)], [], 67, [(64, .cells [.pre (pl 3 32777), .int .i64 (pl 1 (Nat.add 32772 d)), .int .i64 5, .str 1 125, .int .i64 (pl 1 (Nat.add 32771 d)), .int .i64 (pl 1 (Nat.add 32772 d)), .bool false, .nilslice, .int .i64 0, .nilslice, .bool false, .int .i64 1, .int .i64 2, .rng 66 0 600000, .map 65] 77 false false), (65, .map [] 0)], [(116, .cells [.int .i64 1, .str n c, .nilslice, .int .i64 (pl 1 32769), .int .i64 (pl 1 (Nat.add 32771 d))] 28 false false), (119, .cells [.int .i64 44, .str 5 500136110195, .slice 116 0 1 1 true, .int .i64 (pl 1 32769), .int .i64 (pl 1 (Nat.add 32771 d))] 28 true false)], 58, .agg [.int .i64 43, .str 0 0, .slice 119 0 1 1 false, .int .i64 (pl 1 32768), .int .i64 (pl 1 (Nat.add 32772 d))]⟩
def bindingV2 (n c d : Nat) : Tq := ⟨(5, 391386522988), (9, 2234379081487502683694), (pcV 3 n c), 0, [.ptr 64 0], [(64, .cells [.pre (pl 3 32777), .int .i64 (pl 1 32768), .int .i64 5, .str 1 123, .int .i64 (pl 1 32768), .int .i64 (pl 1 32769), .bool false, .nilslice, .int .i64 1, .nilslice, .bool false, .int .i64 1, .int .i64 2, .rng 66 0 600000, .map 65] 77 false false), (65, .map [] 0)], [], 67, [(64, .cells [.pre (pl 3 32777), .int .i64 (pl 1 (Nat.add 32779 d)), .int .i64 5, .str 1 125, .int .i64 (pl 1 (Nat.add 32778 d)), .int .i64 (pl 1 (Nat.add 32779 d)), .bool false, .nilslice, .int .i64 0, .nilslice, .bool false, .int .i64 1, .int .i64 2, .int .i64 (pl 1 (Nat.add 32777 d)), .map 65] 77 false false), (65, .map [] 0)], [(256, .cells [.int .i64 1, .str n c, .nilslice, .int .i64 (pl 1 32772), .int .i64 (pl 1 (Nat.add 32774 d)), .int .i64 1, .str 1 98, .nilslice, .int .i64 (pl 1 (Nat.add 32777 d)), .int .i64 (pl 1 (Nat.add 32778 d))] 28 false false), (258, .cells [.int .i64 1, .str 1 97, .nilslice, .int .i64 (pl 1 32769), .int .i64 (pl 1 32770), .int .i64 45, .str 0 0, .slice 256 0 2 2 true, .int .i64 (pl 1 32772), .int .i64 (pl 1 (Nat.add 32778 d))] 28 false false), (261, .cells [.int .i64 44, .str 0 0, .slice 258 0 2 2 true, .int .i64 (pl 1 32769), .int .i64 (pl 1 (Nat.add 32778 d))] 28 true false)], 200, .agg [.int .i64 43, .str 0 0, .slice 261 0 1 1 false, .int .i64 (pl 1 32768), .int .i64 (pl 1 (Nat.add 32779 d))]⟩
def bindingV3 (n c d : Nat) : Tq := ⟨(5, 391386522988), (9, 2234379081487502683694), (pcV 4 n c), 0, [.ptr 64 0], [(64, .cells [.pre (pl 3 32777), .int .i64 (pl 1 32768), .int .i64 5, .str 1 91, .int .i64 (pl 1 32768), .int .i64 (pl 1 32769), .bool false, .nilslice, .int .i64 1, .nilslice, .bool false, .int .i64 1, .int .i64 2, .rng 66 0 600000, .map 65] 77 false false), (65, .map [] 0)], [], 67, [(64, .cells [.pre (pl 3 32777), .int .i64 (pl 1 (Nat.add 32774 d)), .int .i64 5, .str 1 93, .int .i64 (pl 1 (Nat.add 32773 d)), .int .i64 (pl 1 (Nat.add 32774 d)), .bool false, .nilslice, .int .i64 0, .nilslice, .bool false, .int .i64 1, .int .i64 2, .rng 66 0 600000, .map 65] 77 false false), (65, .map [] 0)], [(140, .cells [.int .i64 1, .str n c, .nilslice, .int .i64 (pl 1 32770), .int .i64 (pl 1 (Nat.add 32772 d))] 28 true false), (162, .cells [.int .i64 42, .str 0 0, .slice 140 0 1 1 false, .int .i64 (pl 1 32769), .int .i64 (pl 1 (Nat.add 32773 d))] 28 true false)], 103, .agg [.int .i64 42, .str 0 0, .slice 162 0 1 1 false, .int .i64 (pl 1 32768), .int .i64 (pl 1 (Nat.add 32774 d))]⟩
def bindingV4 (n c d : Nat) : Tq := ⟨(5, 391386522988), (9, 2234379081487502683694), (pcV 5 n c), 0, [.ptr 64 0], [(64, .cells [.pre (pl 3 32777), .int .i64 (pl 1 32768), .int .i64 1, .str n c, .int .i64 (pl 1 32768), .int .i64 (pl 1 (Nat.add 32770 d)), .bool false, .nilslice, .int .i64 1, .nilslice, .bool false, .int .i64 1, .int .i64 2, .rng 66 0 600000, .map 65] 77 false false), (65, .map [] 0)], [], 67, [(64, .cells [.pre (pl 3 32777), .int .i64 (pl 1 (Nat.add 32770 d)), .int .i64 1, .str n c, .int .i64 (pl 1 32768), .int .i64 (pl 1 (Nat.add 32770 d)), .bool false, .nilslice, .int .i64 0, .nilslice, .bool false, .int .i64 1, .int .i64 2, .rng 66 0 600000, .map 65] 77 false false), (65, .map [] 0)], [], 13, .agg [.int .i64 1, .str n c, .nilslice, .int .i64 (pl 1 32768), .int .i64 (pl 1 (Nat.add 32770 d))]⟩
def bindingV5 (n c d : Nat) : Tq := ⟨(5, 391386522988), (9, 2234379081487502683694), (pcV 6 n c), 0, [.ptr 64 0], [(64, .cells [.pre (pl 3 32777), .int .i64 (pl 1 32768), .int .i64 5, .str 1 123, .int .i64 (pl 1 32768), .int .i64 (pl 1 32769), .bool false, .nilslice, .int .i64 1, .nilslice, .bool false, .int .i64 1, .int .i64 2, .rng 66 0 600000, .map 65] 77 false false), (65, .map [] 0)], [], 67, [(64, .cells [.pre (pl 3 32777), .int .i64 (pl 1 (Nat.add 32787 (Nat.add d d))), .int .i64 5, .str 1 125, .int .i64 (pl 1 (Nat.add 32786 (Nat.add d d))), .int .i64 (pl 1 (Nat.add 32787 (Nat.add d d))), .bool false, .nilslice, .int .i64 0, .nilslice, .bool false, .int .i64 1, .int .i64 2, .int .i64 (pl 1 32770), .map 65] 77 false false), (65, .map [] 0)], [(212, .cells [.int .i64 1, .str 1 100, .nilslice, .int .i64 (pl 1 32770), .int .i64 (pl 1 32771)] 28 false false), (287, .cells [.int .i64 1, .str n c, .nilslice, .int .i64 (pl 1 32775), .int .i64 (pl 1 (Nat.add 32777 d))] 28 true false), (308, .cells [.int .i64 14, .str 0 0, .slice 212 0 1 1 true, .int .i64 (pl 1 32769), .int .i64 (pl 1 32772), .int .i64 42, .str 0 0, .slice 287 0 1 1 false, .int .i64 (pl 1 32774), .int .i64 (pl 1 (Nat.add 32778 d))] 28 false false), (350, .cells [.int .i64 1, .str (Nat.add 1 n) (Nat.add 101 (Nat.mul 256 c)), .nilslice, .int .i64 (pl 1 (Nat.add 32783 d)), .int .i64 (pl 1 (Nat.add 32786 (Nat.add d d)))] 28 false false), (353, .cells [.int .i64 44, .str 0 0, .slice 308 0 2 2 true, .int .i64 (pl 1 32769), .int .i64 (pl 1 (Nat.add 32778 d)), .int .i64 46, .str 0 0, .slice 350 0 1 1 true, .int .i64 (pl 1 (Nat.add 32780 d)), .int .i64 (pl 1 (Nat.add 32786 (Nat.add d d)))] 28 true false)], 303, .agg [.int .i64 43, .str 0 0, .slice 353 0 2 2 false, .int .i64 (pl 1 32768), .int .i64 (pl 1 (Nat.add 32787 (Nat.add d d)))]⟩
def bindingV (n c d : Nat) : List Tq := [bindingV0 n c d, bindingV1 n c d, bindingV2 n c d, bindingV3 n c d, bindingV4 n c d, bindingV5 n c d]
def bindingK (k n c d : Nat) : List Tq := match k with
  | 0 => [bindingV0 n c d]
  | 2 => [bindingV1 n c d]
  | 3 => [bindingV2 n c d]
  | 4 => [bindingV3 n c d]
  | 5 => [bindingV4 n c d]
  | 6 => [bindingV5 n c d]
  | _ => []
theorem bindingK_mem (n c d : Nat) (T : Tq) : ∀ k, T ∈ bindingK k n c d → T ∈ bindingV n c d := by
  intro k h
  unfold bindingK at h
  split at h
  · simp only [List.mem_cons, List.not_mem_nil, or_false] at h
    rcases h with rfl
    · exact .head _
  · simp only [List.mem_cons, List.not_mem_nil, or_false] at h
    rcases h with rfl
    · exact .tail _ (.head _)
  · simp only [List.mem_cons, List.not_mem_nil, or_false] at h
    rcases h with rfl
    · exact .tail _ (.tail _ (.head _))
  · simp only [List.mem_cons, List.not_mem_nil, or_false] at h
    rcases h with rfl
    · exact .tail _ (.tail _ (.tail _ (.head _)))
  · simp only [List.mem_cons, List.not_mem_nil, or_false] at h
    rcases h with rfl
    · exact .tail _ (.tail _ (.tail _ (.tail _ (.head _))))
  · simp only [List.mem_cons, List.not_mem_nil, or_false] at h
    rcases h with rfl
    · exact .tail _ (.tail _ (.tail _ (.tail _ (.tail _ (.head _)))))
  · cases h
def isV0 (n c d : Nat) : Tq := ⟨(5, 391386522988), (9, 2234379081487502683694), (pcV 1 n c), 0, [.ptr 64 0, .str 1 44], [(64, .cells [.pre (pl 3 32777), .int .i64 (pl 1 32768), .int .i64 5, .str 1 44, .int .i64 (pl 1 32768), .int .i64 (pl 1 32769), .bool false, .nilslice, .int .i64 1, .nilslice, .bool false, .int .i64 1, .int .i64 2, .rng 66 0 600000, .map 65] 77 false false), (65, .map [] 0)], [], 67, [(64, .cells [.pre (pl 3 32777), .int .i64 (pl 1 32769), .int .i64 5, .str 1 44, .int .i64 (pl 1 32768), .int .i64 (pl 1 32769), .bool false, .nilslice, .int .i64 0, .nilslice, .bool false, .int .i64 1, .int .i64 2, .rng 66 0 600000, .map 65] 77 false false), (65, .map [] 0)], [], 4, .bool true⟩
def isV (n c d : Nat) : List Tq := [isV0 n c d]
def isK (k n c d : Nat) : List Tq := match k with
  | 1 => [isV0 n c d]
  | _ => []
theorem isK_mem (n c d : Nat) (T : Tq) : ∀ k, T ∈ isK k n c d → T ∈ isV n c d := by
  intro k h
  unfold isK at h
  split at h
  · simp only [List.mem_cons, List.not_mem_nil, or_false] at h
    rcases h with rfl
    · exact .head _
  · cases h
def defaultedV0 (n c d : Nat) : Tq := ⟨(5, 391386522988), (9, 2234379081487502683694), (pcV 5 n c), 0, [.ptr 64 0, .agg [.int .i64 1, .str n c, .nilslice, .int .i64 (pl 1 32768), .int .i64 (pl 1 (Nat.add 32770 d))]], [(64, .cells [.pre (pl 3 32777), .int .i64 (pl 1 (Nat.add 32770 d)), .int .i64 1, .str n c, .int .i64 (pl 1 32768), .int .i64 (pl 1 (Nat.add 32770 d)), .bool false, .nilslice, .int .i64 0, .nilslice, .bool false, .int .i64 1, .int .i64 2, .rng 66 0 600000, .map 65] 77 false false), (65, .map [] 0)], [], 67, [(64, .cells [.pre (pl 3 32777), .int .i64 (pl 1 (Nat.add 32774 d)), .int .i64 5, .str 1 44, .int .i64 (pl 1 (Nat.add 32774 d)), .int .i64 (pl 1 (Nat.add 32775 d)), .bool false, .nilslice, .int .i64 1, .nilslice, .bool false, .int .i64 1, .int .i64 2, .int .i64 (pl 1 (Nat.add 32773 d)), .map 65] 77 false false), (65, .map [] 0)], [(190, .cells [.int .i64 1, .str n c, .nilslice, .int .i64 (pl 1 32768), .int .i64 (pl 1 (Nat.add 32770 d)), .int .i64 1, .str 1 99, .nilslice, .int .i64 (pl 1 (Nat.add 32773 d)), .int .i64 (pl 1 (Nat.add 32774 d))] 28 false false)], 125, .agg [.int .i64 45, .str 0 0, .slice 190 0 2 2 true, .int .i64 (pl 1 32768), .int .i64 (pl 1 (Nat.add 32774 d))]⟩
def defaultedV (n c d : Nat) : List Tq := [defaultedV0 n c d]
def defaultedK (k n c d : Nat) : List Tq := match k with
  | 5 => [defaultedV0 n c d]
  | _ => []
theorem defaultedK_mem (n c d : Nat) (T : Tq) : ∀ k, T ∈ defaultedK k n c d → T ∈ defaultedV n c d := by
  intro k h
  unfold defaultedK at h
  split at h
  · simp only [List.mem_cons, List.not_mem_nil, or_false] at h
    rcases h with rfl
    · exact .head _
  · cases h
/-- the name of an item -/
def nmV (j : Nat) : Nat × Nat := match Nat.ble 10 j with
  | true => (3, Nat.add 118 (Nat.add 12544 (Nat.mul 65536 (Nat.add 48 (Nat.sub j 10)))))
  | false => (2, Nat.add 118 (Nat.mul 256 (Nat.add 48 j)))
def atK2 (f : Nat → Nat → Nat → Nat → List Tq) (j k : Nat) : List Tq := f k (nmV j).1 (nmV j).2 (Nat.sub (nmV j).1 2)
def atV (f : Nat → Nat → Nat → List Tq) (j : Nat) : List Tq := f (nmV j).1 (nmV j).2 (Nat.sub (nmV j).1 2)
/-- all templates are well told, and their runs come to them -/
noncomputable def okJ (f : FuncId) (l : List Tq) : Bool := l.all fun T => wfT T.tm && okRun T.tm ((fnsF Tryz.prog orcA 3000).call f T.tm.args (memT tabs T.tm))
theorem okJ_mem {f : FuncId} {l : List Tq} (h : okJ f l = true) : ∀ T ∈ l, TqOk Tryz.prog orcA tabs 3000 f T := fun T hT => and_of (List.all_eq_true.1 h T hT)
/-- the templates of the item, and of its kind, that is asked for -/
noncomputable def tmJ (jf : List AV → H → Nat) (L : Nat → Nat → List Tq) : AnsM := fun args h => (match Nat.blt (jf args h) 20, lookA (jf args h) h.asm with | true, some k => tmG jf (L (jf args h) k) args h | _, _ => none)
theorem tmJ_ok {f : FuncId} (hb : (fnOf Tryz.prog f).isSome = true) {jf : List AV → H → Nat} {L : Nat → Nat → List Tq} (hL : ∀ j, j < 20 → ∀ k, ∀ T ∈ L j k, TqOk Tryz.prog orcA tabs 3000 f T) [Sig] : AnsMOk Tryz.prog tabs f (tmJ jf L) := by
  have h0 := tmG_ok progOk tabs_closed orcA_ok hb (jf := jf) (hL 0 (by decide) 0)
  refine ⟨h0.1, fun W0 ht E h w args us ans S hu hg ho => ?_⟩
  unfold tmJ at hg
  split at hg
  · rename_i k hj hk
    exact (tmG_ok progOk tabs_closed orcA_ok hb (jf := jf) (hL (jf args h) (Nat.le_of_ble_eq_true hj) k)).2 W0 ht E h w args us ans S hu hg ho
  · cases hg
end Go.Proofs.YtgpibpkplhlihaaGreatDoor
