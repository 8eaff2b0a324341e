/- Templates: calls of the lexer, of parts of the parser at an item, each in a small memory of its own, at each name. No condition. -/
import Derived.Test.YtgpibpkplhlihaaGreatDoorTqB
namespace Go.Proofs.YtgpibpkplhlihaaGreatDoor
open Go Go.Ev
set_option linter.unusedSectionVars false
set_option linter.unusedVariables false
/-- two texts, one behind the other -/
def catP (a b : Nat × Nat) : Nat × Nat := (Nat.add a.1 b.1, Nat.add a.2 (Nat.mul (Nat.pow 256 a.1) b.2))
/-- the text of a kind, at a name -/
def pcV (k n c : Nat) : Nat × Nat := match k with
  | 0 => (catP (4, 544366966) (catP (n, c) (1, 59)))
  | 1 => (catP (6, 35675633492091) (catP (n, c) (2, 32032)))
  | 2 => (catP (11, 39225773852739215963481705) (catP (n, c) (9, 1095428663310249435195)))
  | 3 => (catP (9, 598537809066485509990) (catP (n, c) (7, 16652520758602016)))
  | 4 => (catP (18, 2826514888110727545152298432783677903169655) (catP (n, c) (4, 2099281184)))
  | 5 => (catP (20, 185238479707224638914592108502754489838977249908) (catP (n, c) (2, 32032)))
  | 6 => (catP (25, 203671862349271395081436476929573565155772660010025312941939) (catP (n, c) (2, 32032)))
  | 7 => (catP (7, 9132962173958764) (catP (n, c) (1, 59)))
  | 8 => (catP (10, 482279634758077709710694) (catP (n, c) (catP (9, 598537809033647106344) (catP (n, c) (2, 32032)))))
  | 9 => (catP (13, 2570700315219007708532992190504) (catP (n, c) (4, 992574752)))
  | _ => (catP (4, 544499052) (catP (n, c) (1, 59)))
def lexV0 (n c d : Nat) : Tq := ⟨(0, 0), (0, 0), (pcV 0 n c), 3, [.pre (pl 3 32768), .int .i64 (pl 1 32768), .int .i64 2], [], [], 64, [], [], 6, .tuple [.agg [.int .i64 1, .str 3 7496054, .int .i64 (pl 1 32768), .int .i64 (pl 1 32771), .bool false], .nilslice, .int .i64 0, .int .i64 0]⟩
def lexV1 (n c d : Nat) : Tq := ⟨(0, 0), (0, 0), (pcV 1 n c), 3, [.pre (pl 3 32768), .int .i64 (pl 1 32768), .int .i64 2], [], [], 64, [], [], 7, .tuple [.agg [.int .i64 5, .str 1 123, .int .i64 (pl 1 32768), .int .i64 (pl 1 32769), .bool false], .nilslice, .int .i64 0, .int .i64 0]⟩
def lexV2 (n c d : Nat) : Tq := ⟨(0, 0), (0, 0), (pcV 2 n c), 3, [.pre (pl 3 32768), .int .i64 (pl 1 32768), .int .i64 2], [], [], 64, [], [], 6, .tuple [.agg [.int .i64 1, .str 2 26217, .int .i64 (pl 1 32768), .int .i64 (pl 1 32770), .bool false], .nilslice, .int .i64 0, .int .i64 0]⟩
def lexV3 (n c d : Nat) : Tq := ⟨(0, 0), (0, 0), (pcV 3 n c), 3, [.pre (pl 3 32768), .int .i64 (pl 1 32768), .int .i64 2], [], [], 64, [], [], 6, .tuple [.agg [.int .i64 1, .str 3 7499622, .int .i64 (pl 1 32768), .int .i64 (pl 1 32771), .bool false], .nilslice, .int .i64 0, .int .i64 0]⟩
def lexV4 (n c d : Nat) : Tq := ⟨(0, 0), (0, 0), (pcV 4 n c), 3, [.pre (pl 3 32768), .int .i64 (pl 1 32768), .int .i64 2], [], [], 64, [], [], 6, .tuple [.agg [.int .i64 1, .str 5 435610544247, .int .i64 (pl 1 32768), .int .i64 (pl 1 32773), .bool false], .nilslice, .int .i64 0, .int .i64 0]⟩
def lexV5 (n c d : Nat) : Tq := ⟨(0, 0), (0, 0), (pcV 5 n c), 3, [.pre (pl 3 32768), .int .i64 (pl 1 32768), .int .i64 2], [], [], 64, [], [], 6, .tuple [.agg [.int .i64 1, .str 3 7959156, .int .i64 (pl 1 32768), .int .i64 (pl 1 32771), .bool false], .nilslice, .int .i64 0, .int .i64 0]⟩
def lexV6 (n c d : Nat) : Tq := ⟨(0, 0), (0, 0), (pcV 6 n c), 3, [.pre (pl 3 32768), .int .i64 (pl 1 32768), .int .i64 2], [], [], 64, [], [], 6, .tuple [.agg [.int .i64 1, .str 6 114776364119923, .int .i64 (pl 1 32768), .int .i64 (pl 1 32774), .bool false], .nilslice, .int .i64 0, .int .i64 0]⟩
def lexV7 (n c d : Nat) : Tq := ⟨(0, 0), (0, 0), (pcV 7 n c), 3, [.pre (pl 3 32768), .int .i64 (pl 1 32768), .int .i64 2], [], [], 64, [], [], 6, .tuple [.agg [.int .i64 1, .str 1 108, .int .i64 (pl 1 32768), .int .i64 (pl 1 32769), .bool false], .nilslice, .int .i64 0, .int .i64 0]⟩
def lexV8 (n c d : Nat) : Tq := ⟨(0, 0), (0, 0), (pcV 8 n c), 3, [.pre (pl 3 32768), .int .i64 (pl 1 32768), .int .i64 2], [], [], 64, [], [], 6, .tuple [.agg [.int .i64 1, .str 8 7957695015192261990, .int .i64 (pl 1 32768), .int .i64 (pl 1 32776), .bool false], .nilslice, .int .i64 0, .int .i64 0]⟩
def lexV9 (n c d : Nat) : Tq := ⟨(0, 0), (0, 0), (pcV 9 n c), 3, [.pre (pl 3 32768), .int .i64 (pl 1 32768), .int .i64 2], [], [], 64, [], [], 7, .tuple [.agg [.int .i64 5, .str 1 40, .int .i64 (pl 1 32768), .int .i64 (pl 1 32769), .bool false], .nilslice, .int .i64 0, .int .i64 0]⟩
def lexV10 (n c d : Nat) : Tq := ⟨(0, 0), (0, 0), (pcV 10 n c), 3, [.pre (pl 3 32768), .int .i64 (pl 1 32768), .int .i64 2], [], [], 64, [], [], 6, .tuple [.agg [.int .i64 1, .str 3 7628140, .int .i64 (pl 1 32768), .int .i64 (pl 1 32771), .bool false], .nilslice, .int .i64 0, .int .i64 0]⟩
def lexV11 (n c d : Nat) : Tq := ⟨(0, 0), (0, 0), (pcV 5 n c), 0, [.pre (pl 3 32768), .int .i64 (pl 1 32775), .int .i64 2], [], [], 64, [], [], 6, .tuple [.agg [.int .i64 1, .str 5 448345170275, .int .i64 (pl 1 32776), .int .i64 (pl 1 32781), .bool false], .nilslice, .int .i64 0, .int .i64 0]⟩
def lexV12 (n c d : Nat) : Tq := ⟨(0, 0), (0, 0), (pcV 5 n c), 0, [.pre (pl 3 32768), .int .i64 (pl 1 32781), .int .i64 1], [], [], 64, [], [], 8, .tuple [.agg [.int .i64 5, .str 1 123, .int .i64 (pl 1 32782), .int .i64 (pl 1 32783), .bool false], .nilslice, .int .i64 0, .int .i64 0]⟩
def lexV (n c d : Nat) : List Tq := [lexV0 n c d, lexV1 n c d, lexV2 n c d, lexV3 n c d, lexV4 n c d, lexV5 n c d, lexV6 n c d, lexV7 n c d, lexV8 n c d, lexV9 n c d, lexV10 n c d, lexV11 n c d, lexV12 n c d]
def lexK (k n c d : Nat) : List Tq := match k with
  | 0 => [lexV0 n c d]
  | 1 => [lexV1 n c d]
  | 2 => [lexV2 n c d]
  | 3 => [lexV3 n c d]
  | 4 => [lexV4 n c d]
  | 5 => [lexV5 n c d, lexV11 n c d, lexV12 n c d]
  | 6 => [lexV6 n c d]
  | 7 => [lexV7 n c d]
  | 8 => [lexV8 n c d]
  | 9 => [lexV9 n c d]
  | 10 => [lexV10 n c d]
  | _ => []
theorem lexK_mem (n c d : Nat) (T : Tq) : ∀ k, T ∈ lexK k n c d → T ∈ lexV n c d := by
  intro k h
  unfold lexK at h
  split at h
  · simp only [List.mem_cons, List.not_mem_nil, or_false] at h
    rcases h with rfl
    · exact .head _
  · simp only [List.mem_cons, List.not_mem_nil, or_false] at h
    rcases h with rfl
    · exact .tail _ (.head _)
  · simp only [List.mem_cons, List.not_mem_nil, or_false] at h
    rcases h with rfl
    · exact .tail _ (.tail _ (.head _))
  · simp only [List.mem_cons, List.not_mem_nil, or_false] at h
    rcases h with rfl
    · exact .tail _ (.tail _ (.tail _ (.head _)))
  · simp only [List.mem_cons, List.not_mem_nil, or_false] at h
    rcases h with rfl
    · exact .tail _ (.tail _ (.tail _ (.tail _ (.head _))))
  · simp only [List.mem_cons, List.not_mem_nil, or_false] at h
    rcases h with rfl | rfl | rfl
    · exact .tail _ (.tail _ (.tail _ (.tail _ (.tail _ (.head _)))))
    · exact .tail _ (.tail _ (.tail _ (.tail _ (.tail _ (.tail _ (.tail _ (.tail _ (.tail _ (.tail _ (.tail _ (.head _)))))))))))
    · exact .tail _ (.tail _ (.tail _ (.tail _ (.tail _ (.tail _ (.tail _ (.tail _ (.tail _ (.tail _ (.tail _ (.tail _ (.head _))))))))))))
  · simp only [List.mem_cons, List.not_mem_nil, or_false] at h
    rcases h with rfl
    · exact .tail _ (.tail _ (.tail _ (.tail _ (.tail _ (.tail _ (.head _))))))
  · simp only [List.mem_cons, List.not_mem_nil, or_false] at h
    rcases h with rfl
    · exact .tail _ (.tail _ (.tail _ (.tail _ (.tail _ (.tail _ (.tail _ (.head _)))))))
  · simp only [List.mem_cons, List.not_mem_nil, or_false] at h
    rcases h with rfl
    · exact .tail _ (.tail _ (.tail _ (.tail _ (.tail _ (.tail _ (.tail _ (.tail _ (.head _))))))))
  · simp only [List.mem_cons, List.not_mem_nil, or_false] at h
    rcases h with rfl
    · exact .tail _ (.tail _ (.tail _ (.tail _ (.tail _ (.tail _ (.tail _ (.tail _ (.tail _ (.head _)))))))))
  · simp only [List.mem_cons, List.not_mem_nil, or_false] at h
    rcases h with rfl
    · exact .tail _ (.tail _ (.tail _ (.tail _ (.tail _ (.tail _ (.tail _ (.tail _ (.tail _ (.tail _ (.head _))))))))))
  · cases h
def plainV0 (n c d : Nat) : Tq := ⟨(0, 0), (0, 0), (pcV 0 n c), 0, [.ptr 64 0, .int .i64 2], [(64, .cells [.int .i64 (pl 1 32768), .pre (pl 3 32768), .bool false, .int .i64 0, .int .i64 0] 115 false false)], [], 66, [(64, .cells [.int .i64 (pl 1 32771), .pre (pl 3 32768), .bool false, .int .i64 0, .int .i64 0] 115 false false)], [], 0, .tuple [.int .i64 1, .bool true]⟩
def plainV1 (n c d : Nat) : Tq := ⟨(0, 0), (0, 0), (pcV 1 n c), 0, [.ptr 64 0, .int .i64 2], [(64, .cells [.int .i64 (pl 1 32768), .pre (pl 3 32768), .bool false, .int .i64 0, .int .i64 0] 115 false false)], [], 66, [(64, .cells [.int .i64 (pl 1 32769), .pre (pl 3 32768), .bool false, .int .i64 0, .int .i64 0] 115 false false)], [], 1, .tuple [.int .i64 5, .bool true]⟩
def plainV2 (n c d : Nat) : Tq := ⟨(0, 0), (0, 0), (pcV 2 n c), 0, [.ptr 64 0, .int .i64 2], [(64, .cells [.int .i64 (pl 1 32768), .pre (pl 3 32768), .bool false, .int .i64 0, .int .i64 0] 115 false false)], [], 66, [(64, .cells [.int .i64 (pl 1 32770), .pre (pl 3 32768), .bool false, .int .i64 0, .int .i64 0] 115 false false)], [], 0, .tuple [.int .i64 1, .bool true]⟩
def plainV3 (n c d : Nat) : Tq := ⟨(0, 0), (0, 0), (pcV 3 n c), 0, [.ptr 64 0, .int .i64 2], [(64, .cells [.int .i64 (pl 1 32768), .pre (pl 3 32768), .bool false, .int .i64 0, .int .i64 0] 115 false false)], [], 66, [(64, .cells [.int .i64 (pl 1 32771), .pre (pl 3 32768), .bool false, .int .i64 0, .int .i64 0] 115 false false)], [], 0, .tuple [.int .i64 1, .bool true]⟩
def plainV4 (n c d : Nat) : Tq := ⟨(0, 0), (0, 0), (pcV 4 n c), 0, [.ptr 64 0, .int .i64 2], [(64, .cells [.int .i64 (pl 1 32768), .pre (pl 3 32768), .bool false, .int .i64 0, .int .i64 0] 115 false false)], [], 66, [(64, .cells [.int .i64 (pl 1 32773), .pre (pl 3 32768), .bool false, .int .i64 0, .int .i64 0] 115 false false)], [], 0, .tuple [.int .i64 1, .bool true]⟩
def plainV5 (n c d : Nat) : Tq := ⟨(0, 0), (0, 0), (pcV 5 n c), 0, [.ptr 64 0, .int .i64 2], [(64, .cells [.int .i64 (pl 1 32768), .pre (pl 3 32768), .bool false, .int .i64 0, .int .i64 0] 115 false false)], [], 66, [(64, .cells [.int .i64 (pl 1 32771), .pre (pl 3 32768), .bool false, .int .i64 0, .int .i64 0] 115 false false)], [], 0, .tuple [.int .i64 1, .bool true]⟩
def plainV6 (n c d : Nat) : Tq := ⟨(0, 0), (0, 0), (pcV 6 n c), 0, [.ptr 64 0, .int .i64 2], [(64, .cells [.int .i64 (pl 1 32768), .pre (pl 3 32768), .bool false, .int .i64 0, .int .i64 0] 115 false false)], [], 66, [(64, .cells [.int .i64 (pl 1 32774), .pre (pl 3 32768), .bool false, .int .i64 0, .int .i64 0] 115 false false)], [], 0, .tuple [.int .i64 1, .bool true]⟩
def plainV7 (n c d : Nat) : Tq := ⟨(0, 0), (0, 0), (pcV 7 n c), 0, [.ptr 64 0, .int .i64 2], [(64, .cells [.int .i64 (pl 1 32768), .pre (pl 3 32768), .bool false, .int .i64 0, .int .i64 0] 115 false false)], [], 66, [(64, .cells [.int .i64 (pl 1 32769), .pre (pl 3 32768), .bool false, .int .i64 0, .int .i64 0] 115 false false)], [], 0, .tuple [.int .i64 1, .bool true]⟩
def plainV8 (n c d : Nat) : Tq := ⟨(0, 0), (0, 0), (pcV 8 n c), 0, [.ptr 64 0, .int .i64 2], [(64, .cells [.int .i64 (pl 1 32768), .pre (pl 3 32768), .bool false, .int .i64 0, .int .i64 0] 115 false false)], [], 66, [(64, .cells [.int .i64 (pl 1 32776), .pre (pl 3 32768), .bool false, .int .i64 0, .int .i64 0] 115 false false)], [], 0, .tuple [.int .i64 1, .bool true]⟩
def plainV9 (n c d : Nat) : Tq := ⟨(0, 0), (0, 0), (pcV 9 n c), 0, [.ptr 64 0, .int .i64 2], [(64, .cells [.int .i64 (pl 1 32768), .pre (pl 3 32768), .bool false, .int .i64 0, .int .i64 0] 115 false false)], [], 66, [(64, .cells [.int .i64 (pl 1 32769), .pre (pl 3 32768), .bool false, .int .i64 0, .int .i64 0] 115 false false)], [], 1, .tuple [.int .i64 5, .bool true]⟩
def plainV10 (n c d : Nat) : Tq := ⟨(0, 0), (0, 0), (pcV 10 n c), 0, [.ptr 64 0, .int .i64 2], [(64, .cells [.int .i64 (pl 1 32768), .pre (pl 3 32768), .bool false, .int .i64 0, .int .i64 0] 115 false false)], [], 66, [(64, .cells [.int .i64 (pl 1 32771), .pre (pl 3 32768), .bool false, .int .i64 0, .int .i64 0] 115 false false)], [], 0, .tuple [.int .i64 1, .bool true]⟩
def plainV (n c d : Nat) : List Tq := [plainV0 n c d, plainV1 n c d, plainV2 n c d, plainV3 n c d, plainV4 n c d, plainV5 n c d, plainV6 n c d, plainV7 n c d, plainV8 n c d, plainV9 n c d, plainV10 n c d]
def plainK (k n c d : Nat) : List Tq := match k with
  | 0 => [plainV0 n c d]
  | 1 => [plainV1 n c d]
  | 2 => [plainV2 n c d]
  | 3 => [plainV3 n c d]
  | 4 => [plainV4 n c d]
  | 5 => [plainV5 n c d]
  | 6 => [plainV6 n c d]
  | 7 => [plainV7 n c d]
  | 8 => [plainV8 n c d]
  | 9 => [plainV9 n c d]
  | 10 => [plainV10 n c d]
  | _ => []
theorem plainK_mem (n c d : Nat) (T : Tq) : ∀ k, T ∈ plainK k n c d → T ∈ plainV n c d := by
  intro k h
  unfold plainK at h
  split at h
  · simp only [List.mem_cons, List.not_mem_nil, or_false] at h
    rcases h with rfl
    · exact .head _
  · simp only [List.mem_cons, List.not_mem_nil, or_false] at h
    rcases h with rfl
    · exact .tail _ (.head _)
  · simp only [List.mem_cons, List.not_mem_nil, or_false] at h
    rcases h with rfl
    · exact .tail _ (.tail _ (.head _))
  · simp only [List.mem_cons, List.not_mem_nil, or_false] at h
    rcases h with rfl
    · exact .tail _ (.tail _ (.tail _ (.head _)))
  · simp only [List.mem_cons, List.not_mem_nil, or_false] at h
    rcases h with rfl
    · exact .tail _ (.tail _ (.tail _ (.tail _ (.head _))))
  · simp only [List.mem_cons, List.not_mem_nil, or_false] at h
    rcases h with rfl
    · exact .tail _ (.tail _ (.tail _ (.tail _ (.tail _ (.head _)))))
  · simp only [List.mem_cons, List.not_mem_nil, or_false] at h
    rcases h with rfl
    · exact .tail _ (.tail _ (.tail _ (.tail _ (.tail _ (.tail _ (.head _))))))
  · simp only [List.mem_cons, List.not_mem_nil, or_false] at h
    rcases h with rfl
    · exact .tail _ (.tail _ (.tail _ (.tail _ (.tail _ (.tail _ (.tail _ (.head _)))))))
  · simp only [List.mem_cons, List.not_mem_nil, or_false] at h
    rcases h with rfl
    · exact .tail _ (.tail _ (.tail _ (.tail _ (.tail _ (.tail _ (.tail _ (.tail _ (.head _))))))))
  · simp only [List.mem_cons, List.not_mem_nil, or_false] at h
    rcases h with rfl
    · exact .tail _ (.tail _ (.tail _ (.tail _ (.tail _ (.tail _ (.tail _ (.tail _ (.tail _ (.head _)))))))))
  · simp only [List.mem_cons, List.not_mem_nil, or_false] at h
    rcases h with rfl
    · exact .tail _ (.tail _ (.tail _ (.tail _ (.tail _ (.tail _ (.tail _ (.tail _ (.tail _ (.tail _ (.head _))))))))))
  · cases h
def statementV0 (n c d : Nat) : Tq := ⟨(0, 0), (0, 0), (pcV 0 n c), 0, [.ptr 64 0, .agg [.int .i64 1, .str 3 7496054, .int .i64 (pl 1 32768), .int .i64 (pl 1 32771), .bool false], .bool true], [(64, .cells [.pre (pl 3 32768), .int .i64 (pl 1 32768), .int .i64 1, .str 3 7496054, .int .i64 (pl 1 32768), .int .i64 (pl 1 32771), .bool false, .nilslice, .int .i64 2, .nilslice, .bool false, .int .i64 1, .int .i64 1, .rng 66 0 600000, .map 65] 77 false false), (65, .map [] 0)], [], 67, [(64, .cells [.pre (pl 3 32768), .int .i64 (pl 1 (Nat.add 32775 d)), .int .i64 5, .str 1 59, .int .i64 (pl 1 (Nat.add 32774 d)), .int .i64 (pl 1 (Nat.add 32775 d)), .bool false, .nilslice, .int .i64 0, .nilslice, .bool false, .int .i64 1, .int .i64 1, .rng 66 0 600000, .map 65] 77 false false), (65, .map [] 0)], [(108, .cells [.int .i64 1, .str n c, .nilslice, .int .i64 (pl 1 32772), .int .i64 (pl 1 (Nat.add 32774 d)), .int .i64 0, .str 0 0, .nilslice, .int .i64 0, .int .i64 0] 28 false false), (111, .cells [.int .i64 61, .str 0 0, .slice 108 0 2 2 true, .int .i64 (pl 1 32772), .int .i64 (pl 1 (Nat.add 32774 d))] 28 true false)], 54, .agg [.int .i64 60, .str 3 7496054, .slice 111 0 1 1 false, .int .i64 (pl 1 32768), .int .i64 (pl 1 (Nat.add 32775 d))]⟩
def statementV1 (n c d : Nat) : Tq := ⟨(0, 0), (0, 0), (pcV 1 n c), 0, [.ptr 64 0, .agg [.int .i64 5, .str 1 123, .int .i64 (pl 1 32768), .int .i64 (pl 1 32769), .bool false], .bool true], [(64, .cells [.pre (pl 3 32768), .int .i64 (pl 1 32768), .int .i64 5, .str 1 123, .int .i64 (pl 1 32768), .int .i64 (pl 1 32769), .bool false, .nilslice, .int .i64 2, .nilslice, .bool false, .int .i64 1, .int .i64 1, .rng 66 0 600000, .map 65] 77 false false), (65, .map [] 0)], [], 67, [(64, .cells [.pre (pl 3 32768), .int .i64 (pl 1 (Nat.add 32778 d)), .int .i64 5, .str 1 125, .int .i64 (pl 1 (Nat.add 32777 d)), .int .i64 (pl 1 (Nat.add 32778 d)), .bool false, .nilslice, .int .i64 0, .nilslice, .bool false, .int .i64 1, .int .i64 1, .rng 66 0 600000, .map 65] 77 false false), (65, .map [] 0)], [(133, .cells [.int .i64 1, .str n c, .nilslice, .int .i64 (pl 1 32774), .int .i64 (pl 1 (Nat.add 32776 d)), .int .i64 0, .str 0 0, .nilslice, .int .i64 0, .int .i64 0] 28 false false), (136, .cells [.int .i64 61, .str 0 0, .slice 133 0 2 2 true, .int .i64 (pl 1 32774), .int .i64 (pl 1 (Nat.add 32776 d))] 28 true false), (146, .cells [.int .i64 60, .str 3 7496054, .slice 136 0 1 1 false, .int .i64 (pl 1 32770), .int .i64 (pl 1 (Nat.add 32776 d))] 28 true false)], 87, .agg [.int .i64 58, .str 0 0, .slice 146 0 1 1 false, .int .i64 (pl 1 32768), .int .i64 (pl 1 (Nat.add 32778 d))]⟩
def statementV2 (n c d : Nat) : Tq := ⟨(0, 0), (0, 0), (pcV 2 n c), 0, [.ptr 64 0, .agg [.int .i64 1, .str 2 26217, .int .i64 (pl 1 32768), .int .i64 (pl 1 32770), .bool false], .bool true], [(64, .cells [.pre (pl 3 32768), .int .i64 (pl 1 32768), .int .i64 1, .str 2 26217, .int .i64 (pl 1 32768), .int .i64 (pl 1 32770), .bool false, .nilslice, .int .i64 2, .nilslice, .bool false, .int .i64 1, .int .i64 1, .rng 66 0 600000, .map 65] 77 false false), (65, .map [] 0)], [], 67, [(64, .cells [.pre (pl 3 32768), .int .i64 (pl 1 (Nat.add 32790 d)), .int .i64 5, .str 1 59, .int .i64 (pl 1 (Nat.add 32789 d)), .int .i64 (pl 1 (Nat.add 32790 d)), .bool false, .nilslice, .int .i64 0, .nilslice, .bool false, .int .i64 1, .int .i64 1, .int .i64 (pl 1 (Nat.add 32788 d)), .map 65] 77 false false), (65, .map [] 0)], [(261, .cells [.int .i64 1, .str n c, .nilslice, .int .i64 (pl 1 32779), .int .i64 (pl 1 (Nat.add 32781 d)), .int .i64 0, .str 0 0, .nilslice, .int .i64 0, .int .i64 0] 28 false false), (264, .cells [.int .i64 61, .str 0 0, .slice 261 0 2 2 true, .int .i64 (pl 1 32779), .int .i64 (pl 1 (Nat.add 32781 d))] 28 true false), (426, .cells [.int .i64 1, .str 1 98, .nilslice, .int .i64 (pl 1 (Nat.add 32788 d)), .int .i64 (pl 1 (Nat.add 32789 d))] 28 false false), (428, .cells [.int .i64 1, .str 1 97, .nilslice, .int .i64 (pl 1 32772), .int .i64 (pl 1 32773), .int .i64 60, .str 3 7496054, .slice 264 0 1 1 false, .int .i64 (pl 1 32775), .int .i64 (pl 1 (Nat.add 32782 d)), .int .i64 57, .str 0 0, .slice 426 0 1 1 true, .int .i64 (pl 1 (Nat.add 32788 d)), .int .i64 (pl 1 (Nat.add 32790 d))] 28 false false)], 363, .agg [.int .i64 62, .str 0 0, .slice 428 0 3 3 true, .int .i64 (pl 1 32768), .int .i64 (pl 1 (Nat.add 32790 d))]⟩
def statementV3 (n c d : Nat) : Tq := ⟨(0, 0), (0, 0), (pcV 3 n c), 0, [.ptr 64 0, .agg [.int .i64 1, .str 3 7499622, .int .i64 (pl 1 32768), .int .i64 (pl 1 32771), .bool false], .bool true], [(64, .cells [.pre (pl 3 32768), .int .i64 (pl 1 32768), .int .i64 1, .str 3 7499622, .int .i64 (pl 1 32768), .int .i64 (pl 1 32771), .bool false, .nilslice, .int .i64 2, .nilslice, .bool false, .int .i64 1, .int .i64 1, .rng 66 0 600000, .map 65] 77 false false), (65, .map [] 0)], [], 67, [(64, .cells [.pre (pl 3 32768), .int .i64 (pl 1 (Nat.add 32786 d)), .int .i64 5, .str 1 59, .int .i64 (pl 1 (Nat.add 32785 d)), .int .i64 (pl 1 (Nat.add 32786 d)), .bool false, .nilslice, .int .i64 0, .nilslice, .bool false, .int .i64 1, .int .i64 1, .int .i64 (pl 1 (Nat.add 32783 d)), .map 65] 77 false false), (65, .map [] 0)], [(135, .cells [.int .i64 1, .str n c, .nilslice, .int .i64 (pl 1 32777), .int .i64 (pl 1 (Nat.add 32779 d)), .int .i64 0, .str 0 0, .nilslice, .int .i64 0, .int .i64 0] 28 false false), (138, .cells [.int .i64 61, .str 0 0, .slice 135 0 2 2 true, .int .i64 (pl 1 32777), .int .i64 (pl 1 (Nat.add 32779 d))] 28 false false), (282, .cells [.int .i64 60, .str 3 7496054, .slice 138 0 1 1 true, .int .i64 (pl 1 32773), .int .i64 (pl 1 (Nat.add 32779 d)), .int .i64 1, .str 1 97, .nilslice, .int .i64 (pl 1 (Nat.add 32783 d)), .int .i64 (pl 1 (Nat.add 32784 d)), .int .i64 59, .str 0 0, .nilslice, .int .i64 (pl 1 (Nat.add 32785 d)), .int .i64 (pl 1 (Nat.add 32786 d))] 28 false false)], 217, .agg [.int .i64 64, .str 0 0, .slice 282 0 3 3 true, .int .i64 (pl 1 32768), .int .i64 (pl 1 (Nat.add 32786 d))]⟩
def statementV4 (n c d : Nat) : Tq := ⟨(0, 0), (0, 0), (pcV 4 n c), 0, [.ptr 64 0, .agg [.int .i64 1, .str 5 435610544247, .int .i64 (pl 1 32768), .int .i64 (pl 1 32773), .bool false], .bool true], [(64, .cells [.pre (pl 3 32768), .int .i64 (pl 1 32768), .int .i64 1, .str 5 435610544247, .int .i64 (pl 1 32768), .int .i64 (pl 1 32773), .bool false, .nilslice, .int .i64 2, .nilslice, .bool false, .int .i64 1, .int .i64 1, .rng 66 0 600000, .map 65] 77 false false), (65, .map [] 0)], [], 67, [(64, .cells [.pre (pl 3 32768), .int .i64 (pl 1 (Nat.add 32792 d)), .int .i64 5, .str 1 125, .int .i64 (pl 1 (Nat.add 32791 d)), .int .i64 (pl 1 (Nat.add 32792 d)), .bool false, .nilslice, .int .i64 0, .nilslice, .bool false, .int .i64 1, .int .i64 1, .int .i64 (pl 1 32775), .map 65] 77 false false), (65, .map [] 0)], [(310, .cells [.int .i64 1, .str n c, .nilslice, .int .i64 (pl 1 32786), .int .i64 (pl 1 (Nat.add 32788 d)), .int .i64 0, .str 0 0, .nilslice, .int .i64 0, .int .i64 0] 28 false false), (313, .cells [.int .i64 61, .str 0 0, .slice 310 0 2 2 true, .int .i64 (pl 1 32786), .int .i64 (pl 1 (Nat.add 32788 d))] 28 true false), (323, .cells [.int .i64 60, .str 3 7496054, .slice 313 0 1 1 false, .int .i64 (pl 1 32782), .int .i64 (pl 1 (Nat.add 32788 d))] 28 true false), (332, .cells [.int .i64 58, .str 0 0, .slice 323 0 1 1 false, .int .i64 (pl 1 32780), .int .i64 (pl 1 (Nat.add 32790 d))] 28 true false), (349, .cells [.int .i64 1, .str 1 97, .nilslice, .int .i64 (pl 1 32775), .int .i64 (pl 1 32776), .int .i64 58, .str 0 0, .slice 332 0 1 1 false, .int .i64 (pl 1 32778), .int .i64 (pl 1 (Nat.add 32792 d))] 28 false false)], 284, .agg [.int .i64 66, .str 0 0, .slice 349 0 2 2 true, .int .i64 (pl 1 32768), .int .i64 (pl 1 (Nat.add 32792 d))]⟩
def statementV5 (n c d : Nat) : Tq := ⟨(0, 0), (0, 0), (pcV 6 n c), 0, [.ptr 64 0, .agg [.int .i64 1, .str 6 114776364119923, .int .i64 (pl 1 32768), .int .i64 (pl 1 32774), .bool false], .bool true], [(64, .cells [.pre (pl 3 32768), .int .i64 (pl 1 32768), .int .i64 1, .str 6 114776364119923, .int .i64 (pl 1 32768), .int .i64 (pl 1 32774), .bool false, .nilslice, .int .i64 2, .nilslice, .bool false, .int .i64 1, .int .i64 1, .rng 66 0 600000, .map 65] 77 false false), (65, .map [] 0)], [], 67, [(64, .cells [.pre (pl 3 32768), .int .i64 (pl 1 (Nat.add 32797 d)), .int .i64 5, .str 1 125, .int .i64 (pl 1 (Nat.add 32796 d)), .int .i64 (pl 1 (Nat.add 32797 d)), .bool false, .nilslice, .int .i64 0, .nilslice, .bool false, .int .i64 1, .int .i64 1, .int .i64 (pl 1 32786), .map 65] 77 false false), (65, .map [] 0)], [(408, .cells [.int .i64 1, .str n c, .nilslice, .int .i64 (pl 1 32793), .int .i64 (pl 1 (Nat.add 32795 d)), .int .i64 0, .str 0 0, .nilslice, .int .i64 0, .int .i64 0] 28 false false), (411, .cells [.int .i64 61, .str 0 0, .slice 408 0 2 2 true, .int .i64 (pl 1 32793), .int .i64 (pl 1 (Nat.add 32795 d))] 28 true false), (421, .cells [.int .i64 60, .str 3 7496054, .slice 411 0 1 1 false, .int .i64 (pl 1 32789), .int .i64 (pl 1 (Nat.add 32795 d))] 28 true false), (427, .cells [.int .i64 3, .str 1 49, .nilslice, .int .i64 (pl 1 32786), .int .i64 (pl 1 32787), .int .i64 58, .str 0 0, .slice 421 0 1 1 false, .int .i64 (pl 1 32789), .int .i64 (pl 1 (Nat.add 32795 d))] 28 false false), (430, .cells [.int .i64 75, .str 0 0, .slice 427 0 2 2 true, .int .i64 (pl 1 32781), .int .i64 (pl 1 (Nat.add 32795 d))] 28 true false), (439, .cells [.int .i64 1, .str 1 97, .nilslice, .int .i64 (pl 1 32776), .int .i64 (pl 1 32777), .int .i64 74, .str 0 0, .slice 430 0 1 1 false, .int .i64 (pl 1 32779), .int .i64 (pl 1 (Nat.add 32797 d))] 28 false false)], 374, .agg [.int .i64 73, .str 0 0, .slice 439 0 2 2 true, .int .i64 (pl 1 32768), .int .i64 (pl 1 (Nat.add 32797 d))]⟩
def statementV6 (n c d : Nat) : Tq := ⟨(0, 0), (0, 0), (pcV 7 n c), 0, [.ptr 64 0, .agg [.int .i64 1, .str 1 108, .int .i64 (pl 1 32768), .int .i64 (pl 1 32769), .bool false], .bool true], [(64, .cells [.pre (pl 3 32768), .int .i64 (pl 1 32768), .int .i64 1, .str 1 108, .int .i64 (pl 1 32768), .int .i64 (pl 1 32769), .bool false, .nilslice, .int .i64 2, .nilslice, .bool false, .int .i64 1, .int .i64 1, .rng 66 0 600000, .map 65] 77 false false), (65, .map [] 0)], [], 67, [(64, .cells [.pre (pl 3 32768), .int .i64 (pl 1 (Nat.add 32778 d)), .int .i64 5, .str 1 59, .int .i64 (pl 1 (Nat.add 32777 d)), .int .i64 (pl 1 (Nat.add 32778 d)), .bool false, .nilslice, .int .i64 0, .nilslice, .bool false, .int .i64 1, .int .i64 1, .rng 66 0 600000, .map 65] 77 false false), (65, .map [] 0)], [(153, .cells [.int .i64 1, .str n c, .nilslice, .int .i64 (pl 1 32775), .int .i64 (pl 1 (Nat.add 32777 d)), .int .i64 0, .str 0 0, .nilslice, .int .i64 0, .int .i64 0] 28 false false), (156, .cells [.int .i64 61, .str 0 0, .slice 153 0 2 2 true, .int .i64 (pl 1 32775), .int .i64 (pl 1 (Nat.add 32777 d))] 28 true false), (167, .cells [.int .i64 60, .str 3 7496054, .slice 156 0 1 1 false, .int .i64 (pl 1 32771), .int .i64 (pl 1 (Nat.add 32778 d))] 28 false false)], 102, .agg [.int .i64 76, .str 1 108, .slice 167 0 1 1 true, .int .i64 (pl 1 32768), .int .i64 (pl 1 (Nat.add 32778 d))]⟩
def statementV7 (n c d : Nat) : Tq := ⟨(0, 0), (0, 0), (pcV 8 n c), 0, [.ptr 64 0, .agg [.int .i64 1, .str 8 7957695015192261990, .int .i64 (pl 1 32768), .int .i64 (pl 1 32776), .bool false], .bool true], [(64, .cells [.pre (pl 3 32768), .int .i64 (pl 1 32768), .int .i64 1, .str 8 7957695015192261990, .int .i64 (pl 1 32768), .int .i64 (pl 1 32776), .bool false, .nilslice, .int .i64 2, .nilslice, .bool false, .int .i64 1, .int .i64 1, .rng 66 0 600000, .map 65] 77 false false), (65, .map [] 0)], [], 67, [(64, .cells [.pre (pl 3 32768), .int .i64 (pl 1 (Nat.add 32793 (Nat.add d d))), .int .i64 5, .str 1 125, .int .i64 (pl 1 (Nat.add 32792 (Nat.add d d))), .int .i64 (pl 1 (Nat.add 32793 (Nat.add d d))), .bool false, .nilslice, .int .i64 0, .nilslice, .bool false, .int .i64 1, .int .i64 1, .rng 66 0 600000, .map 65] 77 false false), (65, .map [] 0)], [(209, .cells [.int .i64 1, .str n c, .nilslice, .int .i64 (pl 1 (Nat.add 32789 d)), .int .i64 (pl 1 (Nat.add 32791 (Nat.add d d))), .int .i64 0, .str 0 0, .nilslice, .int .i64 0, .int .i64 0] 28 false false), (212, .cells [.int .i64 61, .str 0 0, .slice 209 0 2 2 true, .int .i64 (pl 1 (Nat.add 32789 d)), .int .i64 (pl 1 (Nat.add 32791 (Nat.add d d)))] 28 true false), (222, .cells [.int .i64 60, .str 3 7496054, .slice 212 0 1 1 false, .int .i64 (pl 1 (Nat.add 32785 d)), .int .i64 (pl 1 (Nat.add 32791 (Nat.add d d)))] 28 true false), (231, .cells [.int .i64 1, .str (Nat.add 1 n) (Nat.add 102 (Nat.mul 256 c)), .nilslice, .int .i64 (pl 1 32777), .int .i64 (pl 1 (Nat.add 32780 d)), .int .i64 21, .str 0 0, .nilslice, .int .i64 (pl 1 (Nat.add 32780 d)), .int .i64 (pl 1 (Nat.add 32782 d)), .int .i64 58, .str 0 0, .slice 222 0 1 1 false, .int .i64 (pl 1 (Nat.add 32783 d)), .int .i64 (pl 1 (Nat.add 32793 (Nat.add d d)))] 28 false false), (234, .cells [.int .i64 19, .str 0 0, .slice 231 0 3 3 true, .int .i64 (pl 1 32768), .int .i64 (pl 1 (Nat.add 32793 (Nat.add d d)))] 28 false false)], 169, .agg [.int .i64 20, .str 0 0, .slice 234 0 1 1 true, .int .i64 (pl 1 32768), .int .i64 (pl 1 (Nat.add 32793 (Nat.add d d)))]⟩
def statementV8 (n c d : Nat) : Tq := ⟨(0, 0), (0, 0), (pcV 9 n c), 0, [.ptr 64 0, .agg [.int .i64 5, .str 1 40, .int .i64 (pl 1 32768), .int .i64 (pl 1 32769), .bool false], .bool true], [(64, .cells [.pre (pl 3 32768), .int .i64 (pl 1 32768), .int .i64 5, .str 1 40, .int .i64 (pl 1 32768), .int .i64 (pl 1 32769), .bool false, .nilslice, .int .i64 2, .nilslice, .bool false, .int .i64 1, .int .i64 1, .rng 66 0 600000, .map 65] 77 false false), (65, .map [] 0)], [], 67, [(64, .cells [.pre (pl 3 32768), .int .i64 (pl 1 (Nat.add 32787 d)), .int .i64 5, .str 1 59, .int .i64 (pl 1 (Nat.add 32786 d)), .int .i64 (pl 1 (Nat.add 32787 d)), .bool false, .nilslice, .int .i64 0, .nilslice, .bool false, .int .i64 1, .int .i64 1, .int .i64 (pl 1 32769), .map 65] 77 false false), (65, .map [] 0)], [(317, .cells [.int .i64 1, .str n c, .nilslice, .int .i64 (pl 1 32781), .int .i64 (pl 1 (Nat.add 32783 d)), .int .i64 0, .str 0 0, .nilslice, .int .i64 0, .int .i64 0] 28 false false), (320, .cells [.int .i64 61, .str 0 0, .slice 317 0 2 2 true, .int .i64 (pl 1 32781), .int .i64 (pl 1 (Nat.add 32783 d))] 28 true false), (330, .cells [.int .i64 60, .str 3 7496054, .slice 320 0 1 1 false, .int .i64 (pl 1 32777), .int .i64 (pl 1 (Nat.add 32783 d))] 28 true false), (338, .cells [.int .i64 21, .str 0 0, .nilslice, .int .i64 (pl 1 32769), .int .i64 (pl 1 32771), .int .i64 58, .str 0 0, .slice 330 0 1 1 false, .int .i64 (pl 1 32775), .int .i64 (pl 1 (Nat.add 32785 d))] 28 false false), (391, .cells [.int .i64 22, .str 0 0, .slice 338 0 2 2 true, .int .i64 (pl 1 32769), .int .i64 (pl 1 (Nat.add 32785 d))] 28 false false), (432, .cells [.int .i64 26, .str 0 0, .slice 391 0 1 1 true, .int .i64 (pl 1 32768), .int .i64 (pl 1 (Nat.add 32786 d))] 28 false false)], 367, .agg [.int .i64 57, .str 0 0, .slice 432 0 1 1 true, .int .i64 (pl 1 32768), .int .i64 (pl 1 (Nat.add 32787 d))]⟩
def statementV9 (n c d : Nat) : Tq := ⟨(0, 0), (0, 0), (pcV 10 n c), 0, [.ptr 64 0, .agg [.int .i64 1, .str 3 7628140, .int .i64 (pl 1 32768), .int .i64 (pl 1 32771), .bool false], .bool true], [(64, .cells [.pre (pl 3 32768), .int .i64 (pl 1 32768), .int .i64 1, .str 3 7628140, .int .i64 (pl 1 32768), .int .i64 (pl 1 32771), .bool false, .nilslice, .int .i64 2, .nilslice, .bool false, .int .i64 1, .int .i64 1, .rng 66 0 600000, .map 65] 77 false false), (65, .map [] 0)], [], 67, [(64, .cells [.pre (pl 3 32768), .int .i64 (pl 1 (Nat.add 32775 d)), .int .i64 5, .str 1 59, .int .i64 (pl 1 (Nat.add 32774 d)), .int .i64 (pl 1 (Nat.add 32775 d)), .bool false, .nilslice, .int .i64 0, .nilslice, .bool false, .int .i64 1, .int .i64 1, .rng 66 0 600000, .map 65] 77 false false), (65, .map [] 0)], [(108, .cells [.int .i64 1, .str n c, .nilslice, .int .i64 (pl 1 32772), .int .i64 (pl 1 (Nat.add 32774 d)), .int .i64 0, .str 0 0, .nilslice, .int .i64 0, .int .i64 0] 28 false false), (111, .cells [.int .i64 61, .str 0 0, .slice 108 0 2 2 true, .int .i64 (pl 1 32772), .int .i64 (pl 1 (Nat.add 32774 d))] 28 true false)], 54, .agg [.int .i64 60, .str 3 7628140, .slice 111 0 1 1 false, .int .i64 (pl 1 32768), .int .i64 (pl 1 (Nat.add 32775 d))]⟩
def statementV (n c d : Nat) : List Tq := [statementV0 n c d, statementV1 n c d, statementV2 n c d, statementV3 n c d, statementV4 n c d, statementV5 n c d, statementV6 n c d, statementV7 n c d, statementV8 n c d, statementV9 n c d]
def statementK (k n c d : Nat) : List Tq := match k with
  | 0 => [statementV0 n c d]
  | 1 => [statementV1 n c d]
  | 2 => [statementV2 n c d]
  | 3 => [statementV3 n c d]
  | 4 => [statementV4 n c d]
  | 6 => [statementV5 n c d]
  | 7 => [statementV6 n c d]
  | 8 => [statementV7 n c d]
  | 9 => [statementV8 n c d]
  | 10 => [statementV9 n c d]
  | _ => []
theorem statementK_mem (n c d : Nat) (T : Tq) : ∀ k, T ∈ statementK k n c d → T ∈ statementV n c d := by
  intro k h
  unfold statementK at h
  split at h
  · simp only [List.mem_cons, List.not_mem_nil, or_false] at h
    rcases h with rfl
    · exact .head _
  · simp only [List.mem_cons, List.not_mem_nil, or_false] at h
    rcases h with rfl
    · exact .tail _ (.head _)
  · simp only [List.mem_cons, List.not_mem_nil, or_false] at h
    rcases h with rfl
    · exact .tail _ (.tail _ (.head _))
  · simp only [List.mem_cons, List.not_mem_nil, or_false] at h
    rcases h with rfl
    · exact .tail _ (.tail _ (.tail _ (.head _)))
  · simp only [List.mem_cons, List.not_mem_nil, or_false] at h
    rcases h with rfl
    · exact .tail _ (.tail _ (.tail _ (.tail _ (.head _))))
  · simp only [List.mem_cons, List.not_mem_nil, or_false] at h
    rcases h with rfl
    · exact .tail _ (.tail _ (.tail _ (.tail _ (.tail _ (.head _)))))
  · simp only [List.mem_cons, List.not_mem_nil, or_false] at h
    rcases h with rfl
    · exact .tail _ (.tail _ (.tail _ (.tail _ (.tail _ (.tail _ (.head _))))))
  · simp only [List.mem_cons, List.not_mem_nil, or_false] at h
    rcases h with rfl
    · exact .tail _ (.tail _ (.tail _ (.tail _ (.tail _ (.tail _ (.tail _ (.head _)))))))
  · simp only [List.mem_cons, List.not_mem_nil, or_false] at h
    rcases h with rfl
    · exact .tail _ (.tail _ (.tail _ (.tail _ (.tail _ (.tail _ (.tail _ (.tail _ (.head _))))))))
  · simp only [List.mem_cons, List.not_mem_nil, or_false] at h
    rcases h with rfl
    · exact .tail _ (.tail _ (.tail _ (.tail _ (.tail _ (.tail _ (.tail _ (.tail _ (.tail _ (.head _)))))))))
  · cases h
def blockV0 (n c d : Nat) : Tq := ⟨(0, 0), (0, 0), (pcV 5 n c), 0, [.ptr 64 0], [(64, .cells [.pre (pl 3 32768), .int .i64 (pl 1 32771), .int .i64 1, .str 3 7959156, .int .i64 (pl 1 32768), .int .i64 (pl 1 32771), .bool false, .nilslice, .int .i64 0, .nilslice, .bool false, .int .i64 1, .int .i64 1, .rng 66 0 600000, .map 65] 77 false false), (65, .map [] 0)], [], 67, [(64, .cells [.pre (pl 3 32768), .int .i64 (pl 1 32775), .int .i64 5, .str 1 125, .int .i64 (pl 1 32774), .int .i64 (pl 1 32775), .bool false, .nilslice, .int .i64 0, .nilslice, .bool false, .int .i64 1, .int .i64 1, .rng 66 0 600000, .map 65] 77 false false), (65, .map [] 0)], [], 32, .agg [.int .i64 58, .str 0 0, .nilslice, .int .i64 (pl 1 32772), .int .i64 (pl 1 32775)]⟩
def blockV1 (n c d : Nat) : Tq := ⟨(0, 0), (0, 0), (pcV 5 n c), 0, [.ptr 64 0], [(64, .cells [.pre (pl 3 32768), .int .i64 (pl 1 32781), .int .i64 5, .str 1 123, .int .i64 (pl 1 32782), .int .i64 (pl 1 32783), .bool false, .nilslice, .int .i64 1, .nilslice, .bool false, .int .i64 1, .int .i64 1, .rng 66 0 600000, .map 65] 77 false false), (65, .map [] 0)], [], 67, [(64, .cells [.pre (pl 3 32768), .int .i64 (pl 1 (Nat.add 32792 d)), .int .i64 5, .str 1 125, .int .i64 (pl 1 (Nat.add 32791 d)), .int .i64 (pl 1 (Nat.add 32792 d)), .bool false, .nilslice, .int .i64 0, .nilslice, .bool false, .int .i64 1, .int .i64 1, .rng 66 0 600000, .map 65] 77 false false), (65, .map [] 0)], [(130, .cells [.int .i64 1, .str n c, .nilslice, .int .i64 (pl 1 32788), .int .i64 (pl 1 (Nat.add 32790 d)), .int .i64 0, .str 0 0, .nilslice, .int .i64 0, .int .i64 0] 28 false false), (133, .cells [.int .i64 61, .str 0 0, .slice 130 0 2 2 true, .int .i64 (pl 1 32788), .int .i64 (pl 1 (Nat.add 32790 d))] 28 true false), (143, .cells [.int .i64 60, .str 3 7496054, .slice 133 0 1 1 false, .int .i64 (pl 1 32784), .int .i64 (pl 1 (Nat.add 32790 d))] 28 true false)], 84, .agg [.int .i64 58, .str 0 0, .slice 143 0 1 1 false, .int .i64 (pl 1 32782), .int .i64 (pl 1 (Nat.add 32792 d))]⟩
def blockV (n c d : Nat) : List Tq := [blockV0 n c d, blockV1 n c d]
def blockK (k n c d : Nat) : List Tq := match k with
  | 5 => [blockV0 n c d, blockV1 n c d]
  | _ => []
theorem blockK_mem (n c d : Nat) (T : Tq) : ∀ k, T ∈ blockK k n c d → T ∈ blockV n c d := by
  intro k h
  unfold blockK at h
  split at h
  · simp only [List.mem_cons, List.not_mem_nil, or_false] at h
    rcases h with rfl | rfl
    · exact .head _
    · exact .tail _ (.head _)
  · cases h
/-- the name of an item -/
def nmV (j : Nat) : Nat × Nat := match Nat.ble 10 j with
  | true => (3, Nat.add 118 (Nat.add 12544 (Nat.mul 65536 (Nat.add 48 (Nat.sub j 10)))))
  | false => (2, Nat.add 118 (Nat.mul 256 (Nat.add 48 j)))
def atK2 (f : Nat → Nat → Nat → Nat → List Tq) (j k : Nat) : List Tq := f k (nmV j).1 (nmV j).2 (Nat.sub (nmV j).1 2)
def atV (f : Nat → Nat → Nat → List Tq) (j : Nat) : List Tq := f (nmV j).1 (nmV j).2 (Nat.sub (nmV j).1 2)
/-- all templates are well told, and their runs come to them -/
noncomputable def okJ (f : FuncId) (l : List Tq) : Bool := l.all fun T => wfT T.tm && okRun T.tm ((fnsF Tryz.prog orcA 3000).call f T.tm.args (memT tabs T.tm))
theorem okJ_mem {f : FuncId} {l : List Tq} (h : okJ f l = true) : ∀ T ∈ l, TqOk Tryz.prog orcA tabs 3000 f T := fun T hT => and_of (List.all_eq_true.1 h T hT)
/-- the templates of the item, and of its kind, that is asked for -/
noncomputable def tmJ (jf : List AV → H → Nat) (L : Nat → Nat → List Tq) : AnsM := fun args h => (match Nat.blt (jf args h) 20, lookA (jf args h) h.asm with | true, some k => tmG jf (L (jf args h) k) args h | _, _ => none)
theorem tmJ_ok {f : FuncId} (hb : (fnOf Tryz.prog f).isSome = true) {jf : List AV → H → Nat} {L : Nat → Nat → List Tq} (hL : ∀ j, j < 20 → ∀ k, ∀ T ∈ L j k, TqOk Tryz.prog orcA tabs 3000 f T) [Sig] : AnsMOk Tryz.prog tabs f (tmJ jf L) := by
  have h0 := tmG_ok progOk tabs_closed orcA_ok hb (jf := jf) (hL 0 (by decide) 0)
  refine ⟨h0.1, fun W0 ht E h w args us ans S hu hg ho => ?_⟩
  unfold tmJ at hg
  split at hg
  · rename_i k hj hk
    exact (tmG_ok progOk tabs_closed orcA_ok hb (jf := jf) (hL (jf args h) (Nat.le_of_ble_eq_true hj) k)).2 W0 ht E h w args us ans S hu hg ho
  · cases hg
end Go.Proofs.YtgpibpkplhlihaaGreatDoor
