/- The evaluator's functions are the program's. -/
import Derived.Test.YtilhmbjcpflodaaEvFC
import Derived.Test.YtilhmbjcpflodaaChecked
import Derived.KernelRfl
namespace Go.Proofs.YtilhmbjcpflodaaE
open Go
set_option linter.unusedVariables false
set_option linter.unusedSimpArgs false
def mT : List (Nat × Nat) := [(26, 23), (3, 67), (4, 68), (5, 69), (6, 70), (7, 71), (8, 72), (9, 73), (10, 74), (11, 75), (12, 76), (13, 77), (14, 78), (15, 79), (16, 80), (17, 81), (18, 82), (19, 83), (20, 84), (21, 85), (22, 86), (23, 87), (24, 88), (25, 89), (27, 90), (28, 91), (29, 92), (30, 93), (31, 94), (32, 95), (33, 96), (34, 97), (35, 98), (36, 99), (37, 100), (38, 101), (39, 102), (40, 103), (41, 104), (42, 105), (43, 106), (44, 107), (45, 108), (46, 109), (47, 110), (48, 111), (49, 112), (50, 113), (51, 114), (52, 115), (53, 116), (54, 117), (55, 118), (56, 119), (57, 120)]
def mF : Nat → Option Nat := fun f => (mT.find? (·.1 == f)).map (·.2)
theorem lk23 : compF Go.Proofs.Try.prog mF ⟨[0, 1, 4, 5, 10, 14, 25], [none, none, none, none, none, (some ⟨0, [], false, [0, 1, 5], []⟩), none, (some ⟨0, [], false, [], []⟩), none, none, none, none, none, none], false, (some [(Sh.sl (Sh.int .u8)), (Sh.sl (Sh.int .u8))]), (some Sh.bool)⟩ 26 = some k23 := by kernel_rfl
theorem lk67 : compF Go.Proofs.Try.prog mF ⟨[0, 1, 2, 6, 7, 8, 9, 10], [none, none, none, none, none], false, (some [(Sh.int .i64), (Sh.int .i64), (Sh.int .i64)]), (some Sh.bool)⟩ 3 = some k67 := by kernel_rfl
theorem lk68 : compF Go.Proofs.Try.prog mF ⟨[0, 1, 4, 5, 6, 7, 8, 9, 10, 11, 20, 22, 23, 24, 34, 45, 47, 48, 49, 61], [none, none, none, none, none, none, none, none, none, (some ⟨0, [], false, [0, 5, 6, 7, 22, 23], []⟩), none, (some ⟨0, [], false, [0, 5, 7], []⟩), none, none, none, none, none, none, none, none, none, none, (some ⟨1, [], false, [5, 7, 9, 47, 48], []⟩), none, (some ⟨0, [], false, [], []⟩), none, none, none, none, none, none, none], false, (some [(Sh.int .i64), Sh.bool]), (some Sh.bool)⟩ 4 = some k68 := by kernel_rfl
theorem lk69 : compF Go.Proofs.Try.prog mF ⟨[0, 1, 2, 6, 7, 8, 9, 10, 11, 12, 21, 35, 50, 52, 68], [none, none, none, none, none, none, none, none, none, none, none, none, none, none, none, none, none], false, (some [(Sh.int .i64), (Sh.int .i64), (Sh.int .i64)]), (some Sh.bool)⟩ 5 = some k69 := by kernel_rfl
theorem lk70 : compF Go.Proofs.Try.prog mF ⟨[0, 2, 3, 4, 5, 7, 8, 9, 11, 20, 21, 22, 23, 24, 30, 31, 32, 33, 44, 49, 58, 61, 62, 63, 64, 76], [none, none, none, none, none, none, (some ⟨0, [], false, [3, 21, 22, 23], []⟩), none, (some ⟨0, [], false, [3], []⟩), none, none, (some ⟨1, [], false, [3, 5, 21, 22, 23, 30, 31, 32], []⟩), none, (some ⟨0, [], false, [3, 21, 22, 23], []⟩), none, none, none, none, none, none, none, none, none, none, (some ⟨2, [], false, [3, 8], []⟩), none, (some ⟨0, [], false, [], []⟩), none, none, (some ⟨3, [], false, [3, 8, 9, 61, 62, 63], []⟩), none, (some ⟨0, [], false, [3, 8, 9], []⟩), none, none, none, none, none, none, none, none, none], false, (some [(Sh.int .u8)]), (some Sh.bool)⟩ 6 = some k70 := by kernel_rfl
theorem lk71 : compF Go.Proofs.Try.prog mF ⟨[0, 1, 4, 5, 6, 7, 9, 10, 11, 12, 13, 14, 15, 16, 17, 18, 19, 27, 31, 32, 33, 34, 39, 44, 49, 50, 51, 52, 58, 73, 104], [none, none, none, none, none, none, none, (some ⟨0, [], false, [1, 5, 6, 7, 31, 32, 33], []⟩), none, (some ⟨0, [], false, [1, 5, 6, 7], []⟩), none, none, none, none, none, none, none, none, none, none, none, (some ⟨1, [], false, [5, 6, 7, 10, 49, 50, 51], []⟩), none, (some ⟨0, [], false, [5, 6, 7, 10], []⟩), none, none, none, none, none, none, none, none, (some ⟨0, [], false, [5, 6, 7, 10, 49, 50, 51], []⟩), none, none, none, none, none, none, none, none, none], false, (some [(Sh.sl (Sh.sl (Sh.int .u8))), (Sh.sl (Sh.int .u8))]), (some Sh.bool)⟩ 7 = some k71 := by kernel_rfl
theorem lk72 : compF Go.Proofs.Try.prog mF ⟨[0, 1, 2, 6, 7, 8, 9, 10, 11, 12, 13, 14, 15, 23], [none, none, none, none, none, none, none, none, none, none, none], false, (some [(Sh.sl (Sh.int .u8)), (Sh.sl (Sh.int .u8)), (Sh.int .u8)]), (some Sh.bool)⟩ 8 = some k72 := by kernel_rfl
theorem lk73 : compF Go.Proofs.Try.prog mF ⟨[0, 2, 3, 4, 6, 7, 8, 9, 10, 11, 12, 13, 14, 15, 16, 17, 18, 19, 20, 21, 22, 23, 24, 25, 26, 27, 28, 29, 30, 31, 32, 45, 46, 47, 48, 54, 57, 59, 63, 73, 99, 135, 136, 171, 172, 211, 214, 215, 216, 217, 218, 222, 223, 282], [none, none, none, none, (some ⟨0, [], false, [3, 4, 45, 46, 47], []⟩), none, (some ⟨0, [], false, [], []⟩), none, none, none, none, none, none, none, none, none, none, none, none, none, none, none, none, none, none, none, none, none, none, none, none, none, none, none, none, none, none, none, none, none, none, none, none, none, none, none, none, none, none, none, none, (some ⟨1, [], false, [3, 4, 45, 46, 47, 215, 216, 217], []⟩), none, (some ⟨0, [], false, [3, 4, 45, 46, 47], []⟩), none, none, (some ⟨2, [], false, [3, 4, 26, 27, 45, 46, 47, 215, 216, 217, 222], []⟩), none, (some ⟨0, [], false, [3, 4, 45, 46, 47, 215, 216, 217], []⟩), none, none, none, none, none, none, none, none, none, none, none], false, (some [(Sh.sl (Sh.pr (Sh.int .u8) (Sh.pr Sh.bool (Sh.pr Sh.bool (Sh.pr (Sh.int .i64) (Sh.pr (Sh.int .i64) (Sh.pr (Sh.int .i64) (Sh.sl (Sh.int .u8)))))))))]), (some Sh.bool)⟩ 9 = some k73 := by kernel_rfl
theorem lk74 : compF Go.Proofs.Try.prog mF ⟨[0, 1, 2, 6, 7, 9, 10, 11, 12, 13, 14, 15, 16, 17, 18, 19, 20, 23, 29, 30, 31, 32, 130], [none, none, none, none, none, none, (some ⟨0, [], false, [0, 1, 2, 7, 29, 30, 31], []⟩), none, (some ⟨0, [], false, [2, 7], []⟩), none, none, none, none, none, none, none, none, none, none, none, none, none, none], false, (some [(Sh.int .i64), (Sh.int .i64), (Sh.sl (Sh.int .u8))]), (some Sh.bool)⟩ 10 = some k74 := by kernel_rfl
theorem lk75 : compF Go.Proofs.Try.prog mF ⟨[0, 1, 2, 6, 7, 12], [none, none, none, none, none, none], false, (some [(Sh.int .i64), (Sh.int .i64), (Sh.int .i64)]), (some (Sh.tu (Sh.pr (Sh.int .u64) (Sh.int .i64))))⟩ 11 = some k75 := by kernel_rfl
theorem lk76 : compF Go.Proofs.Try.prog mF ⟨[0, 1, 2, 6, 7, 8, 9, 10, 15, 23, 31], [none, none, none, none, none, none, none, (some ⟨0, [], false, [1, 8, 9, 10], []⟩), none, (some ⟨0, [], false, [9], []⟩), none, none, none, none, none], false, (some [(Sh.int .i64), (Sh.int .i64), (Sh.int .i64)]), (some (Sh.tu (Sh.pr (Sh.int .u64) (Sh.int .i64))))⟩ 12 = some k76 := by kernel_rfl
theorem lk77 : compF Go.Proofs.Try.prog mF ⟨[0, 1, 2, 3, 8, 9, 10], [none, none, none, none], false, (some [(Sh.int .u64), (Sh.int .i64), (Sh.int .i64), (Sh.int .i64)]), (some Sh.bool)⟩ 13 = some k77 := by kernel_rfl
theorem lk78 : compF Go.Proofs.Try.prog mF ⟨[0, 1, 4, 5], [none, none, none, none], false, (some [(Sh.int .i64), (Sh.int .i64)]), (some (Sh.int .u32))⟩ 14 = some k78 := by kernel_rfl
theorem lk79 : compF Go.Proofs.Try.prog mF ⟨[0, 1, 4, 5], [none, none, none, none], false, (some [(Sh.int .i64), (Sh.int .i64)]), (some (Sh.int .u32))⟩ 15 = some k79 := by kernel_rfl
theorem lk80 : compF Go.Proofs.Try.prog mF ⟨[0, 1, 2, 3], [none, none, none, none, none], false, (some []), (some Sh.bool)⟩ 16 = some k80 := by kernel_rfl
theorem lk81 : compF Go.Proofs.Try.prog mF ⟨[0, 2, 3, 4, 6, 14, 17, 18, 19, 20, 26], [none, none, none, (some ⟨0, [], false, [0, 3, 4], [(3, (.ints .i64 []), 1)]⟩), none, (some ⟨0, [], false, [3], []⟩), none, (some ⟨1, [], false, [0, 3, 4, 17, 18, 19], []⟩), none, (some ⟨0, [], false, [0, 3, 4], []⟩), none, none, (some ⟨0, [], false, [0, 3, 4], []⟩), none, none, none, none, none], false, (some [(Sh.int .i64)]), (some (Sh.sl (Sh.int .i64)))⟩ 17 = some k81 := by kernel_rfl
theorem lk82 : compF Go.Proofs.Try.prog mF ⟨[0, 2, 3, 4, 5, 13, 24, 29], [none, none, none, (some ⟨0, [], false, [0, 3, 4], [(3, (.ints .i64 []), 1)]⟩), none, (some ⟨0, [], false, [3], []⟩), none, (some ⟨1, [], false, [0, 3, 4, 5], []⟩), none, (some ⟨0, [], false, [0, 3, 4, 5], []⟩), none, none, none, none, none, none], false, (some [(Sh.int .i64)]), (some (Sh.sl (Sh.int .i64)))⟩ 18 = some k82 := by kernel_rfl
theorem lk83 : compF Go.Proofs.Try.prog mF ⟨[0, 1, 4, 5, 7, 9, 10, 11, 12], [none, none, none, (some ⟨0, [], false, [1, 5, 9, 10, 11], [(5, (.ints .u32 []), 1)]⟩), none, (some ⟨0, [], false, [5], []⟩), none, none, none, none, none], false, (some [(Sh.int .i64), (Sh.int .i64)]), (some (Sh.sl (Sh.int .u32)))⟩ 19 = some k83 := by kernel_rfl
theorem lk85 : compF Go.Proofs.Try.prog mF ⟨[0, 1, 2], [none, none, none], false, none, none⟩ 21 = some k85 := by kernel_rfl
theorem lk86 : compF Go.Proofs.Try.prog mF ⟨[0, 1, 2, 6, 7, 8, 9, 14, 22], [none, none, none, none, none, none, none, none, none, none, none, none, none, none], false, none, none⟩ 22 = some k86 := by kernel_rfl
theorem lk87 : compF Go.Proofs.Try.prog mF ⟨[0, 1, 2, 6, 7, 8, 9, 15], [none, none, none, none, none, none, none, none, none], false, none, none⟩ 23 = some k87 := by kernel_rfl
theorem lk88 : compF Go.Proofs.Try.prog mF ⟨[0, 1, 2, 6, 7, 8, 9, 15], [none, none, none, none, none, none, none, none, none], false, none, none⟩ 24 = some k88 := by kernel_rfl
theorem lk89 : compF Go.Proofs.Try.prog mF ⟨[0, 1, 4, 5, 6, 7, 11], [none, none, none, none, none, none, none], false, none, none⟩ 25 = some k89 := by kernel_rfl
theorem lk90 : compF Go.Proofs.Try.prog mF ⟨[0, 1, 4, 8], [none, none, none, none, none, none], false, none, none⟩ 27 = some k90 := by kernel_rfl
theorem lk91 : compF Go.Proofs.Try.prog mF ⟨[0, 1, 4], [none, none, none], false, none, none⟩ 28 = some k91 := by kernel_rfl
theorem lk92 : compF Go.Proofs.Try.prog mF ⟨[0, 1, 2, 3, 4, 10, 11, 12, 13, 14, 15, 24, 56, 66], [none, none, none, none, none, none, none, none, none, none, none, none, none, none, none, none, none], false, none, none⟩ 29 = some k92 := by kernel_rfl
theorem lk93 : compF Go.Proofs.Try.prog mF ⟨[0, 1, 2, 3, 6, 7, 10, 13, 24], [none, none, none, none, none, none, none, none, none, none, none, none, none, none], false, (some [(Sh.st (Sh.pr (Sh.sl (Sh.int .u8)) (Sh.pr (Sh.int .i64) (Sh.pr (Sh.int .i64) (Sh.pr (Sh.int .i64) (Sh.pr (Sh.sl (Sh.int .u8)) (Sh.pr (Sh.int .i64) (Sh.pr (Sh.int .i64) (Sh.pr (Sh.int .i64) Sh.bool))))))))), (Sh.int .i64), (Sh.sl (Sh.int .u8))]), (some (Sh.tu (Sh.pr (Sh.st (Sh.pr (Sh.sl (Sh.int .u8)) (Sh.pr (Sh.int .i64) (Sh.pr (Sh.int .i64) (Sh.pr (Sh.int .i64) (Sh.pr (Sh.sl (Sh.int .u8)) (Sh.pr (Sh.int .i64) (Sh.pr (Sh.int .i64) (Sh.pr (Sh.int .i64) Sh.bool))))))))) (Sh.int .i64))))⟩ 30 = some k93 := by kernel_rfl
theorem lk94 : compF Go.Proofs.Try.prog mF ⟨[0, 1, 2, 3, 6, 7, 8, 9, 16], [none, none, none, none, none, none, none, none], false, (some [(Sh.st (Sh.pr (Sh.sl (Sh.int .u8)) (Sh.pr (Sh.int .i64) (Sh.pr (Sh.int .i64) (Sh.pr (Sh.int .i64) (Sh.pr (Sh.sl (Sh.int .u8)) (Sh.pr (Sh.int .i64) (Sh.pr (Sh.int .i64) (Sh.pr (Sh.int .i64) Sh.bool))))))))), (Sh.int .i64), (Sh.int .i64)]), (some (Sh.tu (Sh.pr (Sh.st (Sh.pr (Sh.sl (Sh.int .u8)) (Sh.pr (Sh.int .i64) (Sh.pr (Sh.int .i64) (Sh.pr (Sh.int .i64) (Sh.pr (Sh.sl (Sh.int .u8)) (Sh.pr (Sh.int .i64) (Sh.pr (Sh.int .i64) (Sh.pr (Sh.int .i64) Sh.bool))))))))) (Sh.pr (Sh.sl (Sh.int .u8)) (Sh.int .i64)))))⟩ 31 = some k94 := by kernel_rfl
theorem lk95 : compF Go.Proofs.Try.prog mF ⟨[0, 1, 2, 3, 6, 7, 8, 9, 16], [none, none, none, none, none, none, none, none], false, (some [(Sh.st (Sh.pr (Sh.sl (Sh.int .u8)) (Sh.pr (Sh.int .i64) (Sh.pr (Sh.int .i64) (Sh.pr (Sh.int .i64) (Sh.pr (Sh.sl (Sh.int .u8)) (Sh.pr (Sh.int .i64) (Sh.pr (Sh.int .i64) (Sh.pr (Sh.int .i64) Sh.bool))))))))), (Sh.int .i64), (Sh.int .i64)]), (some (Sh.tu (Sh.pr (Sh.st (Sh.pr (Sh.sl (Sh.int .u8)) (Sh.pr (Sh.int .i64) (Sh.pr (Sh.int .i64) (Sh.pr (Sh.int .i64) (Sh.pr (Sh.sl (Sh.int .u8)) (Sh.pr (Sh.int .i64) (Sh.pr (Sh.int .i64) (Sh.pr (Sh.int .i64) Sh.bool))))))))) (Sh.pr (Sh.int .i64) (Sh.int .i64)))))⟩ 32 = some k95 := by kernel_rfl
theorem lk96 : compF Go.Proofs.Try.prog mF ⟨[0, 1, 2, 3, 4, 5, 12, 13, 14, 15, 16, 17, 18, 20, 43, 49, 73], [none, none, none, none, none, none, none, none, none, none, none, none, none, none, none, none, none, none], false, (some [(Sh.sl (Sh.pr (Sh.sl (Sh.int .u8)) (Sh.pr (Sh.int .i64) (Sh.pr (Sh.int .i64) (Sh.pr (Sh.int .i64) (Sh.pr (Sh.sl (Sh.int .u8)) (Sh.pr (Sh.int .i64) (Sh.pr (Sh.int .i64) (Sh.pr (Sh.int .i64) Sh.bool))))))))), (Sh.int .i64), (Sh.int .i64), (Sh.int .i64), (Sh.int .i64), (Sh.int .i64)]), (some (Sh.tu (Sh.pr (Sh.sl (Sh.pr (Sh.sl (Sh.int .u8)) (Sh.pr (Sh.int .i64) (Sh.pr (Sh.int .i64) (Sh.pr (Sh.int .i64) (Sh.pr (Sh.sl (Sh.int .u8)) (Sh.pr (Sh.int .i64) (Sh.pr (Sh.int .i64) (Sh.pr (Sh.int .i64) Sh.bool))))))))) (Sh.pr (Sh.int .i64) (Sh.int .i64)))))⟩ 33 = some k96 := by kernel_rfl
theorem lk97 : compF Go.Proofs.Try.prog mF ⟨[0, 3], [none, none], false, none, none⟩ 34 = some k97 := by kernel_rfl
theorem lk98 : compF Go.Proofs.Try.prog mF ⟨[0, 2], [none, none, none], false, none, none⟩ 35 = some k98 := by kernel_rfl
theorem lk99 : compF Go.Proofs.Try.prog mF ⟨[0, 2, 5], [none, none, none, none, none, none], false, none, none⟩ 36 = some k99 := by kernel_rfl
theorem lk100 : compF Go.Proofs.Try.prog mF ⟨[0, 1, 2, 6], [none, none, none], false, (some [(Sh.int .i64), (Sh.int .i64), (Sh.int .i64)]), (some Sh.bool)⟩ 37 = some k100 := by kernel_rfl
theorem lk101 : compF Go.Proofs.Try.prog mF ⟨[0, 1, 2, 3, 4], [none, none, none], false, (some [(Sh.int .i64), (Sh.int .i64)]), (some (Sh.int .u64))⟩ 38 = some k101 := by kernel_rfl
theorem lk102 : compF Go.Proofs.Try.prog mF ⟨[0, 1, 2, 6], [none, none, none], false, (some [(Sh.int .i64), (Sh.int .i64), (Sh.int .i64)]), (some Sh.bool)⟩ 39 = some k102 := by kernel_rfl
theorem lk103 : compF Go.Proofs.Try.prog mF ⟨[0, 1, 4, 5, 6, 11], [none, none, none, (some ⟨0, [], false, [1, 5, 6], []⟩), none, (some ⟨0, [], false, [5], []⟩), none, none, none, none], false, (some [(Sh.int .u64), (Sh.int .i64)]), (some (Sh.sl (Sh.int .u64)))⟩ 40 = some k103 := by kernel_rfl
theorem lk104 : compF Go.Proofs.Try.prog mF ⟨[0, 1, 4, 5, 13, 22], [none, none, (some ⟨0, [], false, [0, 1, 5], []⟩), none, (some ⟨0, [], false, [], []⟩), none, none, none, none, none, none], false, (some [(Sh.sl (Sh.int .u64)), (Sh.sl (Sh.int .u64))]), (some Sh.bool)⟩ 41 = some k104 := by kernel_rfl
theorem lk105 : compF Go.Proofs.Try.prog mF ⟨[0, 1, 4, 5, 6, 10], [none, none, none, (some ⟨0, [(5, (Sh.sl (Sh.int .u64)))], false, [0, 1, 5, 6], []⟩), none, (some ⟨0, [], false, [5], []⟩), none, none, none, none], false, (some [(Sh.int .u64), (Sh.int .i64)]), (some (Sh.sl (Sh.int .u64)))⟩ 42 = some k105 := by kernel_rfl
theorem lk106 : compF Go.Proofs.Try.prog mF ⟨[0, 1, 2, 6, 7, 11], [none, none, none, none, none, none, none, none, none], false, none, none⟩ 43 = some k106 := by kernel_rfl
theorem lk107 : compF Go.Proofs.Try.prog mF ⟨[0, 1, 2, 6, 7, 12], [none, none, none, none, none, none, none, none, none], false, none, none⟩ 44 = some k107 := by kernel_rfl
theorem lk108 : compF Go.Proofs.Try.prog mF ⟨[0, 2, 4], [none, none, none, none, none, none], false, (some [(Sh.sl (Sh.int .u8))]), none⟩ 45 = some k108 := by kernel_rfl
theorem lk109 : compF Go.Proofs.Try.prog mF ⟨[0, 1, 4, 5], [none, none, none, none, none, none], false, none, none⟩ 46 = some k109 := by kernel_rfl
theorem lk110 : compF Go.Proofs.Try.prog mF ⟨[0, 2], [none, none, none], false, none, none⟩ 47 = some k110 := by kernel_rfl
theorem lk111 : compF Go.Proofs.Try.prog mF ⟨[0, 2], [none, none, none], false, (some [(Sh.int .i64)]), (some Sh.bool)⟩ 48 = some k111 := by kernel_rfl
theorem lk112 : compF Go.Proofs.Try.prog mF ⟨[0, 2], [none, none, none], false, (some [(Sh.int .i64)]), (some Sh.bool)⟩ 49 = some k112 := by kernel_rfl
theorem lk113 : compF Go.Proofs.Try.prog mF ⟨[0, 1, 2, 3, 6, 7, 8], [none, none, none, none, none, none], false, (some [(Sh.st (Sh.pr (Sh.sl (Sh.int .u8)) (Sh.pr (Sh.int .i64) (Sh.pr (Sh.int .i64) (Sh.pr (Sh.int .i64) (Sh.pr (Sh.sl (Sh.int .u8)) (Sh.pr (Sh.int .i64) (Sh.pr (Sh.int .i64) (Sh.pr (Sh.int .i64) Sh.bool))))))))), (Sh.int .i64), (Sh.int .i64)]), (some (Sh.tu (Sh.pr (Sh.st (Sh.pr (Sh.sl (Sh.int .u8)) (Sh.pr (Sh.int .i64) (Sh.pr (Sh.int .i64) (Sh.pr (Sh.int .i64) (Sh.pr (Sh.sl (Sh.int .u8)) (Sh.pr (Sh.int .i64) (Sh.pr (Sh.int .i64) (Sh.pr (Sh.int .i64) Sh.bool))))))))) (Sh.sl (Sh.int .u8)))))⟩ 50 = some k113 := by kernel_rfl
theorem lk114 : compF Go.Proofs.Try.prog mF ⟨[0, 1, 4, 5, 6, 7, 11, 21], [none, none, (some ⟨0, [], false, [1, 5, 6], []⟩), none, (some ⟨0, [], false, [5], []⟩), none, none, none, none, none, none], false, none, none⟩ 51 = some k114 := by kernel_rfl
theorem lk115 : compF Go.Proofs.Try.prog mF ⟨[0, 1, 2, 4], [none, none, none], false, none, none⟩ 52 = some k115 := by kernel_rfl
theorem lk116 : compF Go.Proofs.Try.prog mF ⟨[0, 1, 2, 6, 7, 8, 9, 10, 11, 19], [none, none, none, none, none, none, none, none, none], false, (some [(Sh.int .u64), (Sh.int .u64), (Sh.int .i64)]), (some Sh.bool)⟩ 53 = some k116 := by kernel_rfl
theorem lk117 : compF Go.Proofs.Try.prog mF ⟨[0, 2, 3, 5], [none, none, (some ⟨0, [], false, [0, 3], [(3, (.ints .u64 []), 1)]⟩), none, (some ⟨0, [], false, [3], []⟩), none, none, none, none], false, (some [(Sh.int .u64)]), (some (Sh.sl (Sh.int .u64)))⟩ 54 = some k117 := by kernel_rfl
theorem lk118 : compF Go.Proofs.Try.prog mF ⟨[0, 1, 4, 5, 6, 7, 8, 9, 20, 26], [none, none, none, (some ⟨0, [], false, [0, 1, 5, 6], []⟩), none, (some ⟨0, [], false, [5], []⟩), none, none, (some ⟨1, [], false, [0, 1, 5, 6, 7, 8], []⟩), none, (some ⟨0, [], false, [0, 1, 5, 6, 7], []⟩), none, none, none, none, none, none, none, none], false, (some [(Sh.sl (Sh.int .u64)), (Sh.sl (Sh.int .u64))]), (some (Sh.sl (Sh.int .u64)))⟩ 55 = some k118 := by kernel_rfl
theorem lk119 : compF Go.Proofs.Try.prog mF ⟨[0, 1, 4, 8], [none, none, none, none, none, none], false, (some [(Sh.sl (Sh.int .u64)), (Sh.int .i64)]), (some (Sh.int .u64))⟩ 56 = some k119 := by kernel_rfl
theorem lk120 : compF Go.Proofs.Try.prog mF ⟨[0, 1, 4, 5, 6, 7, 8, 9, 10, 11, 12, 13], [none, none, none, none, none, none, none, none, none, none, none, none, none], false, (some [(Sh.int .u64), (Sh.int .u64)]), (some (Sh.tu (Sh.pr (Sh.int .u64) (Sh.int .u64))))⟩ 57 = some k120 := by kernel_rfl
theorem mF_mem {f g : Nat} (h : mF f = some g) : (f, g) ∈ mT := by
  simp only [mF, Option.map_eq_some_iff] at h
  obtain ⟨p, h1, h2⟩ := h
  have h3 := List.mem_of_find?_eq_some h1
  have h4 := List.find?_some h1
  have h5 : p.1 = f := by simpa using h4
  rw [← h5, ← h2]; exact h3
theorem link : Link Go.Proofs.Try.prog mF FT := by
  intro f g fn hm hF
  have h := mF_mem hm
  simp only [mT, List.mem_cons, Prod.mk.injEq, List.not_mem_nil, or_false] at h
  rcases h with ⟨rfl, rfl⟩ | ⟨rfl, rfl⟩ | ⟨rfl, rfl⟩ | ⟨rfl, rfl⟩ | ⟨rfl, rfl⟩ | ⟨rfl, rfl⟩ | ⟨rfl, rfl⟩ | ⟨rfl, rfl⟩ | ⟨rfl, rfl⟩ | ⟨rfl, rfl⟩ | ⟨rfl, rfl⟩ | ⟨rfl, rfl⟩ | ⟨rfl, rfl⟩ | ⟨rfl, rfl⟩ | ⟨rfl, rfl⟩ | ⟨rfl, rfl⟩ | ⟨rfl, rfl⟩ | ⟨rfl, rfl⟩ | ⟨rfl, rfl⟩ | ⟨rfl, rfl⟩ | ⟨rfl, rfl⟩ | ⟨rfl, rfl⟩ | ⟨rfl, rfl⟩ | ⟨rfl, rfl⟩ | ⟨rfl, rfl⟩ | ⟨rfl, rfl⟩ | ⟨rfl, rfl⟩ | ⟨rfl, rfl⟩ | ⟨rfl, rfl⟩ | ⟨rfl, rfl⟩ | ⟨rfl, rfl⟩ | ⟨rfl, rfl⟩ | ⟨rfl, rfl⟩ | ⟨rfl, rfl⟩ | ⟨rfl, rfl⟩ | ⟨rfl, rfl⟩ | ⟨rfl, rfl⟩ | ⟨rfl, rfl⟩ | ⟨rfl, rfl⟩ | ⟨rfl, rfl⟩ | ⟨rfl, rfl⟩ | ⟨rfl, rfl⟩ | ⟨rfl, rfl⟩ | ⟨rfl, rfl⟩ | ⟨rfl, rfl⟩ | ⟨rfl, rfl⟩ | ⟨rfl, rfl⟩ | ⟨rfl, rfl⟩ | ⟨rfl, rfl⟩ | ⟨rfl, rfl⟩ | ⟨rfl, rfl⟩ | ⟨rfl, rfl⟩ | ⟨rfl, rfl⟩ | ⟨rfl, rfl⟩ | ⟨rfl, rfl⟩
  · injection hF with hF; subst hF; exact compF_ok lk23
  · injection hF with hF; subst hF; exact compF_ok lk67
  · injection hF with hF; subst hF; exact compF_ok lk68
  · injection hF with hF; subst hF; exact compF_ok lk69
  · injection hF with hF; subst hF; exact compF_ok lk70
  · injection hF with hF; subst hF; exact compF_ok lk71
  · injection hF with hF; subst hF; exact compF_ok lk72
  · injection hF with hF; subst hF; exact compF_ok lk73
  · injection hF with hF; subst hF; exact compF_ok lk74
  · injection hF with hF; subst hF; exact compF_ok lk75
  · injection hF with hF; subst hF; exact compF_ok lk76
  · injection hF with hF; subst hF; exact compF_ok lk77
  · injection hF with hF; subst hF; exact compF_ok lk78
  · injection hF with hF; subst hF; exact compF_ok lk79
  · injection hF with hF; subst hF; exact compF_ok lk80
  · injection hF with hF; subst hF; exact compF_ok lk81
  · injection hF with hF; subst hF; exact compF_ok lk82
  · injection hF with hF; subst hF; exact compF_ok lk83
  · cases hF
  · injection hF with hF; subst hF; exact compF_ok lk85
  · injection hF with hF; subst hF; exact compF_ok lk86
  · injection hF with hF; subst hF; exact compF_ok lk87
  · injection hF with hF; subst hF; exact compF_ok lk88
  · injection hF with hF; subst hF; exact compF_ok lk89
  · injection hF with hF; subst hF; exact compF_ok lk90
  · injection hF with hF; subst hF; exact compF_ok lk91
  · injection hF with hF; subst hF; exact compF_ok lk92
  · injection hF with hF; subst hF; exact compF_ok lk93
  · injection hF with hF; subst hF; exact compF_ok lk94
  · injection hF with hF; subst hF; exact compF_ok lk95
  · injection hF with hF; subst hF; exact compF_ok lk96
  · injection hF with hF; subst hF; exact compF_ok lk97
  · injection hF with hF; subst hF; exact compF_ok lk98
  · injection hF with hF; subst hF; exact compF_ok lk99
  · injection hF with hF; subst hF; exact compF_ok lk100
  · injection hF with hF; subst hF; exact compF_ok lk101
  · injection hF with hF; subst hF; exact compF_ok lk102
  · injection hF with hF; subst hF; exact compF_ok lk103
  · injection hF with hF; subst hF; exact compF_ok lk104
  · injection hF with hF; subst hF; exact compF_ok lk105
  · injection hF with hF; subst hF; exact compF_ok lk106
  · injection hF with hF; subst hF; exact compF_ok lk107
  · injection hF with hF; subst hF; exact compF_ok lk108
  · injection hF with hF; subst hF; exact compF_ok lk109
  · injection hF with hF; subst hF; exact compF_ok lk110
  · injection hF with hF; subst hF; exact compF_ok lk111
  · injection hF with hF; subst hF; exact compF_ok lk112
  · injection hF with hF; subst hF; exact compF_ok lk113
  · injection hF with hF; subst hF; exact compF_ok lk114
  · injection hF with hF; subst hF; exact compF_ok lk115
  · injection hF with hF; subst hF; exact compF_ok lk116
  · injection hF with hF; subst hF; exact compF_ok lk117
  · injection hF with hF; subst hF; exact compF_ok lk118
  · injection hF with hF; subst hF; exact compF_ok lk119
  · injection hF with hF; subst hF; exact compF_ok lk120
end Go.Proofs.YtilhmbjcpflodaaE
