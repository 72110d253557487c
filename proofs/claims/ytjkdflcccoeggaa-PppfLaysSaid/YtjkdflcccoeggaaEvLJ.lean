/- The evaluator's functions are the program's. -/
import Derived.Test.YtjkdflcccoeggaaEvFJ
import Derived.Test.YtjkdflcccoeggaaChecked
import Derived.KernelRfl
namespace Go.Proofs.YtjkdflcccoeggaaE
open Go
set_option linter.unusedVariables false
set_option linter.unusedSimpArgs false
def mT : List (Nat × Nat) := [(59, 1), (3, 15), (4, 16), (5, 17), (12, 18), (22, 19), (23, 21), (17, 23), (13, 40), (14, 41), (15, 42), (16, 43), (18, 44), (19, 45), (20, 46), (21, 47), (60, 48), (66, 50), (67, 51), (56, 59), (57, 60), (58, 61), (73, 63), (74, 64), (75, 65), (76, 66), (62, 108), (6, 121), (7, 122), (8, 123), (9, 124), (10, 125), (11, 126), (24, 127), (25, 128), (26, 129), (27, 130), (28, 131), (29, 132), (30, 133), (31, 134), (32, 135), (33, 136), (34, 137), (35, 138), (36, 139), (37, 140), (38, 141), (39, 142), (40, 143), (41, 144), (42, 145), (43, 146), (44, 147), (45, 148), (46, 149), (47, 150), (48, 151), (49, 152), (50, 153), (51, 154), (52, 155), (53, 156), (54, 157), (55, 158), (61, 159), (63, 160), (64, 161), (65, 162), (68, 163), (69, 164), (70, 165), (71, 166), (72, 167)]
def mF : Nat → Option Nat := fun f => (mT.find? (·.1 == f)).map (·.2)
theorem lk1 : compF Go.Proofs.Try.prog mF ⟨[0, 2, 3, 5, 6, 8, 9, 10, 11, 12, 20, 25, 26, 27, 28], [none, none, none, (some ⟨0, [], false, [0, 3, 9, 10, 11], []⟩), none, (some ⟨0, [], false, [0, 3], []⟩), none, none, none, none, none, none, none, (some ⟨1, [], false, [6, 25, 26, 27], []⟩), none, (some ⟨0, [], false, [6], []⟩), none, none, none, none, none], false, (some [(Sh.sl (Sh.sl (Sh.int .u8)))]), none⟩ 59 = some k1 := by kernel_rfl
theorem lk15 : compF Go.Proofs.Try.prog mF ⟨[0, 1, 4, 5, 6, 7, 8, 16], [none, none, none, none, none, none, none, none], false, (some [(Sh.sl (Sh.int .u8)), Sh.str]), (some Sh.bool)⟩ 3 = some k15 := by kernel_rfl
theorem lk16 : compF Go.Proofs.Try.prog mF ⟨[0, 1, 4, 5, 6, 7, 8, 9, 17], [none, none, none, none, none, none, none, none, none], false, (some [(Sh.sl (Sh.int .u8)), (Sh.sl (Sh.int .u8))]), (some Sh.bool)⟩ 4 = some k16 := by kernel_rfl
theorem lk17 : compF Go.Proofs.Try.prog mF ⟨[0, 1, 2, 5, 6, 7, 8, 9, 10, 11, 12, 13, 14, 15, 16, 17, 18, 30, 76], [none, none, none, none, none, none, none, none, none, none, none, none, none, none, none], false, (some [(Sh.int .u64), (Sh.int .i64), (Sh.st (Sh.pr (Sh.sl (Sh.int .u8)) (Sh.sl (Sh.int .u8))))]), (some Sh.bool)⟩ 5 = some k17 := by kernel_rfl
theorem lk18 : compF Go.Proofs.Try.prog mF ⟨[0, 1, 2, 3, 4, 5, 6], [none, none, none, none, none, none], false, (some []), (some Sh.bool)⟩ 12 = some k18 := by kernel_rfl
theorem lk19 : compF Go.Proofs.Try.prog mF ⟨[0, 1, 2, 6, 7, 8, 9, 15, 19, 20, 21, 33], [none, none, none, none, none, none, (some ⟨0, [], false, [0, 2, 8, 19, 20], []⟩), none, (some ⟨0, [], false, [2, 8], []⟩), none, none, none, none, none, none, none], false, (some [(Sh.int .u64), (Sh.int .i64), Sh.bool]), (some (Sh.tu (Sh.pr (Sh.sl (Sh.int .u8)) (Sh.int .i64))))⟩ 22 = some k19 := by kernel_rfl
theorem lk21 : compF Go.Proofs.Try.prog mF ⟨[0, 1, 4, 5, 6, 7, 8, 16, 17, 18, 19, 20, 24], [none, none, none, none, none, none, (some ⟨0, [], false, [1, 6, 17, 18, 19], []⟩), none, (some ⟨0, [], false, [6], []⟩), none, none, none, none, none, none, none], false, (some [(Sh.sl (Sh.int .u8)), Sh.bool]), (some (Sh.tu (Sh.pr (Sh.int .u64) (Sh.int .i64))))⟩ 23 = some k21 := by kernel_rfl
theorem lk23 : compF Go.Proofs.Try.prog mF ⟨[0, 1, 4, 5, 10, 14, 25], [none, none, none, none, none, (some ⟨0, [], false, [0, 1, 5], []⟩), none, (some ⟨0, [], false, [], []⟩), none, none, none, none, none, none], false, (some [(Sh.sl (Sh.int .u8)), (Sh.sl (Sh.int .u8))]), (some Sh.bool)⟩ 17 = some k23 := by kernel_rfl
theorem lk40 : compF Go.Proofs.Try.prog mF ⟨[0, 2, 3, 4, 5, 9, 11, 22], [none, none, none, none, none, none, none, none, none, none, none, none, none, none, none], false, (some [Sh.str]), (some (Sh.tu (Sh.pr (Sh.sl (Sh.int .u8)) (Sh.int .i64))))⟩ 13 = some k40 := by kernel_rfl
theorem lk41 : compF Go.Proofs.Try.prog mF ⟨[0, 2, 3, 4, 5, 6, 7, 11, 15, 32], [none, none, none, none, none, none, (some ⟨0, [], false, [0, 4, 5], [(4, (.ints .u8 []), 1)]⟩), none, (some ⟨0, [], false, [4], []⟩), none, none, none, none, none, none, none, none], false, (some [Sh.str]), (some (Sh.tu (Sh.pr (Sh.sl (Sh.int .u8)) (Sh.int .i64))))⟩ 14 = some k41 := by kernel_rfl
theorem lk42 : compF Go.Proofs.Try.prog mF ⟨[0, 2, 3, 5, 10, 11, 12, 13], [none, none, none, (some ⟨0, [], false, [3, 10, 11, 12], [(3, (.imm []), 1)]⟩), none, (some ⟨0, [], false, [3], []⟩), none, none, none, none, none], false, (some [(Sh.sl (Sh.int .u8))]), (some Sh.str)⟩ 15 = some k42 := by kernel_rfl
theorem lk43 : compF Go.Proofs.Try.prog mF ⟨[0, 2, 3, 4, 5, 6, 7, 11], [none, none, none, none, (some ⟨0, [], false, [0, 3, 4, 5], []⟩), none, (some ⟨0, [], false, [4], []⟩), none, none, none, none, none], false, (some [(Sh.sl (Sh.int .u8))]), (some Sh.str)⟩ 16 = some k43 := by kernel_rfl
theorem lk44 : compF Go.Proofs.Try.prog mF ⟨[0, 1, 4, 5, 6, 7, 8, 13, 16, 17, 18, 19], [none, none, none, none, none, none, (some ⟨0, [], false, [6, 16, 17, 18], []⟩), none, (some ⟨0, [], false, [6], []⟩), none, none, none, none, none], false, (some [(Sh.sl (Sh.int .u8)), (Sh.sl (Sh.int .u8))]), (some (Sh.tu (Sh.pr (Sh.sl (Sh.int .u8)) (Sh.int .i64))))⟩ 18 = some k44 := by kernel_rfl
theorem lk45 : compF Go.Proofs.Try.prog mF ⟨[0, 1, 4, 5, 6, 7, 12, 19], [none, none, none, none, none, none, (some ⟨0, [], false, [0, 1, 6, 7], []⟩), none, (some ⟨0, [], false, [6], []⟩), none, none, none, none], false, (some [(Sh.sl (Sh.int .u8)), (Sh.sl (Sh.int .u8))]), (some (Sh.tu (Sh.pr (Sh.sl (Sh.int .u8)) (Sh.int .i64))))⟩ 19 = some k45 := by kernel_rfl
theorem lk46 : compF Go.Proofs.Try.prog mF ⟨[0, 2], [none, none, none], false, (some [(Sh.sl (Sh.sl (Sh.int .u8)))]), none⟩ 20 = some k46 := by kernel_rfl
theorem lk47 : compF Go.Proofs.Try.prog mF ⟨[0, 1, 4, 5, 6, 7, 12, 13, 14, 15, 16], [none, none, none, none, none, none, (some ⟨0, [], false, [1, 5, 13, 14, 15], []⟩), none, (some ⟨0, [], false, [5], []⟩), none, none, none, none, none], false, (some [(Sh.sl (Sh.int .u8)), (Sh.sl (Sh.int .u8))]), (some Sh.bool)⟩ 21 = some k47 := by kernel_rfl
theorem lk48 : compF Go.Proofs.Try.prog mF ⟨[0, 2, 3, 9], [none, (some ⟨0, [], false, [0, 2, 3], []⟩), none, (some ⟨0, [], false, [], []⟩), none, none], true, none, none⟩ 60 = some k48 := by kernel_rfl
theorem lk50 : compF Go.Proofs.Try.prog mF ⟨[0, 1, 4, 5, 6, 12], [none, none, none, (some ⟨0, [], false, [0, 5, 6], []⟩), none, (some ⟨0, [], false, [5], []⟩), none, none, none, none, none], false, (some [(Sh.int .u64), (Sh.int .i64)]), (some (Sh.sl (Sh.int .u8)))⟩ 66 = some k50 := by kernel_rfl
theorem lk51 : compF Go.Proofs.Try.prog mF ⟨[0, 2, 3, 4, 8], [none, none, none, (some ⟨0, [], false, [0, 3, 4], []⟩), none, (some ⟨0, [], false, [3], []⟩), none, none, none, none], false, (some [(Sh.sl (Sh.int .u8))]), (some (Sh.int .u64))⟩ 67 = some k51 := by kernel_rfl
theorem lk59 : compF Go.Proofs.Try.prog mF ⟨[0, 2, 8], [none, none, none, none, none], false, (some [(Sh.int .u8)]), (some (Sh.int .i64))⟩ 56 = some k59 := by kernel_rfl
theorem lk60 : compF Go.Proofs.Try.prog mF ⟨[0, 2, 3, 12, 22], [none, none, none, none, none, none, none, none, none, none, none, none], false, (some [(Sh.int .u8)]), (some (Sh.int .u8))⟩ 57 = some k60 := by kernel_rfl
theorem lk63 : compF Go.Proofs.Try.prog mF ⟨[0, 1, 4], [none, none, none], false, (some [Sh.str, (Sh.int .u8)]), (some (Sh.int .i64))⟩ 73 = some k63 := by kernel_rfl
theorem lk64 : compF Go.Proofs.Try.prog mF ⟨[0, 1, 4, 6, 16], [none, none, none, none, none, none, none, (some ⟨0, [], true, [], [(4, (.ints .u8 []), 1)]⟩)], false, none, none⟩ 74 = some k64 := by kernel_rfl
theorem lk65 : compF Go.Proofs.Try.prog mF ⟨[0, 1, 4], [none, none, none], false, (some [Sh.str, (Sh.int .u8)]), (some (Sh.int .i64))⟩ 75 = some k65 := by kernel_rfl
theorem lk121 : compF Go.Proofs.Try.prog mF ⟨[0, 1, 2, 3, 6, 7, 8, 9, 10, 11, 12, 13, 17], [none, none, none, none, none, none, none, none, none, none], false, (some [(Sh.st (Sh.pr (Sh.int .u16) (Sh.sl (Sh.int .u8)))), Sh.bool, Sh.bool]), (some Sh.bool)⟩ 6 = some k121 := by kernel_rfl
theorem lk122 : compF Go.Proofs.Try.prog mF ⟨[0, 1, 3, 4, 5, 6, 7, 8, 17], [none, none, none, none, none, none, none, none], false, (some [(Sh.sl (Sh.int .u8)), (Sh.st (Sh.pr (Sh.int .u16) (Sh.sl (Sh.int .u8))))]), (some Sh.bool)⟩ 7 = some k122 := by kernel_rfl
theorem lk123 : compF Go.Proofs.Try.prog mF ⟨[0, 1, 2, 3, 4, 5, 6, 7, 8, 9, 19, 41], [none, none, none, none, none, none, none, none, none, none, none, none], false, (some [(Sh.st (Sh.pr (Sh.int .u16) (Sh.sl (Sh.int .u8))))]), (some Sh.bool)⟩ 8 = some k123 := by kernel_rfl
theorem lk124 : compF Go.Proofs.Try.prog mF ⟨[0, 1, 2, 4, 5, 6, 7, 8, 9, 10, 11, 12, 13, 14, 15, 16, 17, 26], [none, none, none, none, none, none, none, none, none, none, none], false, (some [(Sh.st (Sh.pr (Sh.int .u8) (Sh.sl (Sh.int .u8)))), (Sh.sl (Sh.int .u8))]), (some Sh.bool)⟩ 9 = some k124 := by kernel_rfl
theorem lk126 : compF Go.Proofs.Try.prog mF ⟨[0, 1, 2, 3, 4, 5, 6, 7, 8, 9, 10, 14, 61], [none, none, none, none, none, none, none, none, none, none, none, none, none], false, (some [(Sh.st (Sh.pr (Sh.int .u8) (Sh.sl (Sh.int .u8))))]), (some Sh.bool)⟩ 11 = some k126 := by kernel_rfl
theorem lk127 : compF Go.Proofs.Try.prog mF ⟨[0, 1, 2, 3, 4, 5, 6], [none, none, none, none, none, none], false, (some []), (some Sh.bool)⟩ 24 = some k127 := by kernel_rfl
theorem lk128 : compF Go.Proofs.Try.prog mF ⟨[0, 1, 2, 3, 6, 7, 8, 9, 10, 12, 17, 23, 31], [none, none, none, none, none, none, none, none, none, none, none, none, none, none, none, none], false, (some [(Sh.st (Sh.pr (Sh.int .u16) (Sh.sl (Sh.int .u8)))), Sh.bool, Sh.bool]), (some (Sh.tu (Sh.pr (Sh.sl (Sh.int .u8)) (Sh.int .i64))))⟩ 25 = some k128 := by kernel_rfl
theorem lk129 : compF Go.Proofs.Try.prog mF ⟨[0, 1, 2], [none, none, none], false, (some [(Sh.st (Sh.pr (Sh.int .u16) (Sh.sl (Sh.int .u8))))]), (some (Sh.st (Sh.pr (Sh.int .u16) (Sh.sl (Sh.int .u8)))))⟩ 26 = some k129 := by kernel_rfl
theorem lk130 : compF Go.Proofs.Try.prog mF ⟨[0, 1, 2, 3, 6, 7, 8, 12, 16, 18, 25], [none, none, none, none, none, none, none, none, none, none, none, none, (some ⟨0, [(3, Sh.bool)], true, [41], []⟩), none], false, (some [(Sh.st (Sh.pr (Sh.int .u16) (Sh.sl (Sh.int .u8)))), Sh.bool, Sh.bool]), (some (Sh.tu (Sh.pr (Sh.sl (Sh.int .u8)) (Sh.int .i64))))⟩ 27 = some k130 := by kernel_rfl
theorem lk131 : compF Go.Proofs.Try.prog mF ⟨[0, 2, 3, 4, 5, 7, 21, 25, 42, 48], [none, none, none, none, none, none, none, none, none, none, none, none, none, none, none, none, none, none], false, (some [(Sh.sl (Sh.int .u8))]), (some (Sh.tu (Sh.pr (Sh.st (Sh.pr (Sh.int .u16) (Sh.sl (Sh.int .u8)))) (Sh.int .i64))))⟩ 28 = some k131 := by kernel_rfl
theorem lk132 : compF Go.Proofs.Try.prog mF ⟨[0, 2], [none, none, none], false, (some [(Sh.int .u16)]), (some Sh.bool)⟩ 29 = some k132 := by kernel_rfl
theorem lk133 : compF Go.Proofs.Try.prog mF ⟨[0, 2], [none, none, none], false, (some [(Sh.int .u16)]), (some Sh.bool)⟩ 30 = some k133 := by kernel_rfl
theorem lk134 : compF Go.Proofs.Try.prog mF ⟨[0, 2, 3, 4, 7], [none, none, none, none, (some ⟨0, [], false, [], []⟩), none, none, (some ⟨0, [], false, [], []⟩), (some ⟨0, [], false, [], []⟩), none, none, (some ⟨0, [], false, [], []⟩), none, none], false, (some [(Sh.int .u16)]), (some Sh.bool)⟩ 31 = some k134 := by kernel_rfl
theorem lk135 : compF Go.Proofs.Try.prog mF ⟨[0, 1, 2, 3, 4], [none, none, none], false, (some [(Sh.st (Sh.pr (Sh.int .u16) (Sh.sl (Sh.int .u8)))), (Sh.st (Sh.pr (Sh.int .u16) (Sh.sl (Sh.int .u8))))]), (some Sh.bool)⟩ 32 = some k135 := by kernel_rfl
theorem lk136 : compF Go.Proofs.Try.prog mF ⟨[0, 2, 3, 4, 19, 24, 37, 40, 58, 63], [none, none, none, none, none, none, none, none, none, none, none, none, none, none, none, none, none, none, none, none], false, (some [(Sh.sl (Sh.int .u8))]), (some (Sh.tu (Sh.pr (Sh.st (Sh.pr (Sh.int .u16) (Sh.sl (Sh.int .u8)))) (Sh.int .i64))))⟩ 33 = some k136 := by kernel_rfl
theorem lk137 : compF Go.Proofs.Try.prog mF ⟨[0, 1, 2, 3, 4], [none, none, none], false, (some [(Sh.st (Sh.pr (Sh.int .u16) (Sh.sl (Sh.int .u8)))), (Sh.st (Sh.pr (Sh.int .u16) (Sh.sl (Sh.int .u8))))]), (some Sh.bool)⟩ 34 = some k137 := by kernel_rfl
theorem lk138 : compF Go.Proofs.Try.prog mF ⟨[0, 1, 2, 3, 4, 5, 6, 7, 8, 9], [none, none, none, none, none, none, none], false, (some []), (some Sh.bool)⟩ 35 = some k138 := by kernel_rfl
theorem lk139 : compF Go.Proofs.Try.prog mF ⟨[0, 1, 2, 3, 4, 5, 11, 16], [none, none, none, none, none, none, none, none, none, none, none], false, (some [(Sh.st (Sh.pr (Sh.int .u8) (Sh.sl (Sh.int .u8))))]), (some (Sh.tu (Sh.pr (Sh.sl (Sh.int .u8)) (Sh.int .i64))))⟩ 36 = some k139 := by kernel_rfl
theorem lk140 : compF Go.Proofs.Try.prog mF ⟨[0, 1, 2], [none, none, none], false, (some [(Sh.st (Sh.pr (Sh.int .u8) (Sh.sl (Sh.int .u8))))]), (some (Sh.st (Sh.pr (Sh.int .u8) (Sh.sl (Sh.int .u8)))))⟩ 37 = some k140 := by kernel_rfl
theorem lk141 : compF Go.Proofs.Try.prog mF ⟨[0, 1, 2, 3, 7, 11], [none, none, none, none, none, none, none, (some ⟨0, [(1, Sh.bool)], true, [23], []⟩), none], false, (some [(Sh.st (Sh.pr (Sh.int .u8) (Sh.sl (Sh.int .u8))))]), (some (Sh.tu (Sh.pr (Sh.sl (Sh.int .u8)) (Sh.int .i64))))⟩ 38 = some k141 := by kernel_rfl
theorem lk142 : compF Go.Proofs.Try.prog mF ⟨[0, 2, 3, 4, 5, 7, 10, 20, 34, 41], [none, none, none, none, none, none, none, none, none, none, none, none, none, none, none, none, none], false, (some [(Sh.sl (Sh.int .u8))]), (some (Sh.tu (Sh.pr (Sh.st (Sh.pr (Sh.int .u8) (Sh.sl (Sh.int .u8)))) (Sh.pr (Sh.int .i64) (Sh.int .i64)))))⟩ 39 = some k142 := by kernel_rfl
theorem lk143 : compF Go.Proofs.Try.prog mF ⟨[0, 2, 3, 4, 5, 8, 25, 31, 36], [none, none, none, none, none, none, none, none, none, none, none, none, none, none, none, none], false, (some [(Sh.sl (Sh.int .u8))]), (some (Sh.tu (Sh.pr (Sh.st (Sh.pr (Sh.int .u8) (Sh.sl (Sh.int .u8)))) (Sh.pr (Sh.int .i64) (Sh.int .i64)))))⟩ 40 = some k143 := by kernel_rfl
theorem lk144 : compF Go.Proofs.Try.prog mF ⟨[0, 1, 2, 3, 4], [none, none, none], false, (some [(Sh.st (Sh.pr (Sh.int .u8) (Sh.sl (Sh.int .u8)))), (Sh.st (Sh.pr (Sh.int .u8) (Sh.sl (Sh.int .u8))))]), (some Sh.bool)⟩ 41 = some k144 := by kernel_rfl
theorem lk145 : compF Go.Proofs.Try.prog mF ⟨[0, 1, 2, 3, 4, 5, 6, 7, 16, 21, 27, 33, 55], [none, none, none, none, none, none, none, none, none, none, none, none, none, none, none, none, none, none, none, none], false, (some [(Sh.st (Sh.pr (Sh.int .u8) (Sh.sl (Sh.int .u8))))]), (some (Sh.int .i64))⟩ 42 = some k145 := by kernel_rfl
theorem lk146 : compF Go.Proofs.Try.prog mF ⟨[0, 1, 2, 3, 4, 5, 9, 26, 31, 34, 78], [none, none, none, none, none, none, none, none, none, none, none, none, none, none, none, none, none, none, none, none, none], false, (some [(Sh.st (Sh.pr (Sh.int .u8) (Sh.sl (Sh.int .u8))))]), (some (Sh.int .i64))⟩ 43 = some k146 := by kernel_rfl
theorem lk147 : compF Go.Proofs.Try.prog mF ⟨[0, 1, 2, 3], [none, none, none, none], false, (some [(Sh.st (Sh.pr (Sh.int .u8) (Sh.pr (Sh.int .u32) (Sh.sl (Sh.int .u8)))))]), (some (Sh.st (Sh.pr (Sh.int .u8) (Sh.sl (Sh.int .u8)))))⟩ 44 = some k147 := by kernel_rfl
theorem lk148 : compF Go.Proofs.Try.prog mF ⟨[0, 1, 2], [none, none, none], false, (some [(Sh.ar .u8)]), (some (Sh.st (Sh.pr (Sh.int .u8) (Sh.sl (Sh.int .u8)))))⟩ 45 = some k148 := by kernel_rfl
theorem lk149 : compF Go.Proofs.Try.prog mF ⟨[0, 1, 2], [none, none, none], false, (some [(Sh.ar .u8)]), (some (Sh.st (Sh.pr (Sh.int .u8) (Sh.sl (Sh.int .u8)))))⟩ 46 = some k149 := by kernel_rfl
theorem lk150 : compF Go.Proofs.Try.prog mF ⟨[0, 1, 2, 6, 7], [none, none, none, none], false, (some [(Sh.int .u8), (Sh.int .u32), (Sh.sl (Sh.int .u8))]), (some (Sh.st (Sh.pr (Sh.int .u8) (Sh.sl (Sh.int .u8)))))⟩ 47 = some k150 := by kernel_rfl
theorem lk151 : compF Go.Proofs.Try.prog mF ⟨[0, 1, 2, 3, 5, 6, 7, 8, 9], [none, none, none, none], false, (some [(Sh.int .u8), (Sh.ar .u8), (Sh.ar .u8), (Sh.ar .u8)]), (some (Sh.st (Sh.pr (Sh.int .u8) (Sh.sl (Sh.int .u8)))))⟩ 48 = some k151 := by kernel_rfl
theorem lk152 : compF Go.Proofs.Try.prog mF ⟨[0, 1, 3, 4], [none, none, none], false, (some [(Sh.int .u8), (Sh.ar .u8)]), (some (Sh.st (Sh.pr (Sh.int .u8) (Sh.sl (Sh.int .u8)))))⟩ 49 = some k152 := by kernel_rfl
theorem lk153 : compF Go.Proofs.Try.prog mF ⟨[0, 1, 2, 3, 4, 5, 10], [none, none, none, none, none, none, none, none], false, (some [(Sh.st (Sh.pr (Sh.int .u8) (Sh.sl (Sh.int .u8))))]), (some (Sh.tu (Sh.pr (Sh.st (Sh.pr (Sh.int .u8) (Sh.pr (Sh.int .u32) (Sh.sl (Sh.int .u8))))) (Sh.int .i64))))⟩ 50 = some k153 := by kernel_rfl
theorem lk154 : compF Go.Proofs.Try.prog mF ⟨[0, 1, 2, 3, 4, 5, 9], [none, none, none, none, none, none, none, none], false, (some [(Sh.st (Sh.pr (Sh.int .u8) (Sh.sl (Sh.int .u8))))]), (some (Sh.tu (Sh.pr (Sh.ar .u8) (Sh.int .i64))))⟩ 51 = some k154 := by kernel_rfl
theorem lk155 : compF Go.Proofs.Try.prog mF ⟨[0, 1, 2, 3, 4, 8], [none, none, none, none, none, none, none], false, (some [(Sh.st (Sh.pr (Sh.int .u8) (Sh.sl (Sh.int .u8))))]), (some (Sh.tu (Sh.pr (Sh.ar .u8) (Sh.int .i64))))⟩ 52 = some k155 := by kernel_rfl
theorem lk156 : compF Go.Proofs.Try.prog mF ⟨[0, 1, 2, 3, 4, 5, 10], [none, none, none, none, none, none, none, none], false, (some [(Sh.st (Sh.pr (Sh.int .u8) (Sh.sl (Sh.int .u8))))]), (some (Sh.tu (Sh.pr (Sh.int .u16) (Sh.int .i64))))⟩ 53 = some k156 := by kernel_rfl
theorem lk157 : compF Go.Proofs.Try.prog mF ⟨[0, 2, 3], [none, none, none, none], false, (some [(Sh.int .u16)]), (some (Sh.st (Sh.pr (Sh.int .u8) (Sh.sl (Sh.int .u8)))))⟩ 54 = some k157 := by kernel_rfl
theorem lk158 : compF Go.Proofs.Try.prog mF ⟨[0, 1, 2, 4, 8], [none, none, none, none, none, none], false, (some [(Sh.st (Sh.pr (Sh.int .u8) (Sh.sl (Sh.int .u8)))), (Sh.int .u8)]), (some (Sh.int .i64))⟩ 55 = some k158 := by kernel_rfl
theorem lk159 : compF Go.Proofs.Try.prog mF ⟨[0, 1, 4, 7], [none, none, none, none, none, none], false, (some [(Sh.sl (Sh.int .u8)), (Sh.sl (Sh.int .u8))]), (some (Sh.sl (Sh.int .u8)))⟩ 61 = some k159 := by kernel_rfl
theorem lk160 : compF Go.Proofs.Try.prog mF ⟨[0, 1, 4], [none, none, none], false, (some [(Sh.sl (Sh.int .u8)), (Sh.sl (Sh.int .u8))]), (some Sh.bool)⟩ 63 = some k160 := by kernel_rfl
theorem lk161 : compF Go.Proofs.Try.prog mF ⟨[0, 2], [none, none, none], false, (some [(Sh.int .u8)]), (some Sh.bool)⟩ 64 = some k161 := by kernel_rfl
theorem lk162 : compF Go.Proofs.Try.prog mF ⟨[0, 2], [none, none, none], false, (some [(Sh.int .u8)]), (some Sh.bool)⟩ 65 = some k162 := by kernel_rfl
theorem lk163 : compF Go.Proofs.Try.prog mF ⟨[0, 2, 3, 4, 5, 6, 7, 9, 11], [none, none, none, none, none, none, none, none, none, none, none, none, none], false, (some [(Sh.int .u8)]), (some (Sh.tu (Sh.pr (Sh.int .i64) (Sh.pr (Sh.int .i64) (Sh.pr (Sh.int .u8) (Sh.int .u8))))))⟩ 68 = some k163 := by kernel_rfl
theorem lk164 : compF Go.Proofs.Try.prog mF ⟨[0, 1, 4], [none, none, none], false, (some [(Sh.sl (Sh.int .u8)), (Sh.sl (Sh.int .u8))]), (some Sh.bool)⟩ 69 = some k164 := by kernel_rfl
theorem lk165 : compF Go.Proofs.Try.prog mF ⟨[0, 2, 3, 7, 14], [none, none, (some ⟨0, [], false, [0, 3], []⟩), none, (some ⟨0, [], false, [], []⟩), none, none, none, none, none, none], false, (some [(Sh.sl (Sh.int .u8))]), (some Sh.bool)⟩ 70 = some k165 := by kernel_rfl
theorem lk166 : compF Go.Proofs.Try.prog mF ⟨[0, 2], [none, none, none], false, (some [(Sh.int .u8)]), (some (Sh.sl (Sh.int .u8)))⟩ 71 = some k166 := by kernel_rfl
theorem lk167 : compF Go.Proofs.Try.prog mF ⟨[0, 1, 2, 4, 8], [none, none, none, none, none, none], false, (some [(Sh.st (Sh.pr (Sh.int .u8) (Sh.sl (Sh.int .u8)))), (Sh.int .u8)]), (some (Sh.int .i64))⟩ 72 = some k167 := by kernel_rfl
theorem mF_mem {f g : Nat} (h : mF f = some g) : (f, g) ∈ mT := by
  simp only [mF, Option.map_eq_some_iff] at h
  obtain ⟨p, h1, h2⟩ := h
  have h3 := List.mem_of_find?_eq_some h1
  have h4 := List.find?_some h1
  have h5 : p.1 = f := by simpa using h4
  rw [← h5, ← h2]; exact h3
theorem link : Link Go.Proofs.Try.prog mF FT := by
  intro f g fn hm hF
  have h := mF_mem hm
  simp only [mT, List.mem_cons, Prod.mk.injEq, List.not_mem_nil, or_false] at h
  rcases h with ⟨rfl, rfl⟩ | ⟨rfl, rfl⟩ | ⟨rfl, rfl⟩ | ⟨rfl, rfl⟩ | ⟨rfl, rfl⟩ | ⟨rfl, rfl⟩ | ⟨rfl, rfl⟩ | ⟨rfl, rfl⟩ | ⟨rfl, rfl⟩ | ⟨rfl, rfl⟩ | ⟨rfl, rfl⟩ | ⟨rfl, rfl⟩ | ⟨rfl, rfl⟩ | ⟨rfl, rfl⟩ | ⟨rfl, rfl⟩ | ⟨rfl, rfl⟩ | ⟨rfl, rfl⟩ | ⟨rfl, rfl⟩ | ⟨rfl, rfl⟩ | ⟨rfl, rfl⟩ | ⟨rfl, rfl⟩ | ⟨rfl, rfl⟩ | ⟨rfl, rfl⟩ | ⟨rfl, rfl⟩ | ⟨rfl, rfl⟩ | ⟨rfl, rfl⟩ | ⟨rfl, rfl⟩ | ⟨rfl, rfl⟩ | ⟨rfl, rfl⟩ | ⟨rfl, rfl⟩ | ⟨rfl, rfl⟩ | ⟨rfl, rfl⟩ | ⟨rfl, rfl⟩ | ⟨rfl, rfl⟩ | ⟨rfl, rfl⟩ | ⟨rfl, rfl⟩ | ⟨rfl, rfl⟩ | ⟨rfl, rfl⟩ | ⟨rfl, rfl⟩ | ⟨rfl, rfl⟩ | ⟨rfl, rfl⟩ | ⟨rfl, rfl⟩ | ⟨rfl, rfl⟩ | ⟨rfl, rfl⟩ | ⟨rfl, rfl⟩ | ⟨rfl, rfl⟩ | ⟨rfl, rfl⟩ | ⟨rfl, rfl⟩ | ⟨rfl, rfl⟩ | ⟨rfl, rfl⟩ | ⟨rfl, rfl⟩ | ⟨rfl, rfl⟩ | ⟨rfl, rfl⟩ | ⟨rfl, rfl⟩ | ⟨rfl, rfl⟩ | ⟨rfl, rfl⟩ | ⟨rfl, rfl⟩ | ⟨rfl, rfl⟩ | ⟨rfl, rfl⟩ | ⟨rfl, rfl⟩ | ⟨rfl, rfl⟩ | ⟨rfl, rfl⟩ | ⟨rfl, rfl⟩ | ⟨rfl, rfl⟩ | ⟨rfl, rfl⟩ | ⟨rfl, rfl⟩ | ⟨rfl, rfl⟩ | ⟨rfl, rfl⟩ | ⟨rfl, rfl⟩ | ⟨rfl, rfl⟩ | ⟨rfl, rfl⟩ | ⟨rfl, rfl⟩ | ⟨rfl, rfl⟩ | ⟨rfl, rfl⟩
  · injection hF with hF; subst hF; exact compF_ok lk1
  · injection hF with hF; subst hF; exact compF_ok lk15
  · injection hF with hF; subst hF; exact compF_ok lk16
  · injection hF with hF; subst hF; exact compF_ok lk17
  · injection hF with hF; subst hF; exact compF_ok lk18
  · injection hF with hF; subst hF; exact compF_ok lk19
  · injection hF with hF; subst hF; exact compF_ok lk21
  · injection hF with hF; subst hF; exact compF_ok lk23
  · injection hF with hF; subst hF; exact compF_ok lk40
  · injection hF with hF; subst hF; exact compF_ok lk41
  · injection hF with hF; subst hF; exact compF_ok lk42
  · injection hF with hF; subst hF; exact compF_ok lk43
  · injection hF with hF; subst hF; exact compF_ok lk44
  · injection hF with hF; subst hF; exact compF_ok lk45
  · injection hF with hF; subst hF; exact compF_ok lk46
  · injection hF with hF; subst hF; exact compF_ok lk47
  · injection hF with hF; subst hF; exact compF_ok lk48
  · injection hF with hF; subst hF; exact compF_ok lk50
  · injection hF with hF; subst hF; exact compF_ok lk51
  · injection hF with hF; subst hF; exact compF_ok lk59
  · injection hF with hF; subst hF; exact compF_ok lk60
  · cases hF
  · injection hF with hF; subst hF; exact compF_ok lk63
  · injection hF with hF; subst hF; exact compF_ok lk64
  · injection hF with hF; subst hF; exact compF_ok lk65
  · cases hF
  · cases hF
  · injection hF with hF; subst hF; exact compF_ok lk121
  · injection hF with hF; subst hF; exact compF_ok lk122
  · injection hF with hF; subst hF; exact compF_ok lk123
  · injection hF with hF; subst hF; exact compF_ok lk124
  · cases hF
  · injection hF with hF; subst hF; exact compF_ok lk126
  · injection hF with hF; subst hF; exact compF_ok lk127
  · injection hF with hF; subst hF; exact compF_ok lk128
  · injection hF with hF; subst hF; exact compF_ok lk129
  · injection hF with hF; subst hF; exact compF_ok lk130
  · injection hF with hF; subst hF; exact compF_ok lk131
  · injection hF with hF; subst hF; exact compF_ok lk132
  · injection hF with hF; subst hF; exact compF_ok lk133
  · injection hF with hF; subst hF; exact compF_ok lk134
  · injection hF with hF; subst hF; exact compF_ok lk135
  · injection hF with hF; subst hF; exact compF_ok lk136
  · injection hF with hF; subst hF; exact compF_ok lk137
  · injection hF with hF; subst hF; exact compF_ok lk138
  · injection hF with hF; subst hF; exact compF_ok lk139
  · injection hF with hF; subst hF; exact compF_ok lk140
  · injection hF with hF; subst hF; exact compF_ok lk141
  · injection hF with hF; subst hF; exact compF_ok lk142
  · injection hF with hF; subst hF; exact compF_ok lk143
  · injection hF with hF; subst hF; exact compF_ok lk144
  · injection hF with hF; subst hF; exact compF_ok lk145
  · injection hF with hF; subst hF; exact compF_ok lk146
  · injection hF with hF; subst hF; exact compF_ok lk147
  · injection hF with hF; subst hF; exact compF_ok lk148
  · injection hF with hF; subst hF; exact compF_ok lk149
  · injection hF with hF; subst hF; exact compF_ok lk150
  · injection hF with hF; subst hF; exact compF_ok lk151
  · injection hF with hF; subst hF; exact compF_ok lk152
  · injection hF with hF; subst hF; exact compF_ok lk153
  · injection hF with hF; subst hF; exact compF_ok lk154
  · injection hF with hF; subst hF; exact compF_ok lk155
  · injection hF with hF; subst hF; exact compF_ok lk156
  · injection hF with hF; subst hF; exact compF_ok lk157
  · injection hF with hF; subst hF; exact compF_ok lk158
  · injection hF with hF; subst hF; exact compF_ok lk159
  · injection hF with hF; subst hF; exact compF_ok lk160
  · injection hF with hF; subst hF; exact compF_ok lk161
  · injection hF with hF; subst hF; exact compF_ok lk162
  · injection hF with hF; subst hF; exact compF_ok lk163
  · injection hF with hF; subst hF; exact compF_ok lk164
  · injection hF with hF; subst hF; exact compF_ok lk165
  · injection hF with hF; subst hF; exact compF_ok lk166
  · injection hF with hF; subst hF; exact compF_ok lk167
theorem lk61 : compF Go.Proofs.Try.prog mF ⟨[0, 2, 4], [none, none, none, none, none, none], false, (some [(Sh.sl (Sh.int .u8))]), none⟩ 58 = some kclone := by kernel_rfl
theorem lk108 : compF Go.Proofs.Try.prog mF ⟨[0, 2, 4], [none, none, none, none, none, none], false, (some [(Sh.sl (Sh.int .u8))]), none⟩ 62 = some kclone := by kernel_rfl
theorem lk66 : ((Go.Proofs.Try.prog.funcs[76]?).map fun f => (f.name, f.origin, f.body.isNone)) = some ("internal/bytealg.IndexByteString", "", true) := by kernel_rfl
theorem lx66 : ∃ pf, Go.Proofs.Try.prog.funcs[76]? = some pf ∧ (pf.name == "runtime.NumGoroutine") = false ∧ pf.body.isNone = true ∧ Extern.findNext pf = none ∧ Extern.find pf = some Extern.BytealgIndexByte.indexByte := by
  obtain ⟨pf, h1, h2⟩ := Option.map_eq_some_iff.1 lk66
  simp only [Prod.mk.injEq] at h2
  exact ⟨pf, h1, by rw [h2.1]; rfl, h2.2.2, find_next h2.1 h2.2.1, find_extern h2.1⟩
theorem xok : XOK Go.Proofs.Try.prog mF where
  c61 := fun f h => by
    have h := mF_mem h
    simp only [mT, List.mem_cons, Prod.mk.injEq, List.not_mem_nil, or_false] at h
    obtain rfl : f = 58 := by omega
    exact compF_ok lk61
  c108 := fun f h => by
    have h := mF_mem h
    simp only [mT, List.mem_cons, Prod.mk.injEq, List.not_mem_nil, or_false] at h
    obtain rfl : f = 62 := by omega
    exact compF_ok lk108
  c66 := fun f h => by
    have h := mF_mem h
    simp only [mT, List.mem_cons, Prod.mk.injEq, List.not_mem_nil, or_false] at h
    obtain rfl : f = 76 := by omega
    exact lx66
end Go.Proofs.YtjkdflcccoeggaaE
