/- The evaluator's functions are the program's. -/
import Derived.Test.YtgjbkgajkcgdfaaEvFA
import Derived.Test.YtgjbkgajkcgdfaaChecked
import Derived.KernelRfl
namespace Go.Proofs.YtgjbkgajkcgdfaaE
open Go
set_option linter.unusedVariables false
set_option linter.unusedSimpArgs false
def mT : List (Nat × Nat) := [(55, 1), (3, 10), (4, 11), (5, 12), (6, 13), (7, 14), (8, 15), (9, 16), (10, 17), (11, 18), (12, 19), (13, 20), (14, 21), (15, 22), (16, 23), (17, 24), (18, 25), (19, 26), (20, 27), (21, 28), (22, 29), (23, 30), (24, 31), (25, 32), (26, 33), (27, 34), (28, 35), (29, 36), (30, 37), (31, 38), (32, 39), (33, 40), (34, 41), (35, 42), (36, 43), (37, 44), (38, 45), (39, 46), (40, 47), (41, 48), (42, 49), (43, 50), (44, 51), (45, 52), (46, 53), (47, 54), (48, 55), (49, 56), (50, 57), (51, 58), (52, 59), (53, 60), (54, 61), (56, 63), (57, 64), (58, 65), (59, 66)]
def mF : Nat → Option Nat := fun f => (mT.find? (·.1 == f)).map (·.2)
theorem lk10 : compF Go.Proofs.Try.prog mF ⟨[0, 1, 2, 6, 8, 9, 10, 11, 12, 13, 14, 15, 16, 19, 21, 22, 23, 24, 71], [none, none, none, none, none, (some ⟨0, [], false, [0, 1, 2, 21, 22, 23], []⟩), none, (some ⟨0, [], false, [], []⟩), none, none, none, none, none, none, none, none, none, none, none], false, (some [(Sh.int .u64), (Sh.int .i64), (Sh.sl (Sh.int .u8))]), (some Sh.bool)⟩ 3 = some k10 := by kernel_rfl
theorem lk11 : compF Go.Proofs.Try.prog mF ⟨[0, 1, 2, 4, 5, 6, 8, 9, 10, 20, 21, 22, 23, 26, 27, 39], [none, none, none, (some ⟨0, [], false, [1, 5, 6, 20, 21, 22], []⟩), none, (some ⟨0, [], false, [1, 5, 6], []⟩), none, none, none, (some ⟨1, [], false, [1, 5, 6, 8, 9, 20, 21, 22, 26], []⟩), none, (some ⟨0, [], false, [1, 5, 6, 9, 20, 21, 22], []⟩), none, none, none, none, none, none, none, none, none], false, (some [(Sh.ar .u8), (Sh.int .u8)]), (some Sh.bool)⟩ 4 = some k11 := by kernel_rfl
theorem lk12 : compF Go.Proofs.Try.prog mF ⟨[0, 1, 2, 4, 6, 7, 8, 9, 10, 11, 12, 13, 14, 15, 16, 17, 18, 19, 20, 21, 22, 23, 26], [none, none, none, none, none, none, none, none, none, none, none, none, none], false, (some [(Sh.int .u64), (Sh.ar .i64), (Sh.sl (Sh.int .i64))]), (some Sh.bool)⟩ 5 = some k12 := by kernel_rfl
theorem lk13 : compF Go.Proofs.Try.prog mF ⟨[0, 1, 2, 5, 6, 7, 8, 9, 10, 11, 12, 13, 14, 15, 16, 49], [none, none, none, none, none, none, none, none, none, none, none], false, (some [(Sh.int .u64), (Sh.int .i64), (Sh.ar .i16)]), (some Sh.bool)⟩ 6 = some k13 := by kernel_rfl
theorem lk14 : compF Go.Proofs.Try.prog mF ⟨[0, 1, 4, 5, 6, 7, 8, 9, 10, 11, 12, 13, 14, 17], [none, none, none, none, none, none, none, none, none, none, none], false, (some [(Sh.sl (Sh.int .u8)), (Sh.int .u8)]), (some Sh.bool)⟩ 7 = some k14 := by kernel_rfl
theorem lk15 : compF Go.Proofs.Try.prog mF ⟨[0, 1, 4, 5, 6, 7, 8, 16], [none, none, none, none, none, none, none, none], false, (some [(Sh.sl (Sh.int .u8)), Sh.str]), (some Sh.bool)⟩ 8 = some k15 := by kernel_rfl
theorem lk16 : compF Go.Proofs.Try.prog mF ⟨[0, 1, 4, 5, 6, 7, 8, 9, 17], [none, none, none, none, none, none, none, none, none], false, (some [(Sh.sl (Sh.int .u8)), (Sh.sl (Sh.int .u8))]), (some Sh.bool)⟩ 9 = some k16 := by kernel_rfl
theorem lk17 : compF Go.Proofs.Try.prog mF ⟨[0, 1, 2, 5, 6, 7, 8, 9, 10, 11, 12, 13, 14, 15, 16, 17, 18, 30, 76], [none, none, none, none, none, none, none, none, none, none, none, none, none, none, none], false, (some [(Sh.int .u64), (Sh.int .i64), (Sh.st (Sh.pr (Sh.sl (Sh.int .u8)) (Sh.sl (Sh.int .u8))))]), (some Sh.bool)⟩ 10 = some k17 := by kernel_rfl
theorem lk18 : compF Go.Proofs.Try.prog mF ⟨[0, 1, 2, 3, 4, 5, 6], [none, none, none, none, none, none], false, (some []), (some Sh.bool)⟩ 11 = some k18 := by kernel_rfl
theorem lk19 : compF Go.Proofs.Try.prog mF ⟨[0, 1, 2, 6, 7, 8, 9, 15, 19, 20, 21, 33], [none, none, none, none, none, none, (some ⟨0, [], false, [0, 2, 8, 19, 20], []⟩), none, (some ⟨0, [], false, [2, 8], []⟩), none, none, none, none, none, none, none], false, (some [(Sh.int .u64), (Sh.int .i64), Sh.bool]), (some (Sh.tu (Sh.pr (Sh.sl (Sh.int .u8)) (Sh.int .i64))))⟩ 12 = some k19 := by kernel_rfl
theorem lk20 : compF Go.Proofs.Try.prog mF ⟨[0, 1, 2, 6, 7, 13, 14], [none, none, none, none, none, none, none, none, none], false, (some [(Sh.int .u64), (Sh.int .i64), Sh.bool]), (some (Sh.tu (Sh.pr (Sh.sl (Sh.int .u8)) (Sh.int .i64))))⟩ 13 = some k20 := by kernel_rfl
theorem lk21 : compF Go.Proofs.Try.prog mF ⟨[0, 1, 4, 5, 6, 7, 8, 16, 17, 18, 19, 20, 24], [none, none, none, none, none, none, (some ⟨0, [], false, [1, 6, 17, 18, 19], []⟩), none, (some ⟨0, [], false, [6], []⟩), none, none, none, none, none, none, none], false, (some [(Sh.sl (Sh.int .u8)), Sh.bool]), (some (Sh.tu (Sh.pr (Sh.int .u64) (Sh.int .i64))))⟩ 14 = some k21 := by kernel_rfl
theorem lk22 : compF Go.Proofs.Try.prog mF ⟨[0, 1, 4, 5, 13, 14], [none, none, none, none, none, none, none, none, none], false, (some [(Sh.sl (Sh.int .u8)), Sh.bool]), (some (Sh.tu (Sh.pr (Sh.int .u64) (Sh.int .i64))))⟩ 15 = some k22 := by kernel_rfl
theorem lk23 : compF Go.Proofs.Try.prog mF ⟨[0, 1, 4, 5, 10, 14, 25], [none, none, none, none, none, (some ⟨0, [], false, [0, 1, 5], []⟩), none, (some ⟨0, [], false, [], []⟩), none, none, none, none, none, none], false, (some [(Sh.sl (Sh.int .u8)), (Sh.sl (Sh.int .u8))]), (some Sh.bool)⟩ 16 = some k23 := by kernel_rfl
theorem lk24 : compF Go.Proofs.Try.prog mF ⟨[0, 2, 3, 4, 6, 7, 8, 11, 12, 13, 14, 15, 26, 27, 28], [none, none, none, none, none, none, (some ⟨0, [], false, [4, 12, 13, 14], []⟩), none, (some ⟨0, [], false, [4], []⟩), none, none, none, none, none, (some ⟨1, [], false, [4, 7, 26, 27], []⟩), none, (some ⟨0, [], false, [7], []⟩), none, none, none, none, none], false, (some [(Sh.sl (Sh.int .u8))]), (some (Sh.tu (Sh.pr (Sh.sl (Sh.int .u8)) (Sh.int .i64))))⟩ 17 = some k24 := by kernel_rfl
theorem lk25 : compF Go.Proofs.Try.prog mF ⟨[0, 2], [none, none, none], false, (some [(Sh.int .u8)]), (some (Sh.int .u8))⟩ 18 = some k25 := by kernel_rfl
theorem lk26 : compF Go.Proofs.Try.prog mF ⟨[0, 1, 2, 3, 4, 5, 6], [none, none, none, none, none, none], false, (some []), (some Sh.bool)⟩ 19 = some k26 := by kernel_rfl
theorem lk27 : compF Go.Proofs.Try.prog mF ⟨[0, 1, 2, 3, 4, 6, 7, 8, 9, 10, 12, 20, 22, 23, 24, 25, 32], [none, none, none, none, none, none, none, (some ⟨0, [], false, [8, 9, 10, 22, 23, 24], []⟩), none, (some ⟨0, [], false, [8, 9], []⟩), none, none, none, none, none, none, none, none], false, (some [(Sh.int .u64), (Sh.int .i64), (Sh.sl (Sh.int .i64))]), (some (Sh.tu (Sh.pr (Sh.int .u64) (Sh.int .i64))))⟩ 20 = some k27 := by kernel_rfl
theorem lk28 : compF Go.Proofs.Try.prog mF ⟨[0, 1, 2, 6, 7, 8, 9, 10, 18, 25, 40], [none, none, none, none, none, none, none, (some ⟨0, [], false, [1, 2, 8, 9, 10], [(9, (.ints .u8 []), 1)]⟩), none, (some ⟨0, [], false, [9], []⟩), none, none, none, none, none, none, none], false, (some [(Sh.int .u64), (Sh.int .i64), (Sh.sl (Sh.int .i64))]), (some (Sh.tu (Sh.pr (Sh.int .u64) (Sh.int .i64))))⟩ 21 = some k28 := by kernel_rfl
theorem lk29 : compF Go.Proofs.Try.prog mF ⟨[0, 1, 2, 6, 7, 10, 15], [none, none, none, none, none, none, none, none, none, none], false, (some [(Sh.int .u64), (Sh.int .i64), (Sh.int .i64)]), (some (Sh.tu (Sh.pr (Sh.int .u64) (Sh.int .i64))))⟩ 22 = some k29 := by kernel_rfl
theorem lk30 : compF Go.Proofs.Try.prog mF ⟨[0, 1, 2, 6, 7, 8, 9, 12], [none, none, none, none, none, none, none, none], false, (some [(Sh.int .u64), (Sh.int .i64), (Sh.int .i64)]), (some (Sh.tu (Sh.pr (Sh.int .u64) (Sh.int .i64))))⟩ 23 = some k30 := by kernel_rfl
theorem lk31 : compF Go.Proofs.Try.prog mF ⟨[0, 1, 2, 6, 7, 8, 9, 21], [none, none, none, none, none, none, none, none], false, (some [(Sh.int .u64), (Sh.int .i64), (Sh.int .i64)]), (some (Sh.tu (Sh.pr (Sh.int .u64) (Sh.pr (Sh.int .u64) (Sh.int .i64)))))⟩ 24 = some k31 := by kernel_rfl
theorem lk32 : compF Go.Proofs.Try.prog mF ⟨[0, 1, 2, 6, 7, 8, 9, 21], [none, none, none, none, none, none, none], false, (some [(Sh.int .u64), (Sh.int .i64), (Sh.int .i64)]), (some (Sh.tu (Sh.pr (Sh.int .u64) (Sh.pr (Sh.int .u64) (Sh.int .i64)))))⟩ 25 = some k32 := by kernel_rfl
theorem lk33 : compF Go.Proofs.Try.prog mF ⟨[0, 1, 2, 6, 18], [none, none, none, none, none, none], false, (some [(Sh.int .u64), (Sh.int .i64), (Sh.int .i64)]), (some (Sh.int .u64))⟩ 26 = some k33 := by kernel_rfl
theorem lk34 : compF Go.Proofs.Try.prog mF ⟨[0, 1, 2, 6, 18], [none, none, none, none, none, none], false, (some [(Sh.int .u64), (Sh.int .i64), (Sh.int .i64)]), (some (Sh.int .u64))⟩ 27 = some k34 := by kernel_rfl
theorem lk35 : compF Go.Proofs.Try.prog mF ⟨[0, 1, 4, 6], [none, none, none, none, none, none], false, (some [(Sh.int .u64), (Sh.int .i64)]), (some (Sh.int .u64))⟩ 28 = some k35 := by kernel_rfl
theorem lk36 : compF Go.Proofs.Try.prog mF ⟨[0, 2, 3, 4, 5, 6, 7, 10, 12, 24], [none, none, none, none, none, none, (some ⟨0, [], false, [0, 4, 5, 6], [(4, (.ints .u8 []), 1)]⟩), none, (some ⟨0, [], false, [4, 5], []⟩), none, none, none, (some ⟨1, [], false, [4, 5, 7], [(5, (.ints .u8 []), 1)]⟩), none, (some ⟨0, [], false, [5], []⟩), none, none, none, none], false, (some [(Sh.sl (Sh.int .u8))]), (some (Sh.tu (Sh.pr (Sh.sl (Sh.int .u8)) (Sh.int .i64))))⟩ 29 = some k36 := by kernel_rfl
theorem lk37 : compF Go.Proofs.Try.prog mF ⟨[0, 2, 3, 4, 6, 7, 8, 11, 12, 13, 14, 15, 27, 28, 29], [none, none, none, none, none, none, (some ⟨0, [], false, [4, 12, 13, 14], []⟩), none, (some ⟨0, [], false, [4], []⟩), none, none, none, none, none, (some ⟨1, [], false, [4, 7, 27, 28], []⟩), none, (some ⟨0, [], false, [7], []⟩), none, none, none, none, none], false, (some [(Sh.sl (Sh.int .u8))]), (some (Sh.tu (Sh.pr (Sh.sl (Sh.int .u8)) (Sh.int .i64))))⟩ 30 = some k37 := by kernel_rfl
theorem lk38 : compF Go.Proofs.Try.prog mF ⟨[0, 2, 3, 4, 5, 6, 7, 10, 12, 25], [none, none, none, none, none, none, (some ⟨0, [], false, [0, 4, 5, 6], [(4, (.ints .u8 []), 1)]⟩), none, (some ⟨0, [], false, [4, 5], []⟩), none, none, none, (some ⟨1, [], false, [4, 5, 7], [(5, (.ints .u8 []), 1)]⟩), none, (some ⟨0, [], false, [5], []⟩), none, none, none, none], false, (some [(Sh.sl (Sh.int .u8))]), (some (Sh.tu (Sh.pr (Sh.sl (Sh.int .u8)) (Sh.int .i64))))⟩ 31 = some k38 := by kernel_rfl
theorem lk39 : compF Go.Proofs.Try.prog mF ⟨[0, 2, 3, 4, 6], [none, none, none, (some ⟨0, [], false, [0, 3, 4], []⟩), none, (some ⟨0, [], false, [0, 3], []⟩), none, none, none, none], false, (some [(Sh.int .u8)]), (some (Sh.int .u8))⟩ 32 = some k39 := by kernel_rfl
theorem lk40 : compF Go.Proofs.Try.prog mF ⟨[0, 2, 3, 4, 5, 9, 11, 22], [none, none, none, none, none, none, none, none, none, none, none, none, none, none, none], false, (some [Sh.str]), (some (Sh.tu (Sh.pr (Sh.sl (Sh.int .u8)) (Sh.int .i64))))⟩ 33 = some k40 := by kernel_rfl
theorem lk41 : compF Go.Proofs.Try.prog mF ⟨[0, 2, 3, 4, 5, 6, 7, 11, 15, 32], [none, none, none, none, none, none, (some ⟨0, [], false, [0, 4, 5], [(4, (.ints .u8 []), 1)]⟩), none, (some ⟨0, [], false, [4], []⟩), none, none, none, none, none, none, none, none], false, (some [Sh.str]), (some (Sh.tu (Sh.pr (Sh.sl (Sh.int .u8)) (Sh.int .i64))))⟩ 34 = some k41 := by kernel_rfl
theorem lk42 : compF Go.Proofs.Try.prog mF ⟨[0, 2, 3, 5, 10, 11, 12, 13], [none, none, none, (some ⟨0, [], false, [3, 10, 11, 12], [(3, (.imm []), 1)]⟩), none, (some ⟨0, [], false, [3], []⟩), none, none, none, none, none], false, (some [(Sh.sl (Sh.int .u8))]), (some Sh.str)⟩ 35 = some k42 := by kernel_rfl
theorem lk43 : compF Go.Proofs.Try.prog mF ⟨[0, 2, 3, 4, 5, 6, 7, 11], [none, none, none, none, (some ⟨0, [], false, [0, 3, 4, 5], []⟩), none, (some ⟨0, [], false, [4], []⟩), none, none, none, none, none], false, (some [(Sh.sl (Sh.int .u8))]), (some Sh.str)⟩ 36 = some k43 := by kernel_rfl
theorem lk44 : compF Go.Proofs.Try.prog mF ⟨[0, 1, 4, 5, 6, 7, 8, 13, 16, 17, 18, 19], [none, none, none, none, none, none, (some ⟨0, [], false, [6, 16, 17, 18], []⟩), none, (some ⟨0, [], false, [6], []⟩), none, none, none, none, none], false, (some [(Sh.sl (Sh.int .u8)), (Sh.sl (Sh.int .u8))]), (some (Sh.tu (Sh.pr (Sh.sl (Sh.int .u8)) (Sh.int .i64))))⟩ 37 = some k44 := by kernel_rfl
theorem lk45 : compF Go.Proofs.Try.prog mF ⟨[0, 1, 4, 5, 6, 7, 12, 19], [none, none, none, none, none, none, (some ⟨0, [], false, [0, 1, 6, 7], []⟩), none, (some ⟨0, [], false, [6], []⟩), none, none, none, none], false, (some [(Sh.sl (Sh.int .u8)), (Sh.sl (Sh.int .u8))]), (some (Sh.tu (Sh.pr (Sh.sl (Sh.int .u8)) (Sh.int .i64))))⟩ 38 = some k45 := by kernel_rfl
theorem lk46 : compF Go.Proofs.Try.prog mF ⟨[0, 2], [none, none, none], false, (some [(Sh.sl (Sh.sl (Sh.int .u8)))]), none⟩ 39 = some k46 := by kernel_rfl
theorem lk47 : compF Go.Proofs.Try.prog mF ⟨[0, 1, 4, 5, 6, 7, 12, 13, 14, 15, 16], [none, none, none, none, none, none, (some ⟨0, [], false, [1, 5, 13, 14, 15], []⟩), none, (some ⟨0, [], false, [5], []⟩), none, none, none, none, none], false, (some [(Sh.sl (Sh.int .u8)), (Sh.sl (Sh.int .u8))]), (some Sh.bool)⟩ 40 = some k47 := by kernel_rfl
theorem lk48 : compF Go.Proofs.Try.prog mF ⟨[0, 2, 3, 9], [none, (some ⟨0, [], false, [0, 2, 3], []⟩), none, (some ⟨0, [], false, [], []⟩), none, none], true, none, none⟩ 41 = some k48 := by kernel_rfl
theorem lk49 : compF Go.Proofs.Try.prog mF ⟨[0, 2, 3, 4, 11], [none, none, none, (some ⟨0, [], false, [0, 3, 4], []⟩), none, (some ⟨0, [], false, [3], []⟩), none, none, none, none], false, (some [(Sh.sl (Sh.int .u8))]), (some (Sh.sl (Sh.int .u8)))⟩ 42 = some k49 := by kernel_rfl
theorem lk50 : compF Go.Proofs.Try.prog mF ⟨[0, 1, 4, 5, 6, 12], [none, none, none, (some ⟨0, [], false, [0, 5, 6], []⟩), none, (some ⟨0, [], false, [5], []⟩), none, none, none, none, none], false, (some [(Sh.int .u64), (Sh.int .i64)]), (some (Sh.sl (Sh.int .u8)))⟩ 43 = some k50 := by kernel_rfl
theorem lk51 : compF Go.Proofs.Try.prog mF ⟨[0, 2, 3, 4, 8], [none, none, none, (some ⟨0, [], false, [0, 3, 4], []⟩), none, (some ⟨0, [], false, [3], []⟩), none, none, none, none], false, (some [(Sh.sl (Sh.int .u8))]), (some (Sh.int .u64))⟩ 44 = some k51 := by kernel_rfl
theorem lk52 : compF Go.Proofs.Try.prog mF ⟨[0, 2], [none, none, none], false, (some [(Sh.int .u8)]), (some (Sh.int .i64))⟩ 45 = some k52 := by kernel_rfl
theorem lk53 : compF Go.Proofs.Try.prog mF ⟨[0, 2], [none, none, none], false, (some [(Sh.int .i64)]), (some Sh.bool)⟩ 46 = some k53 := by kernel_rfl
theorem lk54 : compF Go.Proofs.Try.prog mF ⟨[0, 1, 2, 3, 4], [none, none], false, none, none⟩ 47 = some k54 := by kernel_rfl
theorem lk55 : compF Go.Proofs.Try.prog mF ⟨[0, 2], [none, none, none], false, (some [(Sh.int .i64)]), (some Sh.bool)⟩ 48 = some k55 := by kernel_rfl
theorem lk56 : compF Go.Proofs.Try.prog mF ⟨[0, 1, 4, 5, 6, 12], [none, none, none, (some ⟨0, [], false, [0, 5, 6], []⟩), none, (some ⟨0, [], false, [5], []⟩), none, none, none, none, none], false, (some [(Sh.int .u64), (Sh.int .i64)]), (some (Sh.sl (Sh.int .u8)))⟩ 49 = some k56 := by kernel_rfl
theorem lk57 : compF Go.Proofs.Try.prog mF ⟨[0, 2, 3, 4, 8], [none, none, none, (some ⟨0, [], false, [0, 3, 4], []⟩), none, (some ⟨0, [], false, [3], []⟩), none, none, none, none], false, (some [(Sh.sl (Sh.int .u8))]), (some (Sh.int .u64))⟩ 50 = some k57 := by kernel_rfl
theorem lk58 : compF Go.Proofs.Try.prog mF ⟨[0, 2], [none, none, none], false, (some [(Sh.int .i64)]), (some (Sh.int .u64))⟩ 51 = some k58 := by kernel_rfl
theorem lk59 : compF Go.Proofs.Try.prog mF ⟨[0, 2, 8], [none, none, none, none, none], false, (some [(Sh.int .u8)]), (some (Sh.int .i64))⟩ 52 = some k59 := by kernel_rfl
theorem lk60 : compF Go.Proofs.Try.prog mF ⟨[0, 2, 3, 12, 22], [none, none, none, none, none, none, none, none, none, none, none, none], false, (some [(Sh.int .u8)]), (some (Sh.int .u8))⟩ 53 = some k60 := by kernel_rfl
theorem lk61 : compF Go.Proofs.Try.prog mF ⟨[0, 2, 4], [none, none, none, none, none, none], false, (some [(Sh.sl (Sh.int .u8))]), none⟩ 54 = some k61 := by kernel_rfl
theorem lk63 : compF Go.Proofs.Try.prog mF ⟨[0, 1, 4], [none, none, none], false, (some [Sh.str, (Sh.int .u8)]), (some (Sh.int .i64))⟩ 56 = some k63 := by kernel_rfl
theorem lk65 : compF Go.Proofs.Try.prog mF ⟨[0, 1, 4], [none, none, none], false, (some [Sh.str, (Sh.int .u8)]), (some (Sh.int .i64))⟩ 58 = some k65 := by kernel_rfl
theorem mF_mem {f g : Nat} (h : mF f = some g) : (f, g) ∈ mT := by
  simp only [mF, Option.map_eq_some_iff] at h
  obtain ⟨p, h1, h2⟩ := h
  have h3 := List.mem_of_find?_eq_some h1
  have h4 := List.find?_some h1
  have h5 : p.1 = f := by simpa using h4
  rw [← h5, ← h2]; exact h3
theorem link : Link Go.Proofs.Try.prog mF FT := by
  intro f g fn hm hF
  have h := mF_mem hm
  simp only [mT, List.mem_cons, Prod.mk.injEq, List.not_mem_nil, or_false] at h
  rcases h with ⟨rfl, rfl⟩ | ⟨rfl, rfl⟩ | ⟨rfl, rfl⟩ | ⟨rfl, rfl⟩ | ⟨rfl, rfl⟩ | ⟨rfl, rfl⟩ | ⟨rfl, rfl⟩ | ⟨rfl, rfl⟩ | ⟨rfl, rfl⟩ | ⟨rfl, rfl⟩ | ⟨rfl, rfl⟩ | ⟨rfl, rfl⟩ | ⟨rfl, rfl⟩ | ⟨rfl, rfl⟩ | ⟨rfl, rfl⟩ | ⟨rfl, rfl⟩ | ⟨rfl, rfl⟩ | ⟨rfl, rfl⟩ | ⟨rfl, rfl⟩ | ⟨rfl, rfl⟩ | ⟨rfl, rfl⟩ | ⟨rfl, rfl⟩ | ⟨rfl, rfl⟩ | ⟨rfl, rfl⟩ | ⟨rfl, rfl⟩ | ⟨rfl, rfl⟩ | ⟨rfl, rfl⟩ | ⟨rfl, rfl⟩ | ⟨rfl, rfl⟩ | ⟨rfl, rfl⟩ | ⟨rfl, rfl⟩ | ⟨rfl, rfl⟩ | ⟨rfl, rfl⟩ | ⟨rfl, rfl⟩ | ⟨rfl, rfl⟩ | ⟨rfl, rfl⟩ | ⟨rfl, rfl⟩ | ⟨rfl, rfl⟩ | ⟨rfl, rfl⟩ | ⟨rfl, rfl⟩ | ⟨rfl, rfl⟩ | ⟨rfl, rfl⟩ | ⟨rfl, rfl⟩ | ⟨rfl, rfl⟩ | ⟨rfl, rfl⟩ | ⟨rfl, rfl⟩ | ⟨rfl, rfl⟩ | ⟨rfl, rfl⟩ | ⟨rfl, rfl⟩ | ⟨rfl, rfl⟩ | ⟨rfl, rfl⟩ | ⟨rfl, rfl⟩ | ⟨rfl, rfl⟩ | ⟨rfl, rfl⟩ | ⟨rfl, rfl⟩ | ⟨rfl, rfl⟩ | ⟨rfl, rfl⟩
  · cases hF
  · injection hF with hF; subst hF; exact compF_ok lk10
  · injection hF with hF; subst hF; exact compF_ok lk11
  · injection hF with hF; subst hF; exact compF_ok lk12
  · injection hF with hF; subst hF; exact compF_ok lk13
  · injection hF with hF; subst hF; exact compF_ok lk14
  · injection hF with hF; subst hF; exact compF_ok lk15
  · injection hF with hF; subst hF; exact compF_ok lk16
  · injection hF with hF; subst hF; exact compF_ok lk17
  · injection hF with hF; subst hF; exact compF_ok lk18
  · injection hF with hF; subst hF; exact compF_ok lk19
  · injection hF with hF; subst hF; exact compF_ok lk20
  · injection hF with hF; subst hF; exact compF_ok lk21
  · injection hF with hF; subst hF; exact compF_ok lk22
  · injection hF with hF; subst hF; exact compF_ok lk23
  · injection hF with hF; subst hF; exact compF_ok lk24
  · injection hF with hF; subst hF; exact compF_ok lk25
  · injection hF with hF; subst hF; exact compF_ok lk26
  · injection hF with hF; subst hF; exact compF_ok lk27
  · injection hF with hF; subst hF; exact compF_ok lk28
  · injection hF with hF; subst hF; exact compF_ok lk29
  · injection hF with hF; subst hF; exact compF_ok lk30
  · injection hF with hF; subst hF; exact compF_ok lk31
  · injection hF with hF; subst hF; exact compF_ok lk32
  · injection hF with hF; subst hF; exact compF_ok lk33
  · injection hF with hF; subst hF; exact compF_ok lk34
  · injection hF with hF; subst hF; exact compF_ok lk35
  · injection hF with hF; subst hF; exact compF_ok lk36
  · injection hF with hF; subst hF; exact compF_ok lk37
  · injection hF with hF; subst hF; exact compF_ok lk38
  · injection hF with hF; subst hF; exact compF_ok lk39
  · injection hF with hF; subst hF; exact compF_ok lk40
  · injection hF with hF; subst hF; exact compF_ok lk41
  · injection hF with hF; subst hF; exact compF_ok lk42
  · injection hF with hF; subst hF; exact compF_ok lk43
  · injection hF with hF; subst hF; exact compF_ok lk44
  · injection hF with hF; subst hF; exact compF_ok lk45
  · injection hF with hF; subst hF; exact compF_ok lk46
  · injection hF with hF; subst hF; exact compF_ok lk47
  · injection hF with hF; subst hF; exact compF_ok lk48
  · injection hF with hF; subst hF; exact compF_ok lk49
  · injection hF with hF; subst hF; exact compF_ok lk50
  · injection hF with hF; subst hF; exact compF_ok lk51
  · injection hF with hF; subst hF; exact compF_ok lk52
  · injection hF with hF; subst hF; exact compF_ok lk53
  · injection hF with hF; subst hF; exact compF_ok lk54
  · injection hF with hF; subst hF; exact compF_ok lk55
  · injection hF with hF; subst hF; exact compF_ok lk56
  · injection hF with hF; subst hF; exact compF_ok lk57
  · injection hF with hF; subst hF; exact compF_ok lk58
  · injection hF with hF; subst hF; exact compF_ok lk59
  · injection hF with hF; subst hF; exact compF_ok lk60
  · injection hF with hF; subst hF; exact compF_ok lk61
  · injection hF with hF; subst hF; exact compF_ok lk63
  · cases hF
  · injection hF with hF; subst hF; exact compF_ok lk65
  · cases hF
end Go.Proofs.YtgjbkgajkcgdfaaE
