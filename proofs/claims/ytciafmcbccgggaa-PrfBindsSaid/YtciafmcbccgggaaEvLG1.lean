/- The evaluator's functions are the program's. -/
import Derived.Test.YtciafmcbccgggaaEvFG1
import Derived.Test.YtciafmcbccgggaaChecked
import Derived.KernelRfl
namespace Go.Proofs.YtciafmcbccgggaaE
open Go
set_option linter.unusedVariables false
set_option linter.unusedSimpArgs false
def mT : List (Nat × Nat) := [(70, 1), (29, 19), (95, 21), (11, 23), (52, 46), (39, 47), (49, 48), (85, 64), (94, 75), (82, 78), (81, 81), (67, 83), (102, 100), (103, 101), (105, 114), (106, 115), (107, 116), (108, 120), (86, 177), (71, 186), (104, 195), (50, 213), (33, 214), (55, 216), (65, 217), (53, 218), (66, 219), (54, 220), (14, 222), (31, 223), (69, 224), (32, 225), (35, 226), (68, 229), (72, 230), (73, 231), (74, 232), (34, 233), (51, 234), (83, 235), (84, 236), (87, 237), (96, 238), (97, 239), (3, 284), (4, 285), (5, 286), (8, 289), (9, 290), (10, 291), (12, 292), (13, 293), (15, 294), (16, 295), (17, 296), (28, 307), (30, 308)]
def mF : Nat → Option Nat := fun f => (mT.find? (·.1 == f)).map (·.2)
theorem lk1 : compF Go.Proofs.Try.prog mF ⟨[0, 2, 3, 5, 6, 8, 9, 10, 11, 12, 20, 25, 26, 27, 28], [none, none, none, (some ⟨0, [], false, [0, 3, 9, 10, 11], []⟩), none, (some ⟨0, [], false, [0, 3], []⟩), none, none, none, none, none, none, none, (some ⟨1, [], false, [6, 25, 26, 27], []⟩), none, (some ⟨0, [], false, [6], []⟩), none, none, none, none, none], false, (some [(Sh.sl (Sh.sl (Sh.int .u8)))]), none, false⟩ 70 = some k1 := by kernel_rfl
theorem lk19 : compF Go.Proofs.Try.prog mF ⟨[0, 1, 2, 6, 7, 8, 9, 15, 19, 20, 21, 33], [none, none, none, none, none, none, (some ⟨0, [], false, [0, 2, 8, 19, 20], []⟩), none, (some ⟨0, [], false, [2, 8], []⟩), none, none, none, none, none, none, none], false, (some [(Sh.int .u64), (Sh.int .i64), Sh.bool]), (some (Sh.tu (Sh.pr (Sh.sl (Sh.int .u8)) (Sh.int .i64)))), false⟩ 29 = some k19 := by kernel_rfl
theorem lk21 : compF Go.Proofs.Try.prog mF ⟨[0, 1, 4, 5, 6, 7, 8, 16, 17, 18, 19, 20, 24], [none, none, none, none, none, none, (some ⟨0, [], false, [1, 6, 17, 18, 19], []⟩), none, (some ⟨0, [], false, [6], []⟩), none, none, none, none, none, none, none], false, (some [(Sh.sl (Sh.int .u8)), Sh.bool]), (some (Sh.tu (Sh.pr (Sh.int .u64) (Sh.int .i64)))), false⟩ 95 = some k21 := by kernel_rfl
theorem lk23 : compF Go.Proofs.Try.prog mF ⟨[0, 1, 4, 5, 10, 14, 25], [none, none, none, none, none, (some ⟨0, [], false, [0, 1, 5], []⟩), none, (some ⟨0, [], false, [], []⟩), none, none, none, none, none, none], false, (some [(Sh.sl (Sh.int .u8)), (Sh.sl (Sh.int .u8))]), (some Sh.bool), false⟩ 11 = some k23 := by kernel_rfl
theorem lk46 : compF Go.Proofs.Try.prog mF ⟨[0, 2], [none, none, none], false, (some [(Sh.sl (Sh.sl (Sh.int .u8)))]), none, false⟩ 52 = some k46 := by kernel_rfl
theorem lk47 : compF Go.Proofs.Try.prog mF ⟨[0, 1, 4, 5, 6, 7, 12, 13, 14, 15, 16], [none, none, none, none, none, none, (some ⟨0, [], false, [1, 5, 13, 14, 15], []⟩), none, (some ⟨0, [], false, [5], []⟩), none, none, none, none, none], false, (some [(Sh.sl (Sh.int .u8)), (Sh.sl (Sh.int .u8))]), (some Sh.bool), false⟩ 39 = some k47 := by kernel_rfl
theorem lk48 : compF Go.Proofs.Try.prog mF ⟨[0, 2, 3, 9], [none, (some ⟨0, [], false, [0, 2, 3], []⟩), none, (some ⟨0, [], false, [], []⟩), none, none], true, none, none, false⟩ 49 = some k48 := by kernel_rfl
theorem lk64 : compF Go.Proofs.Try.prog mF ⟨[0, 1, 4, 6, 16], [none, none, none, none, none, none, none, (some ⟨0, [], true, [], [(4, (.ints .u8 []), 1)]⟩)], false, none, none, false⟩ 85 = some k64 := by kernel_rfl
theorem lk75 : compF Go.Proofs.Try.prog mF ⟨[0, 1, 2, 6, 7, 12], [none, none, none, none, none, none], false, (some [(Sh.int .i64), (Sh.int .i64), (Sh.int .i64)]), (some (Sh.tu (Sh.pr (Sh.int .u64) (Sh.int .i64)))), false⟩ 94 = some k75 := by kernel_rfl
theorem lk78 : compF Go.Proofs.Try.prog mF ⟨[0, 1, 4, 5], [none, none, none, none], false, (some [(Sh.int .i64), (Sh.int .i64)]), (some (Sh.int .u32)), false⟩ 82 = some k78 := by kernel_rfl
theorem lk81 : compF Go.Proofs.Try.prog mF ⟨[0, 2, 3, 4, 6, 14, 17, 18, 19, 20, 26], [none, none, none, (some ⟨0, [], false, [0, 3, 4], [(3, (.ints .i64 []), 1)]⟩), none, (some ⟨0, [], false, [3], []⟩), none, (some ⟨1, [], false, [0, 3, 4, 17, 18, 19], []⟩), none, (some ⟨0, [], false, [0, 3, 4], []⟩), none, none, (some ⟨0, [], false, [0, 3, 4], []⟩), none, none, none, none, none], false, (some [(Sh.int .i64)]), (some (Sh.sl (Sh.int .i64))), false⟩ 81 = some k81 := by kernel_rfl
theorem lk83 : compF Go.Proofs.Try.prog mF ⟨[0, 1, 4, 5, 7, 9, 10, 11, 12], [none, none, none, (some ⟨0, [], false, [1, 5, 9, 10, 11], [(5, (.ints .u32 []), 1)]⟩), none, (some ⟨0, [], false, [5], []⟩), none, none, none, none, none], false, (some [(Sh.int .i64), (Sh.int .i64)]), (some (Sh.sl (Sh.int .u32))), false⟩ 67 = some k83 := by kernel_rfl
theorem lk100 : compF Go.Proofs.Try.prog mF ⟨[0, 1, 2, 6], [none, none, none], false, (some [(Sh.int .i64), (Sh.int .i64), (Sh.int .i64)]), (some Sh.bool), false⟩ 102 = some k100 := by kernel_rfl
theorem lk101 : compF Go.Proofs.Try.prog mF ⟨[0, 1, 2, 3, 4], [none, none, none], false, (some [(Sh.int .i64), (Sh.int .i64)]), (some (Sh.int .u64)), false⟩ 103 = some k101 := by kernel_rfl
theorem lk114 : compF Go.Proofs.Try.prog mF ⟨[0, 1, 4, 5, 6, 7, 11, 21], [none, none, (some ⟨0, [], false, [1, 5, 6], []⟩), none, (some ⟨0, [], false, [5], []⟩), none, none, none, none, none, none], false, none, none, false⟩ 105 = some k114 := by kernel_rfl
theorem lk115 : compF Go.Proofs.Try.prog mF ⟨[0, 1, 2, 4], [none, none, none], false, none, none, false⟩ 106 = some k115 := by kernel_rfl
theorem lk116 : compF Go.Proofs.Try.prog mF ⟨[0, 1, 2, 6, 7, 8, 9, 10, 11, 19], [none, none, none, none, none, none, none, none, none], false, (some [(Sh.int .u64), (Sh.int .u64), (Sh.int .i64)]), (some Sh.bool), false⟩ 107 = some k116 := by kernel_rfl
theorem lk120 : compF Go.Proofs.Try.prog mF ⟨[0, 1, 4, 5, 6, 7, 8, 9, 10, 11, 12, 13], [none, none, none, none, none, none, none, none, none, none, none, none, none], false, (some [(Sh.int .u64), (Sh.int .u64)]), (some (Sh.tu (Sh.pr (Sh.int .u64) (Sh.int .u64)))), false⟩ 108 = some k120 := by kernel_rfl
theorem lk177 : compF Go.Proofs.Try.prog mF ⟨[0, 2, 3, 4, 5, 13, 20], [none, none, (some ⟨0, [], false, [0, 3], [(3, (.imm []), 1)]⟩), none, (some ⟨0, [], false, [0, 3], []⟩), none, none, none, (some ⟨1, [], false, [3, 4, 5], []⟩), none, (some ⟨0, [], false, [3], []⟩), none, none, none, none, none], false, (some [(Sh.int .u64)]), (some (Sh.sl (Sh.int .u8))), false⟩ 86 = some k177 := by kernel_rfl
theorem lk186 : compF Go.Proofs.Try.prog mF ⟨[0, 2, 3, 4, 5, 6, 17], [none, none, none, none, none, (some ⟨0, [], false, [3, 4, 5, 6], []⟩), none, (some ⟨0, [], false, [5], []⟩), none, none, none, none], false, (some [(Sh.int .u64)]), (some (Sh.sl (Sh.int .u8))), false⟩ 71 = some k186 := by kernel_rfl
theorem lk195 : compF Go.Proofs.Try.prog mF ⟨[0, 1, 4, 5], [none, none, none, none], false, (some [(Sh.int .u32), (Sh.int .i64)]), (some (Sh.int .u32)), false⟩ 104 = some k195 := by kernel_rfl
theorem lk213 : compF Go.Proofs.Try.prog mF ⟨[0, 2, 3, 4, 5, 6, 7, 20, 30, 31], [none, none, none, none, (some ⟨0, [(3, (Sh.sl (Sh.int .u8)))], false, [2, 3, 4, 5], []⟩), none, (some ⟨0, [], false, [2, 4], []⟩), none, none, none, none, (some ⟨1, [], false, [2, 4, 6, 30], []⟩), none, (some ⟨0, [], false, [2, 6], []⟩), none, none, none, none, none], false, (some [(Sh.sl (Sh.sl (Sh.int .u8)))]), (some (Sh.ar .u8)), false⟩ 50 = some k213 := by kernel_rfl
theorem lk214 : compF Go.Proofs.Try.prog mF ⟨[0, 2, 3, 4, 5, 6, 7, 8, 9, 21, 25, 40], [none, none, none, none, (some ⟨0, [], false, [2, 3, 4, 5], []⟩), none, (some ⟨0, [], false, [2, 4], []⟩), none, none, (some ⟨1, [], false, [2, 3, 4, 5, 6, 7], []⟩), none, (some ⟨0, [], false, [2, 3, 4, 5, 6], []⟩), none, none, none, none, none, none, (some ⟨2, [], false, [2, 4, 8, 9], []⟩), none, (some ⟨0, [], false, [2, 8], []⟩), none, none, none, none], false, (some [(Sh.sl (Sh.int .u8))]), (some (Sh.ar .u8)), false⟩ 33 = some k214 := by kernel_rfl
theorem lk216 : compF Go.Proofs.Try.prog mF ⟨[0, 1, 2, 3, 4, 5, 6, 7, 8, 9, 10, 11, 12, 14, 18, 76, 149], [none, none, none, (some ⟨0, [], false, [2, 3, 4, 5, 6], []⟩), none, (some ⟨0, [], false, [2, 4, 5], []⟩), none, none, none, none, none, none, none, (some ⟨1, [], false, [2, 4, 5, 7, 8, 9], []⟩), none, (some ⟨0, [], false, [2, 4, 8], []⟩), none, none, none, none, none, (some ⟨2, [], false, [2, 4, 8, 12], []⟩), none, (some ⟨0, [], false, [4, 8], []⟩), none, none, none, none], false, (some [(Sh.ar .u32), (Sh.ar .u8)]), (some (Sh.ar .u32)), false⟩ 55 = some k216 := by kernel_rfl
theorem lk217 : compF Go.Proofs.Try.prog mF ⟨[0, 2, 3, 4, 5], [none, none, none, none, none, none], false, (some [(Sh.int .u64)]), (some (Sh.sl (Sh.int .u8))), false⟩ 65 = some k217 := by kernel_rfl
theorem lk218 : compF Go.Proofs.Try.prog mF ⟨[0, 2], [none, none, none], false, (some [(Sh.int .u64)]), (some (Sh.sl (Sh.int .u8))), false⟩ 53 = some k218 := by kernel_rfl
theorem lk219 : compF Go.Proofs.Try.prog mF ⟨[0], [none, none, none], false, (some []), (some (Sh.ar .u32)), false⟩ 66 = some k219 := by kernel_rfl
theorem lk220 : compF Go.Proofs.Try.prog mF ⟨[0], [none, none, none], false, (some []), (some (Sh.ar .u32)), false⟩ 54 = some k220 := by kernel_rfl
theorem lk222 : compF Go.Proofs.Try.prog mF ⟨[0, 1, 4, 5, 6], [none, none, none, none, none], false, (some [(Sh.sl (Sh.int .u8)), (Sh.sl (Sh.int .u8))]), (some (Sh.ar .u8)), false⟩ 14 = some k222 := by kernel_rfl
theorem lk223 : compF Go.Proofs.Try.prog mF ⟨[0, 1, 4, 5], [none, none, none, none], false, (some [(Sh.sl (Sh.int .u8)), (Sh.sl (Sh.sl (Sh.int .u8)))]), (some (Sh.ar .u8)), false⟩ 31 = some k223 := by kernel_rfl
theorem lk224 : compF Go.Proofs.Try.prog mF ⟨[0, 2, 3, 4, 7], [none, none, none, none, none, none, none, none], false, (some [(Sh.sl (Sh.int .u8))]), (some (Sh.ar .u8)), false⟩ 69 = some k224 := by kernel_rfl
theorem lk225 : compF Go.Proofs.Try.prog mF ⟨[0, 2, 3, 4, 5, 8, 15], [none, none, none, none, none, none, (some ⟨0, [(0, (Sh.sl (Sh.int .u8)))], false, [0, 2, 4, 5], []⟩), none, (some ⟨0, [], false, [2, 4], []⟩), none, none, none, none], false, (some [(Sh.sl (Sh.int .u8))]), (some (Sh.ar .u8)), false⟩ 32 = some k225 := by kernel_rfl
theorem lk226 : compF Go.Proofs.Try.prog mF ⟨[0, 1, 2, 6, 7], [none, none, none, none], false, (some [(Sh.sl (Sh.int .u8)), (Sh.sl (Sh.int .u8)), (Sh.sl (Sh.sl (Sh.int .u8)))]), (some Sh.bool), false⟩ 35 = some k226 := by kernel_rfl
theorem lk229 : compF Go.Proofs.Try.prog mF ⟨[0, 1, 2, 3, 4, 6, 7, 8, 9, 10, 13, 14, 15, 27, 28], [none, none, none, (some ⟨0, [], false, [2, 3, 6, 7, 13, 14], []⟩), none, (some ⟨0, [], false, [3, 6, 7], []⟩), none, none, none, none, (some ⟨1, [], false, [3, 6, 7, 27], []⟩), none, (some ⟨0, [], false, [6, 7], []⟩), none, none, none, none, none], false, (some [(Sh.ar .u32), (Sh.ar .u8), (Sh.sl (Sh.int .u32))]), (some (Sh.ar .u32)), false⟩ 68 = some k229 := by kernel_rfl
theorem lk230 : compF Go.Proofs.Try.prog mF ⟨[0, 1, 2, 3, 8], [none, none, none], false, (some [(Sh.int .u32), (Sh.int .i64), (Sh.int .i64), (Sh.int .i64)]), (some (Sh.int .u32)), false⟩ 72 = some k230 := by kernel_rfl
theorem lk231 : compF Go.Proofs.Try.prog mF ⟨[0], [none, none, none], false, (some []), (some (Sh.sl (Sh.int .u32))), false⟩ 73 = some k231 := by kernel_rfl
theorem lk232 : compF Go.Proofs.Try.prog mF ⟨[0, 1, 2, 3, 8], [none, none, none], false, (some [(Sh.int .u32), (Sh.int .i64), (Sh.int .i64), (Sh.int .i64)]), (some (Sh.int .u32)), false⟩ 74 = some k232 := by kernel_rfl
theorem lk233 : compF Go.Proofs.Try.prog mF ⟨[0, 1, 2, 4, 5, 6, 8], [none, none, none, (some ⟨0, [], false, [1, 2, 5, 6], [(5, (.ints .u8 []), 1)]⟩), none, (some ⟨0, [], false, [5], []⟩), none, none, none, none], false, (some [(Sh.ar .u8), (Sh.int .u8)]), none, false⟩ 34 = some k233 := by kernel_rfl
theorem lk234 : compF Go.Proofs.Try.prog mF ⟨[0, 1, 4, 5, 6, 9, 10], [none, none, none, (some ⟨0, [], false, [1, 5, 9], []⟩), none, (some ⟨0, [], false, [5], []⟩), none, none, none, none, none], false, (some [(Sh.sl (Sh.int .u8)), (Sh.int .u8)]), (some (Sh.sl (Sh.int .u8))), false⟩ 51 = some k234 := by kernel_rfl
theorem lk235 : compF Go.Proofs.Try.prog mF ⟨[0, 1, 2, 3, 4, 5, 7, 8, 11], [none, none, none, (some ⟨0, [], false, [1, 2, 3, 7], []⟩), none, (some ⟨0, [], false, [2, 3], []⟩), none, none, none, none, (some ⟨0, [], false, [1, 2, 3, 7], []⟩), none, none, none, none], false, (some [(Sh.ar .u8)]), (some (Sh.ar .u32)), false⟩ 83 = some k235 := by kernel_rfl
theorem lk236 : compF Go.Proofs.Try.prog mF ⟨[0, 1, 2, 4, 5, 6, 7, 8, 9, 10, 11, 12], [none, none, none, none, none, none], false, (some [(Sh.ar .u32), (Sh.int .u32)]), (some (Sh.ar .u32)), false⟩ 84 = some k236 := by kernel_rfl
theorem lk237 : compF Go.Proofs.Try.prog mF ⟨[0, 1, 4], [none, none, none], false, (some [(Sh.int .u32), (Sh.int .i64)]), (some (Sh.int .u32)), false⟩ 87 = some k237 := by kernel_rfl
theorem lk238 : compF Go.Proofs.Try.prog mF ⟨[0, 1, 2, 4], [none, none, none], false, (some [(Sh.ar .i64), (Sh.int .u32)]), (some (Sh.int .u32)), false⟩ 96 = some k238 := by kernel_rfl
theorem lk239 : compF Go.Proofs.Try.prog mF ⟨[0, 1, 2, 4], [none, none, none], false, (some [(Sh.ar .i64), (Sh.int .u32)]), (some (Sh.int .u32)), false⟩ 97 = some k239 := by kernel_rfl
theorem lk284 : compF Go.Proofs.Try.prog mF ⟨[0, 1, 2, 6, 7, 8, 9, 10, 11, 27], [none, none, none, none, none, none, none, none], false, (some [(Sh.sl (Sh.int .u8)), (Sh.sl (Sh.int .u8)), (Sh.int .i64)]), (some Sh.bool), false⟩ 3 = some k284 := by kernel_rfl
theorem lk285 : compF Go.Proofs.Try.prog mF ⟨[0, 1, 2, 3, 6, 7, 8, 16], [none, none, none, none, none, none, none, none], false, (some [(Sh.ar .u8), (Sh.sl (Sh.int .u8)), (Sh.sl (Sh.int .u8))]), (some Sh.bool), false⟩ 4 = some k285 := by kernel_rfl
theorem lk286 : compF Go.Proofs.Try.prog mF ⟨[0, 1, 2, 5, 6, 7, 8, 9, 10, 11, 12, 13, 14, 22], [none, none, none, none, none, none, none, none, none, none], false, (some [(Sh.sl (Sh.int .u8)), (Sh.sl (Sh.int .u8)), (Sh.ar .u16)]), (some Sh.bool), false⟩ 5 = some k286 := by kernel_rfl
theorem lk289 : compF Go.Proofs.Try.prog mF ⟨[0, 1, 2, 3, 4], [none, none, none, none, none, none], false, (some []), (some Sh.bool), false⟩ 8 = some k289 := by kernel_rfl
theorem lk290 : compF Go.Proofs.Try.prog mF ⟨[0, 1, 2, 3, 4, 6, 7, 8, 9, 11, 12, 13, 14, 18, 30, 31, 32], [none, none, none, none, none, none, none, none, none, (some ⟨0, [(11, (Sh.sl (Sh.int .u8)))], false, [2, 11, 12, 13, 30, 31], [(12, (.ints .u8 []), 1)]⟩), none, (some ⟨0, [], false, [2, 11, 12], []⟩), none, none, none, none, none], false, (some [(Sh.sl (Sh.int .u8)), (Sh.sl (Sh.int .u8)), (Sh.int .i64)]), (some (Sh.tu (Sh.pr (Sh.sl (Sh.int .u8)) (Sh.int .i64)))), false⟩ 9 = some k290 := by kernel_rfl
theorem lk291 : compF Go.Proofs.Try.prog mF ⟨[0, 1, 2, 6, 7, 8, 9, 10, 11, 12, 13, 15, 17, 21], [none, none, none, none, none, none, none, none, none, (some ⟨0, [(10, (Sh.sl (Sh.int .u8)))], false, [0, 1, 2, 9, 10, 11], [(9, (.ints .u8 []), 1)]⟩), none, (some ⟨0, [], false, [2, 9, 11], []⟩), none, none, none, none, none, none, none, none], false, (some [(Sh.sl (Sh.int .u8)), (Sh.sl (Sh.int .u8)), (Sh.int .i64)]), (some (Sh.tu (Sh.pr (Sh.sl (Sh.int .u8)) (Sh.pr (Sh.int .i64) (Sh.int .i64))))), false⟩ 10 = some k291 := by kernel_rfl
theorem lk292 : compF Go.Proofs.Try.prog mF ⟨[0, 1, 2, 6, 9], [none, none, none, none, none, none], false, (some [(Sh.sl (Sh.int .u8)), (Sh.sl (Sh.int .u8)), (Sh.int .i64)]), (some (Sh.int .i64)), false⟩ 12 = some k292 := by kernel_rfl
theorem lk293 : compF Go.Proofs.Try.prog mF ⟨[0, 1, 2, 3], [none, none, none, none], false, (some [(Sh.ar .u8)]), (some (Sh.ar .u8)), false⟩ 13 = some k293 := by kernel_rfl
theorem lk294 : compF Go.Proofs.Try.prog mF ⟨[0, 1, 2, 3, 6, 7, 17], [none, none, none, none, (some ⟨0, [], false, [2, 3, 6, 7], []⟩), none, (some ⟨0, [], false, [2, 6], []⟩), none, none, none, none], false, (some [(Sh.ar .u8)]), (some (Sh.ar .u8)), false⟩ 15 = some k294 := by kernel_rfl
theorem lk295 : compF Go.Proofs.Try.prog mF ⟨[0, 1, 2, 4], [none, none, none], false, (some [(Sh.ar .u8), (Sh.sl (Sh.int .u8))]), (some (Sh.ar .u8)), false⟩ 16 = some k295 := by kernel_rfl
theorem lk296 : compF Go.Proofs.Try.prog mF ⟨[0, 1, 2, 3, 6], [none, none, none], false, (some [(Sh.ar .u8), (Sh.sl (Sh.int .u8)), (Sh.sl (Sh.int .u8))]), (some Sh.bool), false⟩ 17 = some k296 := by kernel_rfl
theorem lk307 : compF Go.Proofs.Try.prog mF ⟨[0, 2, 3, 6], [none, none, none, none, none, none, none, none, none], false, (some [(Sh.int .i64)]), (some (Sh.int .i64)), false⟩ 28 = some k307 := by kernel_rfl
theorem lk308 : compF Go.Proofs.Try.prog mF ⟨[0, 1, 2, 3, 4, 5, 7], [none, none, none], false, none, none, false⟩ 30 = some k308 := by kernel_rfl
theorem mF_mem {f g : Nat} (h : mF f = some g) : (f, g) ∈ mT := by
  simp only [mF, Option.map_eq_some_iff] at h
  obtain ⟨p, h1, h2⟩ := h
  have h3 := List.mem_of_find?_eq_some h1
  have h4 := List.find?_some h1
  have h5 : p.1 = f := by simpa using h4
  rw [← h5, ← h2]; exact h3
theorem link : Link Go.Proofs.Try.prog mF FT := by
  intro f g fn hm hF
  have h := mF_mem hm
  simp only [mT, List.mem_cons, Prod.mk.injEq, List.not_mem_nil, or_false] at h
  rcases h with ⟨rfl, rfl⟩ | ⟨rfl, rfl⟩ | ⟨rfl, rfl⟩ | ⟨rfl, rfl⟩ | ⟨rfl, rfl⟩ | ⟨rfl, rfl⟩ | ⟨rfl, rfl⟩ | ⟨rfl, rfl⟩ | ⟨rfl, rfl⟩ | ⟨rfl, rfl⟩ | ⟨rfl, rfl⟩ | ⟨rfl, rfl⟩ | ⟨rfl, rfl⟩ | ⟨rfl, rfl⟩ | ⟨rfl, rfl⟩ | ⟨rfl, rfl⟩ | ⟨rfl, rfl⟩ | ⟨rfl, rfl⟩ | ⟨rfl, rfl⟩ | ⟨rfl, rfl⟩ | ⟨rfl, rfl⟩ | ⟨rfl, rfl⟩ | ⟨rfl, rfl⟩ | ⟨rfl, rfl⟩ | ⟨rfl, rfl⟩ | ⟨rfl, rfl⟩ | ⟨rfl, rfl⟩ | ⟨rfl, rfl⟩ | ⟨rfl, rfl⟩ | ⟨rfl, rfl⟩ | ⟨rfl, rfl⟩ | ⟨rfl, rfl⟩ | ⟨rfl, rfl⟩ | ⟨rfl, rfl⟩ | ⟨rfl, rfl⟩ | ⟨rfl, rfl⟩ | ⟨rfl, rfl⟩ | ⟨rfl, rfl⟩ | ⟨rfl, rfl⟩ | ⟨rfl, rfl⟩ | ⟨rfl, rfl⟩ | ⟨rfl, rfl⟩ | ⟨rfl, rfl⟩ | ⟨rfl, rfl⟩ | ⟨rfl, rfl⟩ | ⟨rfl, rfl⟩ | ⟨rfl, rfl⟩ | ⟨rfl, rfl⟩ | ⟨rfl, rfl⟩ | ⟨rfl, rfl⟩ | ⟨rfl, rfl⟩ | ⟨rfl, rfl⟩ | ⟨rfl, rfl⟩ | ⟨rfl, rfl⟩ | ⟨rfl, rfl⟩ | ⟨rfl, rfl⟩ | ⟨rfl, rfl⟩
  · injection hF with hF; subst hF; exact compF_ok lk1
  · injection hF with hF; subst hF; exact compF_ok lk19
  · injection hF with hF; subst hF; exact compF_ok lk21
  · injection hF with hF; subst hF; exact compF_ok lk23
  · injection hF with hF; subst hF; exact compF_ok lk46
  · injection hF with hF; subst hF; exact compF_ok lk47
  · injection hF with hF; subst hF; exact compF_ok lk48
  · injection hF with hF; subst hF; exact compF_ok lk64
  · injection hF with hF; subst hF; exact compF_ok lk75
  · injection hF with hF; subst hF; exact compF_ok lk78
  · injection hF with hF; subst hF; exact compF_ok lk81
  · injection hF with hF; subst hF; exact compF_ok lk83
  · injection hF with hF; subst hF; exact compF_ok lk100
  · injection hF with hF; subst hF; exact compF_ok lk101
  · injection hF with hF; subst hF; exact compF_ok lk114
  · injection hF with hF; subst hF; exact compF_ok lk115
  · injection hF with hF; subst hF; exact compF_ok lk116
  · injection hF with hF; subst hF; exact compF_ok lk120
  · injection hF with hF; subst hF; exact compF_ok lk177
  · injection hF with hF; subst hF; exact compF_ok lk186
  · injection hF with hF; subst hF; exact compF_ok lk195
  · injection hF with hF; subst hF; exact compF_ok lk213
  · injection hF with hF; subst hF; exact compF_ok lk214
  · injection hF with hF; subst hF; exact compF_ok lk216
  · injection hF with hF; subst hF; exact compF_ok lk217
  · injection hF with hF; subst hF; exact compF_ok lk218
  · injection hF with hF; subst hF; exact compF_ok lk219
  · injection hF with hF; subst hF; exact compF_ok lk220
  · injection hF with hF; subst hF; exact compF_ok lk222
  · injection hF with hF; subst hF; exact compF_ok lk223
  · injection hF with hF; subst hF; exact compF_ok lk224
  · injection hF with hF; subst hF; exact compF_ok lk225
  · injection hF with hF; subst hF; exact compF_ok lk226
  · injection hF with hF; subst hF; exact compF_ok lk229
  · injection hF with hF; subst hF; exact compF_ok lk230
  · injection hF with hF; subst hF; exact compF_ok lk231
  · injection hF with hF; subst hF; exact compF_ok lk232
  · injection hF with hF; subst hF; exact compF_ok lk233
  · injection hF with hF; subst hF; exact compF_ok lk234
  · injection hF with hF; subst hF; exact compF_ok lk235
  · injection hF with hF; subst hF; exact compF_ok lk236
  · injection hF with hF; subst hF; exact compF_ok lk237
  · injection hF with hF; subst hF; exact compF_ok lk238
  · injection hF with hF; subst hF; exact compF_ok lk239
  · injection hF with hF; subst hF; exact compF_ok lk284
  · injection hF with hF; subst hF; exact compF_ok lk285
  · injection hF with hF; subst hF; exact compF_ok lk286
  · injection hF with hF; subst hF; exact compF_ok lk289
  · injection hF with hF; subst hF; exact compF_ok lk290
  · injection hF with hF; subst hF; exact compF_ok lk291
  · injection hF with hF; subst hF; exact compF_ok lk292
  · injection hF with hF; subst hF; exact compF_ok lk293
  · injection hF with hF; subst hF; exact compF_ok lk294
  · injection hF with hF; subst hF; exact compF_ok lk295
  · injection hF with hF; subst hF; exact compF_ok lk296
  · injection hF with hF; subst hF; exact compF_ok lk307
  · injection hF with hF; subst hF; exact compF_ok lk308
theorem xok : XOK Go.Proofs.Try.prog mF where
  c61 := fun f h => by
    have h := mF_mem h
    simp only [mT, List.mem_cons, Prod.mk.injEq, List.not_mem_nil, or_false] at h
    omega
  c108 := fun f h => by
    have h := mF_mem h
    simp only [mT, List.mem_cons, Prod.mk.injEq, List.not_mem_nil, or_false] at h
    omega
  c320 := fun f h => by
    have h := mF_mem h
    simp only [mT, List.mem_cons, Prod.mk.injEq, List.not_mem_nil, or_false] at h
    omega
  c66 := fun f h => by
    have h := mF_mem h
    simp only [mT, List.mem_cons, Prod.mk.injEq, List.not_mem_nil, or_false] at h
    omega
end Go.Proofs.YtciafmcbccgggaaE
