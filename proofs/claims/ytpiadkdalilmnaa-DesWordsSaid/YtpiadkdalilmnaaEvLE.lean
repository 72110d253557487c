/- The evaluator's functions are the program's. -/
import Derived.Test.YtpiadkdalilmnaaEvFE
import Derived.Test.YtpiadkdalilmnaaChecked
import Derived.KernelRfl
namespace Go.Proofs.YtpiadkdalilmnaaE
open Go
set_option linter.unusedVariables false
set_option linter.unusedSimpArgs false
def mT : List (Nat × Nat) := [(51, 2), (39, 19), (38, 21), (17, 23), (37, 24), (59, 25), (50, 27), (29, 29), (26, 31), (68, 33), (40, 36), (61, 39), (60, 48), (41, 50), (42, 51), (70, 52), (48, 53), (67, 54), (25, 56), (33, 57), (49, 58), (22, 63), (46, 65), (66, 66), (3, 240), (4, 241), (5, 242), (6, 243), (7, 244), (8, 245), (9, 246), (10, 247), (11, 248), (12, 249), (13, 250), (14, 251), (15, 252), (16, 253), (18, 254), (19, 255), (20, 256), (21, 257), (23, 258), (24, 259), (27, 260), (28, 261), (30, 262), (31, 263), (32, 264), (34, 265), (35, 266), (36, 267), (43, 268), (44, 269), (45, 270), (47, 271), (52, 272), (53, 273), (54, 274), (55, 275), (56, 276), (57, 277), (58, 278), (62, 279), (63, 280), (64, 281), (65, 282), (69, 283)]
def mF : Nat → Option Nat := fun f => (mT.find? (·.1 == f)).map (·.2)
theorem lk2 : compF Go.Proofs.Try.prog mF ⟨[0, 2, 3, 5, 6, 8, 9, 10, 11, 12, 20, 25, 26, 27, 28], [none, none, none, (some ⟨0, [], false, [0, 3, 9, 10, 11], []⟩), none, (some ⟨0, [], false, [0, 3], []⟩), none, none, none, none, none, none, none, (some ⟨1, [], false, [6, 25, 26, 27], []⟩), none, (some ⟨0, [], false, [6], []⟩), none, none, none, none, none], false, (some [(Sh.sl (Sh.sl (Sh.int .i64)))]), none⟩ 51 = some k2 := by kernel_rfl
theorem lk19 : compF Go.Proofs.Try.prog mF ⟨[0, 1, 2, 6, 7, 8, 9, 15, 19, 20, 21, 33], [none, none, none, none, none, none, (some ⟨0, [], false, [0, 2, 8, 19, 20], []⟩), none, (some ⟨0, [], false, [2, 8], []⟩), none, none, none, none, none, none, none], false, (some [(Sh.int .u64), (Sh.int .i64), Sh.bool]), (some (Sh.tu (Sh.pr (Sh.sl (Sh.int .u8)) (Sh.int .i64))))⟩ 39 = some k19 := by kernel_rfl
theorem lk21 : compF Go.Proofs.Try.prog mF ⟨[0, 1, 4, 5, 6, 7, 8, 16, 17, 18, 19, 20, 24], [none, none, none, none, none, none, (some ⟨0, [], false, [1, 6, 17, 18, 19], []⟩), none, (some ⟨0, [], false, [6], []⟩), none, none, none, none, none, none, none], false, (some [(Sh.sl (Sh.int .u8)), Sh.bool]), (some (Sh.tu (Sh.pr (Sh.int .u64) (Sh.int .i64))))⟩ 38 = some k21 := by kernel_rfl
theorem lk23 : compF Go.Proofs.Try.prog mF ⟨[0, 1, 4, 5, 10, 14, 25], [none, none, none, none, none, (some ⟨0, [], false, [0, 1, 5], []⟩), none, (some ⟨0, [], false, [], []⟩), none, none, none, none, none, none], false, (some [(Sh.sl (Sh.int .u8)), (Sh.sl (Sh.int .u8))]), (some Sh.bool)⟩ 17 = some k23 := by kernel_rfl
theorem lk24 : compF Go.Proofs.Try.prog mF ⟨[0, 2, 3, 4, 6, 7, 8, 11, 12, 13, 14, 15, 26, 27, 28], [none, none, none, none, none, none, (some ⟨0, [], false, [4, 12, 13, 14], []⟩), none, (some ⟨0, [], false, [4], []⟩), none, none, none, none, none, (some ⟨1, [], false, [4, 7, 26, 27], []⟩), none, (some ⟨0, [], false, [7], []⟩), none, none, none, none, none], false, (some [(Sh.sl (Sh.int .u8))]), (some (Sh.tu (Sh.pr (Sh.sl (Sh.int .u8)) (Sh.int .i64))))⟩ 37 = some k24 := by kernel_rfl
theorem lk25 : compF Go.Proofs.Try.prog mF ⟨[0, 2], [none, none, none], false, (some [(Sh.int .u8)]), (some (Sh.int .u8))⟩ 59 = some k25 := by kernel_rfl
theorem lk27 : compF Go.Proofs.Try.prog mF ⟨[0, 1, 2, 3, 4, 6, 7, 8, 9, 10, 12, 20, 22, 23, 24, 25, 32], [none, none, none, none, none, none, none, (some ⟨0, [], false, [8, 9, 10, 22, 23, 24], []⟩), none, (some ⟨0, [], false, [8, 9], []⟩), none, none, none, none, none, none, none, none], false, (some [(Sh.int .u64), (Sh.int .i64), (Sh.sl (Sh.int .i64))]), (some (Sh.tu (Sh.pr (Sh.int .u64) (Sh.int .i64))))⟩ 50 = some k27 := by kernel_rfl
theorem lk29 : compF Go.Proofs.Try.prog mF ⟨[0, 1, 2, 6, 7, 10, 15], [none, none, none, none, none, none, none, none, none, none], false, (some [(Sh.int .u64), (Sh.int .i64), (Sh.int .i64)]), (some (Sh.tu (Sh.pr (Sh.int .u64) (Sh.int .i64))))⟩ 29 = some k29 := by kernel_rfl
theorem lk31 : compF Go.Proofs.Try.prog mF ⟨[0, 1, 2, 6, 7, 8, 9, 21], [none, none, none, none, none, none, none, none], false, (some [(Sh.int .u64), (Sh.int .i64), (Sh.int .i64)]), (some (Sh.tu (Sh.pr (Sh.int .u64) (Sh.pr (Sh.int .u64) (Sh.int .i64)))))⟩ 26 = some k31 := by kernel_rfl
theorem lk33 : compF Go.Proofs.Try.prog mF ⟨[0, 1, 2, 6, 18], [none, none, none, none, none, none], false, (some [(Sh.int .u64), (Sh.int .i64), (Sh.int .i64)]), (some (Sh.int .u64))⟩ 68 = some k33 := by kernel_rfl
theorem lk36 : compF Go.Proofs.Try.prog mF ⟨[0, 2, 3, 4, 5, 6, 7, 10, 12, 24], [none, none, none, none, none, none, (some ⟨0, [], false, [0, 4, 5, 6], [(4, (.ints .u8 []), 1)]⟩), none, (some ⟨0, [], false, [4, 5], []⟩), none, none, none, (some ⟨1, [], false, [4, 5, 7], [(5, (.ints .u8 []), 1)]⟩), none, (some ⟨0, [], false, [5], []⟩), none, none, none, none], false, (some [(Sh.sl (Sh.int .u8))]), (some (Sh.tu (Sh.pr (Sh.sl (Sh.int .u8)) (Sh.int .i64))))⟩ 40 = some k36 := by kernel_rfl
theorem lk39 : compF Go.Proofs.Try.prog mF ⟨[0, 2, 3, 4, 6], [none, none, none, (some ⟨0, [], false, [0, 3, 4], []⟩), none, (some ⟨0, [], false, [0, 3], []⟩), none, none, none, none], false, (some [(Sh.int .u8)]), (some (Sh.int .u8))⟩ 61 = some k39 := by kernel_rfl
theorem lk48 : compF Go.Proofs.Try.prog mF ⟨[0, 2, 3, 9], [none, (some ⟨0, [], false, [0, 2, 3], []⟩), none, (some ⟨0, [], false, [], []⟩), none, none], true, none, none⟩ 60 = some k48 := by kernel_rfl
theorem lk50 : compF Go.Proofs.Try.prog mF ⟨[0, 1, 4, 5, 6, 12], [none, none, none, (some ⟨0, [], false, [0, 5, 6], []⟩), none, (some ⟨0, [], false, [5], []⟩), none, none, none, none, none], false, (some [(Sh.int .u64), (Sh.int .i64)]), (some (Sh.sl (Sh.int .u8)))⟩ 41 = some k50 := by kernel_rfl
theorem lk51 : compF Go.Proofs.Try.prog mF ⟨[0, 2, 3, 4, 8], [none, none, none, (some ⟨0, [], false, [0, 3, 4], []⟩), none, (some ⟨0, [], false, [3], []⟩), none, none, none, none], false, (some [(Sh.sl (Sh.int .u8))]), (some (Sh.int .u64))⟩ 42 = some k51 := by kernel_rfl
theorem lk52 : compF Go.Proofs.Try.prog mF ⟨[0, 2], [none, none, none], false, (some [(Sh.int .u8)]), (some (Sh.int .i64))⟩ 70 = some k52 := by kernel_rfl
theorem lk53 : compF Go.Proofs.Try.prog mF ⟨[0, 2], [none, none, none], false, (some [(Sh.int .i64)]), (some Sh.bool)⟩ 48 = some k53 := by kernel_rfl
theorem lk54 : compF Go.Proofs.Try.prog mF ⟨[0, 1, 2, 3, 4], [none, none], false, none, none⟩ 67 = some k54 := by kernel_rfl
theorem lk56 : compF Go.Proofs.Try.prog mF ⟨[0, 1, 4, 5, 6, 12], [none, none, none, (some ⟨0, [], false, [0, 5, 6], []⟩), none, (some ⟨0, [], false, [5], []⟩), none, none, none, none, none], false, (some [(Sh.int .u64), (Sh.int .i64)]), (some (Sh.sl (Sh.int .u8)))⟩ 25 = some k56 := by kernel_rfl
theorem lk57 : compF Go.Proofs.Try.prog mF ⟨[0, 2, 3, 4, 8], [none, none, none, (some ⟨0, [], false, [0, 3, 4], []⟩), none, (some ⟨0, [], false, [3], []⟩), none, none, none, none], false, (some [(Sh.sl (Sh.int .u8))]), (some (Sh.int .u64))⟩ 33 = some k57 := by kernel_rfl
theorem lk58 : compF Go.Proofs.Try.prog mF ⟨[0, 2], [none, none, none], false, (some [(Sh.int .i64)]), (some (Sh.int .u64))⟩ 49 = some k58 := by kernel_rfl
theorem lk63 : compF Go.Proofs.Try.prog mF ⟨[0, 1, 4], [none, none, none], false, (some [Sh.str, (Sh.int .u8)]), (some (Sh.int .i64))⟩ 22 = some k63 := by kernel_rfl
theorem lk65 : compF Go.Proofs.Try.prog mF ⟨[0, 1, 4], [none, none, none], false, (some [Sh.str, (Sh.int .u8)]), (some (Sh.int .i64))⟩ 46 = some k65 := by kernel_rfl
theorem lk240 : compF Go.Proofs.Try.prog mF ⟨[0, 1, 2, 6], [none, none, none], false, (some [(Sh.int .i64), (Sh.int .u64), (Sh.int .u32)]), (some Sh.bool)⟩ 3 = some k240 := by kernel_rfl
theorem lk241 : compF Go.Proofs.Try.prog mF ⟨[0, 1, 4, 5, 6, 7, 8, 16], [none, none, none, none, none, none, none, none], false, (some [(Sh.sl (Sh.int .u8)), (Sh.sl (Sh.int .u8))]), (some Sh.bool)⟩ 4 = some k241 := by kernel_rfl
theorem lk242 : compF Go.Proofs.Try.prog mF ⟨[0, 1, 4], [none, none, none], false, (some [(Sh.int .u64), (Sh.int .u64)]), (some Sh.bool)⟩ 5 = some k242 := by kernel_rfl
theorem lk243 : compF Go.Proofs.Try.prog mF ⟨[0, 1, 2, 6, 7], [none, none, none, none], false, (some [(Sh.int .u64), (Sh.int .u64), (Sh.int .u64)]), (some Sh.bool)⟩ 6 = some k243 := by kernel_rfl
theorem lk244 : compF Go.Proofs.Try.prog mF ⟨[0, 1, 4], [none, none, none], false, (some [(Sh.int .u64), (Sh.int .u64)]), (some Sh.bool)⟩ 7 = some k244 := by kernel_rfl
theorem lk245 : compF Go.Proofs.Try.prog mF ⟨[0, 1, 4, 5, 6, 12], [none, none, none, none, none, none, none, none], false, (some [(Sh.int .i64), (Sh.int .u64)]), (some (Sh.int .u64))⟩ 8 = some k245 := by kernel_rfl
theorem lk246 : compF Go.Proofs.Try.prog mF ⟨[0, 1, 4], [none, none, none], false, (some [(Sh.int .i64), (Sh.int .u64)]), (some (Sh.int .u64))⟩ 9 = some k246 := by kernel_rfl
theorem lk247 : compF Go.Proofs.Try.prog mF ⟨[0, 2, 3, 4, 5, 7, 16, 17], [none, none, none, none, (some ⟨0, [], false, [2, 3, 4, 5, 16], []⟩), none, (some ⟨0, [], false, [2, 3], []⟩), none, none, none, none, none, none, none], false, (some [(Sh.int .u64)]), (some (Sh.ar .u64))⟩ 10 = some k247 := by kernel_rfl
theorem lk248 : compF Go.Proofs.Try.prog mF ⟨[0, 2, 3, 4, 5, 9], [none, none, none, none, (some ⟨0, [], false, [2, 3, 4, 5], []⟩), none, (some ⟨0, [], false, [2, 3], []⟩), none, none, none, none], false, (some [(Sh.int .u64)]), (some (Sh.ar .u64))⟩ 11 = some k248 := by kernel_rfl
theorem lk249 : compF Go.Proofs.Try.prog mF ⟨[0, 1, 4, 5, 6, 7, 14, 15], [none, none, none, none, (some ⟨0, [], false, [5, 6, 14], []⟩), none, (some ⟨0, [], false, [6], []⟩), none, none, none, none, none], false, (some [(Sh.int .u32), (Sh.int .u64)]), (some (Sh.int .u32))⟩ 12 = some k249 := by kernel_rfl
theorem lk250 : compF Go.Proofs.Try.prog mF ⟨[0, 1, 4], [none, none, none], false, (some [(Sh.int .u32), (Sh.int .u64)]), (some (Sh.int .u32))⟩ 13 = some k250 := by kernel_rfl
theorem lk251 : compF Go.Proofs.Try.prog mF ⟨[0, 1, 2], [none, none, none, none], false, (some []), (some Sh.bool)⟩ 14 = some k251 := by kernel_rfl
theorem lk252 : compF Go.Proofs.Try.prog mF ⟨[0, 1, 4, 5, 6, 7, 8, 10, 19, 26], [none, none, none, none, none, none, none, none, none, none, none, none], false, (some [(Sh.sl (Sh.int .u8)), (Sh.sl (Sh.int .u8))]), (some (Sh.tu (Sh.pr (Sh.sl (Sh.int .u8)) (Sh.int .i64))))⟩ 15 = some k252 := by kernel_rfl
theorem lk253 : compF Go.Proofs.Try.prog mF ⟨[0, 1, 4, 5, 6, 15], [none, none, none, none, none, none, none], false, (some [(Sh.sl (Sh.int .u8)), (Sh.sl (Sh.int .u8))]), (some (Sh.tu (Sh.pr (Sh.sl (Sh.int .u8)) (Sh.int .i64))))⟩ 16 = some k253 := by kernel_rfl
theorem lk254 : compF Go.Proofs.Try.prog mF ⟨[0, 1, 4, 5], [none, none, none, none], false, (some [(Sh.int .u64), (Sh.int .u64)]), (some (Sh.int .u64))⟩ 18 = some k254 := by kernel_rfl
theorem lk255 : compF Go.Proofs.Try.prog mF ⟨[0, 1, 4], [none, none, none], false, (some [(Sh.int .u64), (Sh.int .u64)]), (some (Sh.int .u64))⟩ 19 = some k255 := by kernel_rfl
theorem lk256 : compF Go.Proofs.Try.prog mF ⟨[0, 1, 4, 5], [none, none, none, none, none], false, (some [(Sh.int .u64), (Sh.int .u64)]), (some (Sh.int .u64))⟩ 20 = some k256 := by kernel_rfl
theorem lk257 : compF Go.Proofs.Try.prog mF ⟨[0, 1, 4, 5, 6, 7, 14], [none, none, none, none, (some ⟨0, [], false, [1, 5, 6, 7], [(6, (.imm []), 1)]⟩), none, (some ⟨0, [], false, [1, 6], []⟩), none, none, none, none], false, (some [(Sh.int .u64), (Sh.int .u64)]), (some (Sh.int .u64))⟩ 21 = some k257 := by kernel_rfl
theorem lk258 : compF Go.Proofs.Try.prog mF ⟨[0], [none, none, none], false, (some []), (some (Sh.st (Sh.pr Sh.str (Sh.pr Sh.str (Sh.pr Sh.str (Sh.pr Sh.str (Sh.pr Sh.str (Sh.pr Sh.str (Sh.pr Sh.str Sh.str)))))))))⟩ 23 = some k258 := by kernel_rfl
theorem lk259 : compF Go.Proofs.Try.prog mF ⟨[0, 1, 4, 5, 6], [none, none, none, none], false, (some [(Sh.int .i64), (Sh.sl (Sh.int .u8))]), (some (Sh.int .i64))⟩ 24 = some k259 := by kernel_rfl
theorem lk260 : compF Go.Proofs.Try.prog mF ⟨[0, 1, 2, 6, 7], [none, none, none, none], false, (some [(Sh.int .u64), (Sh.int .i64), (Sh.sl (Sh.int .i64))]), (some (Sh.int .u64))⟩ 27 = some k260 := by kernel_rfl
theorem lk261 : compF Go.Proofs.Try.prog mF ⟨[0], [none, none, none], false, (some []), (some (Sh.sl (Sh.int .i64)))⟩ 28 = some k261 := by kernel_rfl
theorem lk262 : compF Go.Proofs.Try.prog mF ⟨[0, 2, 3, 4], [none, none, none, none, none, none, none, none, none, none], false, (some [(Sh.int .i64)]), (some (Sh.int .i64))⟩ 30 = some k262 := by kernel_rfl
theorem lk263 : compF Go.Proofs.Try.prog mF ⟨[0], [none, none, none], false, (some []), (some (Sh.sl (Sh.int .i64)))⟩ 31 = some k263 := by kernel_rfl
theorem lk264 : compF Go.Proofs.Try.prog mF ⟨[0, 2, 3, 4, 5, 6, 7, 8, 18, 34], [none, none, none, none, none, (some ⟨0, [(4, (Sh.sl (Sh.int .u8))), (5, (Sh.sl (Sh.int .u8)))], false, [4, 5, 6, 7], [(6, (.imm []), 1)]⟩), none, (some ⟨0, [], false, [6], []⟩), none, none, none, none, none, none, none, none, none], false, (some [(Sh.int .u64)]), (some (Sh.sl (Sh.sl (Sh.int .u8))))⟩ 32 = some k264 := by kernel_rfl
theorem lk265 : compF Go.Proofs.Try.prog mF ⟨[0, 1, 2, 3, 4, 5, 7, 8], [none, none, none, (some ⟨0, [], false, [1, 4], [(1, (.ints .i64 []), 1)]⟩), none, (some ⟨0, [], false, [1], []⟩), none, none, (some ⟨1, [], false, [1, 2, 4, 7], [(1, (.ints .i64 []), 1)]⟩), none, (some ⟨0, [], false, [1, 4], []⟩), none, none, none, none, none, none], false, (some []), (some (Sh.sl (Sh.int .i64)))⟩ 34 = some k265 := by kernel_rfl
theorem lk266 : compF Go.Proofs.Try.prog mF ⟨[0], [none, none, none], false, (some []), (some (Sh.sl (Sh.int .i64)))⟩ 35 = some k266 := by kernel_rfl
theorem lk267 : compF Go.Proofs.Try.prog mF ⟨[0, 1, 4, 5, 6, 7, 14], [none, none, none, none, (some ⟨0, [], false, [5, 6, 7], [(6, (.ints .u8 []), 1)]⟩), none, (some ⟨0, [], false, [6], []⟩), none, none, none, none], false, (some [(Sh.sl (Sh.int .u8)), (Sh.sl (Sh.int .u8))]), (some (Sh.sl (Sh.int .u8)))⟩ 36 = some k267 := by kernel_rfl
theorem lk268 : compF Go.Proofs.Try.prog mF ⟨[0, 1, 4, 5, 6, 7, 9, 18, 19, 20, 21], [none, none, none, none, (some ⟨0, [], false, [6, 7, 18, 19, 20], []⟩), none, (some ⟨0, [], false, [6, 7], []⟩), none, none, none, none, none], false, (some [(Sh.int .u64), (Sh.sl (Sh.int .u64))]), (some (Sh.int .u64))⟩ 43 = some k268 := by kernel_rfl
theorem lk269 : compF Go.Proofs.Try.prog mF ⟨[0, 1, 4, 5, 6, 7, 8, 20], [none, none, none, none, (some ⟨0, [], false, [1, 6, 7, 8], []⟩), none, (some ⟨0, [], false, [6, 7], []⟩), none, none, none, none], false, (some [(Sh.int .u64), (Sh.sl (Sh.sl (Sh.int .u8)))]), (some (Sh.int .u64))⟩ 44 = some k269 := by kernel_rfl
theorem lk270 : compF Go.Proofs.Try.prog mF ⟨[0, 2, 3, 9], [none, (some ⟨0, [], false, [0, 2, 3], []⟩), none, (some ⟨0, [], false, [], []⟩), none, none], true, none, none⟩ 45 = some k270 := by kernel_rfl
theorem lk271 : compF Go.Proofs.Try.prog mF ⟨[0, 2, 3, 4, 7, 10, 13, 16, 19, 22, 25], [none, none, none, none, none, none, none, none, none, none, none, none, none, none, none, none, none, none, none, none, none, none, none, none, none, none, none, none], false, (some [(Sh.int .i64)]), (some (Sh.sl (Sh.int .i64)))⟩ 47 = some k271 := by kernel_rfl
theorem lk272 : compF Go.Proofs.Try.prog mF ⟨[0, 1, 4, 5, 6, 10], [none, none, none, (some ⟨0, [], false, [1, 5, 6], [(5, (.ints .i64 []), 1)]⟩), none, (some ⟨0, [], false, [5], []⟩), none, none, none, none], false, (some [(Sh.int .i64), (Sh.int .i64)]), (some (Sh.sl (Sh.int .i64)))⟩ 52 = some k272 := by kernel_rfl
theorem lk273 : compF Go.Proofs.Try.prog mF ⟨[0, 1, 4, 5, 6, 10], [none, none, none, (some ⟨0, [], false, [0, 1, 5, 6], [(5, (.ints .u8 []), 1)]⟩), none, (some ⟨0, [], false, [5], []⟩), none, none, none, none], false, (some [(Sh.sl (Sh.int .u8)), (Sh.sl (Sh.int .i64))]), (some (Sh.sl (Sh.int .u8)))⟩ 53 = some k273 := by kernel_rfl
theorem lk274 : compF Go.Proofs.Try.prog mF ⟨[0], [none, none, none], false, (some []), (some (Sh.sl (Sh.int .i64)))⟩ 54 = some k274 := by kernel_rfl
theorem lk275 : compF Go.Proofs.Try.prog mF ⟨[0], [none, none, none], false, (some []), (some (Sh.sl (Sh.int .i64)))⟩ 55 = some k275 := by kernel_rfl
theorem lk276 : compF Go.Proofs.Try.prog mF ⟨[0, 1, 4, 5, 6, 13], [none, none, none, (some ⟨0, [], false, [0, 1, 5, 6], []⟩), none, (some ⟨0, [], false, [5], []⟩), none, none, none, none], false, (some [(Sh.sl (Sh.int .u8)), (Sh.sl (Sh.int .u8))]), (some (Sh.sl (Sh.int .u8)))⟩ 56 = some k276 := by kernel_rfl
theorem lk277 : compF Go.Proofs.Try.prog mF ⟨[0], [none, none, none], false, (some []), (some (Sh.sl (Sh.int .i64)))⟩ 57 = some k277 := by kernel_rfl
theorem lk278 : compF Go.Proofs.Try.prog mF ⟨[0], [none, none, none], false, (some []), (some (Sh.sl (Sh.int .i64)))⟩ 58 = some k278 := by kernel_rfl
theorem lk279 : compF Go.Proofs.Try.prog mF ⟨[0, 1, 3, 4, 5, 6], [none, none, none, (some ⟨0, [], false, [1, 4, 5], [(1, (.ints .i64 []), 1)]⟩), none, (some ⟨0, [], false, [1], []⟩), none, none, none, none, none], false, (some []), (some (Sh.sl (Sh.int .i64)))⟩ 62 = some k279 := by kernel_rfl
theorem lk280 : compF Go.Proofs.Try.prog mF ⟨[0, 1, 2, 3, 5, 6, 7, 8], [none, none, none, (some ⟨0, [], false, [1, 5, 6, 7], []⟩), none, (some ⟨0, [], false, [1], []⟩), none, none, none, none, none], false, (some []), (some (Sh.sl (Sh.int .i64)))⟩ 63 = some k280 := by kernel_rfl
theorem lk281 : compF Go.Proofs.Try.prog mF ⟨[0], [none, none, none], false, (some []), (some (Sh.sl (Sh.int .i64)))⟩ 64 = some k281 := by kernel_rfl
theorem lk282 : compF Go.Proofs.Try.prog mF ⟨[0], [none, none, none], false, (some []), (some (Sh.sl (Sh.int .i64)))⟩ 65 = some k282 := by kernel_rfl
theorem lk283 : compF Go.Proofs.Try.prog mF ⟨[0, 1, 4, 6, 16], [none, none, none, none, none, none, none, (some ⟨0, [], true, [], [(4, (.ints .i64 []), 1)]⟩)], false, none, none⟩ 69 = some k283 := by kernel_rfl
theorem mF_mem {f g : Nat} (h : mF f = some g) : (f, g) ∈ mT := by
  simp only [mF, Option.map_eq_some_iff] at h
  obtain ⟨p, h1, h2⟩ := h
  have h3 := List.mem_of_find?_eq_some h1
  have h4 := List.find?_some h1
  have h5 : p.1 = f := by simpa using h4
  rw [← h5, ← h2]; exact h3
theorem link : Link Go.Proofs.Try.prog mF FT := by
  intro f g fn hm hF
  have h := mF_mem hm
  simp only [mT, List.mem_cons, Prod.mk.injEq, List.not_mem_nil, or_false] at h
  rcases h with ⟨rfl, rfl⟩ | ⟨rfl, rfl⟩ | ⟨rfl, rfl⟩ | ⟨rfl, rfl⟩ | ⟨rfl, rfl⟩ | ⟨rfl, rfl⟩ | ⟨rfl, rfl⟩ | ⟨rfl, rfl⟩ | ⟨rfl, rfl⟩ | ⟨rfl, rfl⟩ | ⟨rfl, rfl⟩ | ⟨rfl, rfl⟩ | ⟨rfl, rfl⟩ | ⟨rfl, rfl⟩ | ⟨rfl, rfl⟩ | ⟨rfl, rfl⟩ | ⟨rfl, rfl⟩ | ⟨rfl, rfl⟩ | ⟨rfl, rfl⟩ | ⟨rfl, rfl⟩ | ⟨rfl, rfl⟩ | ⟨rfl, rfl⟩ | ⟨rfl, rfl⟩ | ⟨rfl, rfl⟩ | ⟨rfl, rfl⟩ | ⟨rfl, rfl⟩ | ⟨rfl, rfl⟩ | ⟨rfl, rfl⟩ | ⟨rfl, rfl⟩ | ⟨rfl, rfl⟩ | ⟨rfl, rfl⟩ | ⟨rfl, rfl⟩ | ⟨rfl, rfl⟩ | ⟨rfl, rfl⟩ | ⟨rfl, rfl⟩ | ⟨rfl, rfl⟩ | ⟨rfl, rfl⟩ | ⟨rfl, rfl⟩ | ⟨rfl, rfl⟩ | ⟨rfl, rfl⟩ | ⟨rfl, rfl⟩ | ⟨rfl, rfl⟩ | ⟨rfl, rfl⟩ | ⟨rfl, rfl⟩ | ⟨rfl, rfl⟩ | ⟨rfl, rfl⟩ | ⟨rfl, rfl⟩ | ⟨rfl, rfl⟩ | ⟨rfl, rfl⟩ | ⟨rfl, rfl⟩ | ⟨rfl, rfl⟩ | ⟨rfl, rfl⟩ | ⟨rfl, rfl⟩ | ⟨rfl, rfl⟩ | ⟨rfl, rfl⟩ | ⟨rfl, rfl⟩ | ⟨rfl, rfl⟩ | ⟨rfl, rfl⟩ | ⟨rfl, rfl⟩ | ⟨rfl, rfl⟩ | ⟨rfl, rfl⟩ | ⟨rfl, rfl⟩ | ⟨rfl, rfl⟩ | ⟨rfl, rfl⟩ | ⟨rfl, rfl⟩ | ⟨rfl, rfl⟩ | ⟨rfl, rfl⟩ | ⟨rfl, rfl⟩
  · injection hF with hF; subst hF; exact compF_ok lk2
  · injection hF with hF; subst hF; exact compF_ok lk19
  · injection hF with hF; subst hF; exact compF_ok lk21
  · injection hF with hF; subst hF; exact compF_ok lk23
  · injection hF with hF; subst hF; exact compF_ok lk24
  · injection hF with hF; subst hF; exact compF_ok lk25
  · injection hF with hF; subst hF; exact compF_ok lk27
  · injection hF with hF; subst hF; exact compF_ok lk29
  · injection hF with hF; subst hF; exact compF_ok lk31
  · injection hF with hF; subst hF; exact compF_ok lk33
  · injection hF with hF; subst hF; exact compF_ok lk36
  · injection hF with hF; subst hF; exact compF_ok lk39
  · injection hF with hF; subst hF; exact compF_ok lk48
  · injection hF with hF; subst hF; exact compF_ok lk50
  · injection hF with hF; subst hF; exact compF_ok lk51
  · injection hF with hF; subst hF; exact compF_ok lk52
  · injection hF with hF; subst hF; exact compF_ok lk53
  · injection hF with hF; subst hF; exact compF_ok lk54
  · injection hF with hF; subst hF; exact compF_ok lk56
  · injection hF with hF; subst hF; exact compF_ok lk57
  · injection hF with hF; subst hF; exact compF_ok lk58
  · injection hF with hF; subst hF; exact compF_ok lk63
  · injection hF with hF; subst hF; exact compF_ok lk65
  · cases hF
  · injection hF with hF; subst hF; exact compF_ok lk240
  · injection hF with hF; subst hF; exact compF_ok lk241
  · injection hF with hF; subst hF; exact compF_ok lk242
  · injection hF with hF; subst hF; exact compF_ok lk243
  · injection hF with hF; subst hF; exact compF_ok lk244
  · injection hF with hF; subst hF; exact compF_ok lk245
  · injection hF with hF; subst hF; exact compF_ok lk246
  · injection hF with hF; subst hF; exact compF_ok lk247
  · injection hF with hF; subst hF; exact compF_ok lk248
  · injection hF with hF; subst hF; exact compF_ok lk249
  · injection hF with hF; subst hF; exact compF_ok lk250
  · injection hF with hF; subst hF; exact compF_ok lk251
  · injection hF with hF; subst hF; exact compF_ok lk252
  · injection hF with hF; subst hF; exact compF_ok lk253
  · injection hF with hF; subst hF; exact compF_ok lk254
  · injection hF with hF; subst hF; exact compF_ok lk255
  · injection hF with hF; subst hF; exact compF_ok lk256
  · injection hF with hF; subst hF; exact compF_ok lk257
  · injection hF with hF; subst hF; exact compF_ok lk258
  · injection hF with hF; subst hF; exact compF_ok lk259
  · injection hF with hF; subst hF; exact compF_ok lk260
  · injection hF with hF; subst hF; exact compF_ok lk261
  · injection hF with hF; subst hF; exact compF_ok lk262
  · injection hF with hF; subst hF; exact compF_ok lk263
  · injection hF with hF; subst hF; exact compF_ok lk264
  · injection hF with hF; subst hF; exact compF_ok lk265
  · injection hF with hF; subst hF; exact compF_ok lk266
  · injection hF with hF; subst hF; exact compF_ok lk267
  · injection hF with hF; subst hF; exact compF_ok lk268
  · injection hF with hF; subst hF; exact compF_ok lk269
  · injection hF with hF; subst hF; exact compF_ok lk270
  · injection hF with hF; subst hF; exact compF_ok lk271
  · injection hF with hF; subst hF; exact compF_ok lk272
  · injection hF with hF; subst hF; exact compF_ok lk273
  · injection hF with hF; subst hF; exact compF_ok lk274
  · injection hF with hF; subst hF; exact compF_ok lk275
  · injection hF with hF; subst hF; exact compF_ok lk276
  · injection hF with hF; subst hF; exact compF_ok lk277
  · injection hF with hF; subst hF; exact compF_ok lk278
  · injection hF with hF; subst hF; exact compF_ok lk279
  · injection hF with hF; subst hF; exact compF_ok lk280
  · injection hF with hF; subst hF; exact compF_ok lk281
  · injection hF with hF; subst hF; exact compF_ok lk282
  · injection hF with hF; subst hF; exact compF_ok lk283
theorem lk66 : ((Go.Proofs.Try.prog.funcs[66]?).map fun f => (f.name, f.origin, f.body.isNone)) = some ("internal/bytealg.IndexByteString", "", true) := by kernel_rfl
theorem lx66 : ∃ pf, Go.Proofs.Try.prog.funcs[66]? = some pf ∧ (pf.name == "runtime.NumGoroutine") = false ∧ pf.body.isNone = true ∧ Extern.findNext pf = none ∧ Extern.find pf = some Extern.BytealgIndexByte.indexByte := by
  obtain ⟨pf, h1, h2⟩ := Option.map_eq_some_iff.1 lk66
  simp only [Prod.mk.injEq] at h2
  exact ⟨pf, h1, by rw [h2.1]; rfl, h2.2.2, find_next h2.1 h2.2.1, find_extern h2.1⟩
theorem xok : XOK Go.Proofs.Try.prog mF where
  c61 := fun f h => by
    have h := mF_mem h
    simp only [mT, List.mem_cons, Prod.mk.injEq, List.not_mem_nil, or_false] at h
    omega
  c108 := fun f h => by
    have h := mF_mem h
    simp only [mT, List.mem_cons, Prod.mk.injEq, List.not_mem_nil, or_false] at h
    omega
  c66 := fun f h => by
    have h := mF_mem h
    simp only [mT, List.mem_cons, Prod.mk.injEq, List.not_mem_nil, or_false] at h
    obtain rfl : f = 66 := by omega
    exact lx66
end Go.Proofs.YtpiadkdalilmnaaE
