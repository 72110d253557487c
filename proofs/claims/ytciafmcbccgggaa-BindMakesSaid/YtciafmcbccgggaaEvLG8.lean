/- The evaluator's functions are the program's. -/
import Derived.Test.YtciafmcbccgggaaEvFG8
import Derived.Test.YtciafmcbccgggaaChecked
import Derived.KernelRfl
namespace Go.Proofs.YtciafmcbccgggaaE
open Go
set_option linter.unusedVariables false
set_option linter.unusedSimpArgs false
abbrev nn (n : Nat) : List (Option Trim) := List.replicate n none
def mT : List (Nat × Nat) := [(70, 1), (29, 19), (95, 21), (52, 46), (39, 47), (49, 48), (79, 50), (85, 64), (94, 75), (82, 78), (81, 81), (67, 83), (102, 100), (103, 101), (105, 114), (106, 115), (107, 116), (108, 120), (88, 139), (80, 141), (42, 144), (92, 145), (57, 148), (47, 149), (61, 151), (48, 152), (59, 154), (60, 155), (43, 160), (98, 161), (93, 162), (100, 163), (101, 164), (64, 166), (78, 167), (86, 177), (71, 186), (104, 195), (50, 213), (33, 214), (55, 216), (65, 217), (53, 218), (66, 219), (54, 220), (14, 222), (31, 223), (69, 224), (32, 225), (68, 229), (72, 230), (73, 231), (74, 232), (34, 233), (51, 234), (83, 235), (84, 236), (87, 237), (96, 238), (97, 239), (7, 288), (9, 290), (10, 291), (12, 292), (13, 293), (15, 294), (16, 295), (18, 297), (19, 298), (22, 301), (23, 302), (24, 303), (25, 304), (26, 305), (27, 306), (28, 307), (30, 308), (36, 309), (37, 310), (38, 311), (40, 312), (41, 313), (44, 314), (45, 315), (46, 316), (56, 317), (58, 318), (62, 319), (63, 320), (75, 321), (76, 322), (77, 323), (89, 324), (90, 325), (91, 326), (99, 327)]
def mF : Nat → Option Nat := fun f => (mT.find? (·.1 == f)).map (·.2)
theorem lk1 : compF Go.Proofs.Try.prog mF ⟨[0, 2, 3, 5, 6, 8, 9, 10, 11, 12, 20, 25, 26, 27, 28], (nn 3 ++ [(some ⟨0, [], false, [0, 3, 9, 10, 11], []⟩), none, (some ⟨0, [], false, [0, 3], []⟩)] ++ nn 7 ++ [(some ⟨1, [], false, [6, 25, 26, 27], []⟩), none, (some ⟨0, [], false, [6], []⟩)] ++ nn 5), false, (some [(Sh.sl (Sh.sl (Sh.int .u8)))]), none, false⟩ 70 = some k1 := by kernel_rfl
theorem lk19 : compF Go.Proofs.Try.prog mF ⟨[0, 1, 2, 6, 7, 8, 9, 15, 19, 20, 21, 33], (nn 6 ++ [(some ⟨0, [], false, [0, 2, 8, 19, 20], []⟩), none, (some ⟨0, [], false, [2, 8], []⟩)] ++ nn 7), false, (some [(Sh.int .u64), (Sh.int .i64), Sh.bool]), (some (Sh.tu (Sh.pr (Sh.sl (Sh.int .u8)) (Sh.int .i64)))), false⟩ 29 = some k19 := by kernel_rfl
theorem lk21 : compF Go.Proofs.Try.prog mF ⟨[0, 1, 4, 5, 6, 7, 8, 16, 17, 18, 19, 20, 24], (nn 6 ++ [(some ⟨0, [], false, [1, 6, 17, 18, 19], []⟩), none, (some ⟨0, [], false, [6], []⟩)] ++ nn 7), false, (some [(Sh.sl (Sh.int .u8)), Sh.bool]), (some (Sh.tu (Sh.pr (Sh.int .u64) (Sh.int .i64)))), false⟩ 95 = some k21 := by kernel_rfl
theorem lk46 : compF Go.Proofs.Try.prog mF ⟨[0, 2], (nn 3), false, (some [(Sh.sl (Sh.sl (Sh.int .u8)))]), none, false⟩ 52 = some k46 := by kernel_rfl
theorem lk47 : compF Go.Proofs.Try.prog mF ⟨[0, 1, 4, 5, 6, 7, 12, 13, 14, 15, 16], (nn 6 ++ [(some ⟨0, [], false, [1, 5, 13, 14, 15], []⟩), none, (some ⟨0, [], false, [5], []⟩)] ++ nn 5), false, (some [(Sh.sl (Sh.int .u8)), (Sh.sl (Sh.int .u8))]), (some Sh.bool), false⟩ 39 = some k47 := by kernel_rfl
theorem lk48 : compF Go.Proofs.Try.prog mF ⟨[0, 2, 3, 9], ([none, (some ⟨0, [], false, [0, 2, 3], []⟩), none, (some ⟨0, [], false, [], []⟩), none, none]), true, none, none, false⟩ 49 = some k48 := by kernel_rfl
theorem lk50 : compF Go.Proofs.Try.prog mF ⟨[0, 1, 4, 5, 6, 12], (nn 3 ++ [(some ⟨0, [], false, [0, 5, 6], []⟩), none, (some ⟨0, [], false, [5], []⟩)] ++ nn 4 ++ [(some ⟨0, [], true, [], [(4, (.ints .u8 []), 1)]⟩)]), false, (some [(Sh.int .u64), (Sh.int .i64)]), none, false⟩ 79 = some k50 := by kernel_rfl
theorem lk64 : compF Go.Proofs.Try.prog mF ⟨[0, 1, 4, 6, 16], (nn 7 ++ [(some ⟨0, [], true, [], [(4, (.ints .u8 []), 1)]⟩)]), false, none, none, false⟩ 85 = some k64 := by kernel_rfl
theorem lk75 : compF Go.Proofs.Try.prog mF ⟨[0, 1, 2, 6, 7, 12], (nn 6), false, (some [(Sh.int .i64), (Sh.int .i64), (Sh.int .i64)]), (some (Sh.tu (Sh.pr (Sh.int .u64) (Sh.int .i64)))), false⟩ 94 = some k75 := by kernel_rfl
theorem lk78 : compF Go.Proofs.Try.prog mF ⟨[0, 1, 4, 5], (nn 4), false, (some [(Sh.int .i64), (Sh.int .i64)]), (some (Sh.int .u32)), false⟩ 82 = some k78 := by kernel_rfl
theorem lk81 : compF Go.Proofs.Try.prog mF ⟨[0, 2, 3, 4, 6, 14, 17, 18, 19, 20, 26], (nn 3 ++ [(some ⟨0, [], false, [0, 3, 4], [(3, (.ints .i64 []), 1)]⟩), none, (some ⟨0, [], false, [3], []⟩), none, (some ⟨1, [], false, [0, 3, 4, 17, 18, 19], []⟩), none, (some ⟨0, [], false, [0, 3, 4], []⟩), none, none, (some ⟨0, [], false, [0, 3, 4], []⟩)] ++ nn 5), false, (some [(Sh.int .i64)]), (some (Sh.sl (Sh.int .i64))), false⟩ 81 = some k81 := by kernel_rfl
theorem lk83 : compF Go.Proofs.Try.prog mF ⟨[0, 1, 4, 5, 7, 9, 10, 11, 12], (nn 3 ++ [(some ⟨0, [], false, [1, 5, 9, 10, 11], [(5, (.ints .u32 []), 1)]⟩), none, (some ⟨0, [], false, [5], []⟩)] ++ nn 5), false, (some [(Sh.int .i64), (Sh.int .i64)]), (some (Sh.sl (Sh.int .u32))), false⟩ 67 = some k83 := by kernel_rfl
theorem lk100 : compF Go.Proofs.Try.prog mF ⟨[0, 1, 2, 6], (nn 3), false, (some [(Sh.int .i64), (Sh.int .i64), (Sh.int .i64)]), (some Sh.bool), false⟩ 102 = some k100 := by kernel_rfl
theorem lk101 : compF Go.Proofs.Try.prog mF ⟨[0, 1, 2, 3, 4], (nn 3), false, (some [(Sh.int .i64), (Sh.int .i64)]), (some (Sh.int .u64)), false⟩ 103 = some k101 := by kernel_rfl
theorem lk114 : compF Go.Proofs.Try.prog mF ⟨[0, 1, 4, 5, 6, 7, 11, 21], ([none, none, (some ⟨0, [], false, [1, 5, 6], []⟩), none, (some ⟨0, [], false, [5], []⟩)] ++ nn 6), false, none, none, false⟩ 105 = some k114 := by kernel_rfl
theorem lk115 : compF Go.Proofs.Try.prog mF ⟨[0, 1, 2, 4], (nn 3), false, none, none, false⟩ 106 = some k115 := by kernel_rfl
theorem lk116 : compF Go.Proofs.Try.prog mF ⟨[0, 1, 2, 6, 7, 8, 9, 10, 11, 19], (nn 9), false, (some [(Sh.int .u64), (Sh.int .u64), (Sh.int .i64)]), (some Sh.bool), false⟩ 107 = some k116 := by kernel_rfl
theorem lk120 : compF Go.Proofs.Try.prog mF ⟨[0, 1, 4, 5, 6, 7, 8, 9, 10, 11, 12, 13], (nn 13), false, (some [(Sh.int .u64), (Sh.int .u64)]), (some (Sh.tu (Sh.pr (Sh.int .u64) (Sh.int .u64)))), false⟩ 108 = some k120 := by kernel_rfl
theorem lk139 : compF Go.Proofs.Try.prog mF ⟨[0, 1, 2, 3, 4, 5, 11, 16], (nn 11), false, (some [(Sh.st (Sh.pr (Sh.int .u8) (Sh.sl (Sh.int .u8))))]), (some (Sh.tu (Sh.pr (Sh.sl (Sh.int .u8)) (Sh.int .i64)))), false⟩ 88 = some k139 := by kernel_rfl
theorem lk141 : compF Go.Proofs.Try.prog mF ⟨[0, 1, 2, 3, 7, 11], (nn 7 ++ [(some ⟨0, [(1, Sh.bool)], true, [23], []⟩), none]), false, (some [(Sh.st (Sh.pr (Sh.int .u8) (Sh.sl (Sh.int .u8))))]), (some (Sh.tu (Sh.pr (Sh.sl (Sh.int .u8)) (Sh.int .i64)))), false⟩ 80 = some k141 := by kernel_rfl
theorem lk144 : compF Go.Proofs.Try.prog mF ⟨[0, 1, 2, 3, 4], (nn 3), false, (some [(Sh.st (Sh.pr (Sh.int .u8) (Sh.sl (Sh.int .u8)))), (Sh.st (Sh.pr (Sh.int .u8) (Sh.sl (Sh.int .u8))))]), (some Sh.bool), false⟩ 42 = some k144 := by kernel_rfl
theorem lk145 : compF Go.Proofs.Try.prog mF ⟨[0, 1, 2, 3, 4, 5, 6, 7, 16, 21, 27, 33, 55], (nn 20), false, (some [(Sh.st (Sh.pr (Sh.int .u8) (Sh.sl (Sh.int .u8))))]), (some (Sh.int .i64)), false⟩ 92 = some k145 := by kernel_rfl
theorem lk148 : compF Go.Proofs.Try.prog mF ⟨[0, 1, 2], (nn 3), false, (some [(Sh.ar .u8)]), (some (Sh.st (Sh.pr (Sh.int .u8) (Sh.sl (Sh.int .u8))))), false⟩ 57 = some k148 := by kernel_rfl
theorem lk149 : compF Go.Proofs.Try.prog mF ⟨[0, 1, 2], (nn 3), false, (some [(Sh.ar .u8)]), (some (Sh.st (Sh.pr (Sh.int .u8) (Sh.sl (Sh.int .u8))))), false⟩ 47 = some k149 := by kernel_rfl
theorem lk151 : compF Go.Proofs.Try.prog mF ⟨[0, 1, 2, 3, 5, 6, 7, 8, 9], ([none, none, (some ⟨0, [(7, Sh.bool)], true, [17], []⟩), none]), false, (some [(Sh.int .u8), (Sh.ar .u8), (Sh.ar .u8), (Sh.ar .u8)]), (some (Sh.st (Sh.pr (Sh.int .u8) (Sh.sl (Sh.int .u8))))), false⟩ 61 = some k151 := by kernel_rfl
theorem lk152 : compF Go.Proofs.Try.prog mF ⟨[0, 1, 3, 4], (nn 3), false, (some [(Sh.int .u8), (Sh.ar .u8)]), (some (Sh.st (Sh.pr (Sh.int .u8) (Sh.sl (Sh.int .u8))))), false⟩ 48 = some k152 := by kernel_rfl
theorem lk154 : compF Go.Proofs.Try.prog mF ⟨[0, 1, 2, 3, 4, 5, 9], (nn 8), false, (some [(Sh.st (Sh.pr (Sh.int .u8) (Sh.sl (Sh.int .u8))))]), (some (Sh.tu (Sh.pr (Sh.ar .u8) (Sh.int .i64)))), false⟩ 59 = some k154 := by kernel_rfl
theorem lk155 : compF Go.Proofs.Try.prog mF ⟨[0, 1, 2, 3, 4, 8], (nn 7), false, (some [(Sh.st (Sh.pr (Sh.int .u8) (Sh.sl (Sh.int .u8))))]), (some (Sh.tu (Sh.pr (Sh.ar .u8) (Sh.int .i64)))), false⟩ 60 = some k155 := by kernel_rfl
theorem lk160 : compF Go.Proofs.Try.prog mF ⟨[0, 1, 4], (nn 3), false, (some [(Sh.sl (Sh.int .u8)), (Sh.sl (Sh.int .u8))]), (some Sh.bool), false⟩ 43 = some k160 := by kernel_rfl
theorem lk161 : compF Go.Proofs.Try.prog mF ⟨[0, 2], (nn 3), false, (some [(Sh.int .u8)]), (some Sh.bool), false⟩ 98 = some k161 := by kernel_rfl
theorem lk162 : compF Go.Proofs.Try.prog mF ⟨[0, 2], (nn 3), false, (some [(Sh.int .u8)]), (some Sh.bool), false⟩ 93 = some k162 := by kernel_rfl
theorem lk163 : compF Go.Proofs.Try.prog mF ⟨[0, 2, 3, 4, 5, 6, 7, 9, 11], (nn 13), false, (some [(Sh.int .u8)]), (some (Sh.tu (Sh.pr (Sh.int .i64) (Sh.pr (Sh.int .i64) (Sh.pr (Sh.int .u8) (Sh.int .u8)))))), false⟩ 100 = some k163 := by kernel_rfl
theorem lk164 : compF Go.Proofs.Try.prog mF ⟨[0, 1, 4], (nn 3), false, (some [(Sh.sl (Sh.int .u8)), (Sh.sl (Sh.int .u8))]), (some Sh.bool), false⟩ 101 = some k164 := by kernel_rfl
theorem lk166 : compF Go.Proofs.Try.prog mF ⟨[0, 2], (nn 3), false, (some [(Sh.int .u8)]), (some (Sh.sl (Sh.int .u8))), false⟩ 64 = some k166 := by kernel_rfl
theorem lk167 : compF Go.Proofs.Try.prog mF ⟨[0, 1, 2, 4, 8], (nn 6), false, (some [(Sh.st (Sh.pr (Sh.int .u8) (Sh.sl (Sh.int .u8)))), (Sh.int .u8)]), (some (Sh.int .i64)), false⟩ 78 = some k167 := by kernel_rfl
theorem lk177 : compF Go.Proofs.Try.prog mF ⟨[0, 2, 3, 4, 5, 13, 20], ([none, none, (some ⟨0, [], false, [0, 3], [(3, (.imm []), 1)]⟩), none, (some ⟨0, [], false, [0, 3], []⟩)] ++ nn 3 ++ [(some ⟨1, [], false, [3, 4, 5], []⟩), none, (some ⟨0, [], false, [3], []⟩)] ++ nn 5), false, (some [(Sh.int .u64)]), (some (Sh.sl (Sh.int .u8))), false⟩ 86 = some k177 := by kernel_rfl
theorem lk186 : compF Go.Proofs.Try.prog mF ⟨[0, 2, 3, 4, 5, 6, 17], (nn 5 ++ [(some ⟨0, [], false, [3, 4, 5, 6], []⟩), none, (some ⟨0, [], false, [5], []⟩)] ++ nn 4), false, (some [(Sh.int .u64)]), (some (Sh.sl (Sh.int .u8))), false⟩ 71 = some k186 := by kernel_rfl
theorem lk195 : compF Go.Proofs.Try.prog mF ⟨[0, 1, 4, 5], (nn 4), false, (some [(Sh.int .u32), (Sh.int .i64)]), (some (Sh.int .u32)), false⟩ 104 = some k195 := by kernel_rfl
theorem lk213 : compF Go.Proofs.Try.prog mF ⟨[0, 2, 3, 4, 5, 6, 7, 20, 30, 31], (nn 4 ++ [(some ⟨0, [(3, (Sh.sl (Sh.int .u8)))], false, [2, 3, 4, 5], []⟩), none, (some ⟨0, [], false, [2, 4], []⟩)] ++ nn 4 ++ [(some ⟨1, [], false, [2, 4, 6, 30], []⟩), none, (some ⟨0, [], false, [2, 6], []⟩)] ++ nn 5), false, (some [(Sh.sl (Sh.sl (Sh.int .u8)))]), (some (Sh.ar .u8)), false⟩ 50 = some k213 := by kernel_rfl
theorem lk214 : compF Go.Proofs.Try.prog mF ⟨[0, 2, 3, 4, 5, 6, 7, 8, 9, 21, 25, 40], (nn 4 ++ [(some ⟨0, [], false, [2, 3, 4, 5], []⟩), none, (some ⟨0, [], false, [2, 4], []⟩), none, none, (some ⟨1, [], false, [2, 3, 4, 5, 6, 7], []⟩), none, (some ⟨0, [], false, [2, 3, 4, 5, 6], []⟩)] ++ nn 6 ++ [(some ⟨2, [], false, [2, 4, 8, 9], []⟩), none, (some ⟨0, [], false, [2, 8], []⟩)] ++ nn 4), false, (some [(Sh.sl (Sh.int .u8))]), (some (Sh.ar .u8)), false⟩ 33 = some k214 := by kernel_rfl
theorem lk216 : compF Go.Proofs.Try.prog mF ⟨[0, 1, 2, 3, 4, 5, 6, 7, 8, 9, 10, 11, 12, 14, 18, 76, 149], (nn 3 ++ [(some ⟨0, [], false, [2, 3, 4, 5, 6], []⟩), none, (some ⟨0, [], false, [2, 4, 5], []⟩)] ++ nn 7 ++ [(some ⟨1, [], false, [2, 4, 5, 7, 8, 9], []⟩), none, (some ⟨0, [], false, [2, 4, 8], []⟩)] ++ nn 5 ++ [(some ⟨2, [], false, [2, 4, 8, 12], []⟩), none, (some ⟨0, [], false, [4, 8], []⟩)] ++ nn 4), false, (some [(Sh.ar .u32), (Sh.ar .u8)]), (some (Sh.ar .u32)), false⟩ 55 = some k216 := by kernel_rfl
theorem lk217 : compF Go.Proofs.Try.prog mF ⟨[0, 2, 3, 4, 5], (nn 6), false, (some [(Sh.int .u64)]), (some (Sh.sl (Sh.int .u8))), false⟩ 65 = some k217 := by kernel_rfl
theorem lk218 : compF Go.Proofs.Try.prog mF ⟨[0, 2], (nn 3), false, (some [(Sh.int .u64)]), (some (Sh.sl (Sh.int .u8))), false⟩ 53 = some k218 := by kernel_rfl
theorem lk219 : compF Go.Proofs.Try.prog mF ⟨[0], (nn 3), false, (some []), (some (Sh.ar .u32)), false⟩ 66 = some k219 := by kernel_rfl
theorem lk220 : compF Go.Proofs.Try.prog mF ⟨[0], (nn 3), false, (some []), (some (Sh.ar .u32)), false⟩ 54 = some k220 := by kernel_rfl
theorem lk222 : compF Go.Proofs.Try.prog mF ⟨[0, 1, 4, 5, 6], (nn 5), false, (some [(Sh.sl (Sh.int .u8)), (Sh.sl (Sh.int .u8))]), (some (Sh.ar .u8)), false⟩ 14 = some k222 := by kernel_rfl
theorem lk223 : compF Go.Proofs.Try.prog mF ⟨[0, 1, 4, 5], (nn 4), false, (some [(Sh.sl (Sh.int .u8)), (Sh.sl (Sh.sl (Sh.int .u8)))]), (some (Sh.ar .u8)), false⟩ 31 = some k223 := by kernel_rfl
theorem lk224 : compF Go.Proofs.Try.prog mF ⟨[0, 2, 3, 4, 7], (nn 8), false, (some [(Sh.sl (Sh.int .u8))]), (some (Sh.ar .u8)), false⟩ 69 = some k224 := by kernel_rfl
theorem lk225 : compF Go.Proofs.Try.prog mF ⟨[0, 2, 3, 4, 5, 8, 15], (nn 6 ++ [(some ⟨0, [(0, (Sh.sl (Sh.int .u8)))], false, [0, 2, 4, 5], []⟩), none, (some ⟨0, [], false, [2, 4], []⟩)] ++ nn 4), false, (some [(Sh.sl (Sh.int .u8))]), (some (Sh.ar .u8)), false⟩ 32 = some k225 := by kernel_rfl
theorem lk229 : compF Go.Proofs.Try.prog mF ⟨[0, 1, 2, 3, 4, 6, 7, 8, 9, 10, 13, 14, 15, 27, 28], (nn 3 ++ [(some ⟨0, [], false, [2, 3, 6, 7, 13, 14], []⟩), none, (some ⟨0, [], false, [3, 6, 7], []⟩)] ++ nn 4 ++ [(some ⟨1, [], false, [3, 6, 7, 27], []⟩), none, (some ⟨0, [], false, [6, 7], []⟩)] ++ nn 5), false, (some [(Sh.ar .u32), (Sh.ar .u8), (Sh.sl (Sh.int .u32))]), (some (Sh.ar .u32)), false⟩ 68 = some k229 := by kernel_rfl
theorem lk230 : compF Go.Proofs.Try.prog mF ⟨[0, 1, 2, 3, 8], (nn 3), false, (some [(Sh.int .u32), (Sh.int .i64), (Sh.int .i64), (Sh.int .i64)]), (some (Sh.int .u32)), false⟩ 72 = some k230 := by kernel_rfl
theorem lk231 : compF Go.Proofs.Try.prog mF ⟨[0], (nn 3), false, (some []), (some (Sh.sl (Sh.int .u32))), false⟩ 73 = some k231 := by kernel_rfl
theorem lk232 : compF Go.Proofs.Try.prog mF ⟨[0, 1, 2, 3, 8], (nn 3), false, (some [(Sh.int .u32), (Sh.int .i64), (Sh.int .i64), (Sh.int .i64)]), (some (Sh.int .u32)), false⟩ 74 = some k232 := by kernel_rfl
theorem lk233 : compF Go.Proofs.Try.prog mF ⟨[0, 1, 2, 4, 5, 6, 8], (nn 3 ++ [(some ⟨0, [], false, [1, 2, 5, 6], [(5, (.ints .u8 []), 1)]⟩), none, (some ⟨0, [], false, [5], []⟩)] ++ nn 4), false, (some [(Sh.ar .u8), (Sh.int .u8)]), none, false⟩ 34 = some k233 := by kernel_rfl
theorem lk234 : compF Go.Proofs.Try.prog mF ⟨[0, 1, 4, 5, 6, 9, 10], (nn 3 ++ [(some ⟨0, [], false, [1, 5, 9], []⟩), none, (some ⟨0, [], false, [5], []⟩)] ++ nn 5), false, (some [(Sh.sl (Sh.int .u8)), (Sh.int .u8)]), (some (Sh.sl (Sh.int .u8))), false⟩ 51 = some k234 := by kernel_rfl
theorem lk235 : compF Go.Proofs.Try.prog mF ⟨[0, 1, 2, 3, 4, 5, 7, 8, 11], (nn 3 ++ [(some ⟨0, [], false, [1, 2, 3, 7], []⟩), none, (some ⟨0, [], false, [2, 3], []⟩)] ++ nn 4 ++ [(some ⟨0, [], false, [1, 2, 3, 7], []⟩)] ++ nn 4), false, (some [(Sh.ar .u8)]), (some (Sh.ar .u32)), false⟩ 83 = some k235 := by kernel_rfl
theorem lk236 : compF Go.Proofs.Try.prog mF ⟨[0, 1, 2, 4, 5, 6, 7, 8, 9, 10, 11, 12], (nn 6), false, (some [(Sh.ar .u32), (Sh.int .u32)]), (some (Sh.ar .u32)), false⟩ 84 = some k236 := by kernel_rfl
theorem lk237 : compF Go.Proofs.Try.prog mF ⟨[0, 1, 4], (nn 3), false, (some [(Sh.int .u32), (Sh.int .i64)]), (some (Sh.int .u32)), false⟩ 87 = some k237 := by kernel_rfl
theorem lk238 : compF Go.Proofs.Try.prog mF ⟨[0, 1, 2, 4], (nn 3), false, (some [(Sh.ar .i64), (Sh.int .u32)]), (some (Sh.int .u32)), false⟩ 96 = some k238 := by kernel_rfl
theorem lk239 : compF Go.Proofs.Try.prog mF ⟨[0, 1, 2, 4], (nn 3), false, (some [(Sh.ar .i64), (Sh.int .u32)]), (some (Sh.int .u32)), false⟩ 97 = some k239 := by kernel_rfl
theorem lk288 : compF Go.Proofs.Try.prog mF ⟨[0, 1, 2], (nn 3), false, (some [(Sh.ar .u8)]), (some Sh.bool), false⟩ 7 = some k288 := by kernel_rfl
theorem lk290 : compF Go.Proofs.Try.prog mF ⟨[0, 1, 2, 3, 4, 6, 7, 8, 9, 11, 12, 13, 14, 18, 30, 31, 32], (nn 9 ++ [(some ⟨0, [(11, (Sh.sl (Sh.int .u8)))], false, [2, 11, 12, 13, 30, 31], [(12, (.ints .u8 []), 1)]⟩), none, (some ⟨0, [], false, [2, 11, 12], []⟩)] ++ nn 5), false, (some [(Sh.sl (Sh.int .u8)), (Sh.sl (Sh.int .u8)), (Sh.int .i64)]), (some (Sh.tu (Sh.pr (Sh.sl (Sh.int .u8)) (Sh.int .i64)))), false⟩ 9 = some k290 := by kernel_rfl
theorem lk291 : compF Go.Proofs.Try.prog mF ⟨[0, 1, 2, 6, 7, 8, 9, 10, 11, 12, 13, 15, 17, 21], (nn 9 ++ [(some ⟨0, [(10, (Sh.sl (Sh.int .u8)))], false, [0, 1, 2, 9, 10, 11], [(9, (.ints .u8 []), 1)]⟩), none, (some ⟨0, [], false, [2, 9, 11], []⟩)] ++ nn 8), false, (some [(Sh.sl (Sh.int .u8)), (Sh.sl (Sh.int .u8)), (Sh.int .i64)]), (some (Sh.tu (Sh.pr (Sh.sl (Sh.int .u8)) (Sh.pr (Sh.int .i64) (Sh.int .i64))))), false⟩ 10 = some k291 := by kernel_rfl
theorem lk292 : compF Go.Proofs.Try.prog mF ⟨[0, 1, 2, 6, 9], (nn 6), false, (some [(Sh.sl (Sh.int .u8)), (Sh.sl (Sh.int .u8)), (Sh.int .i64)]), (some (Sh.int .i64)), false⟩ 12 = some k292 := by kernel_rfl
theorem lk293 : compF Go.Proofs.Try.prog mF ⟨[0, 1, 2, 3], (nn 4), false, (some [(Sh.ar .u8)]), (some (Sh.ar .u8)), false⟩ 13 = some k293 := by kernel_rfl
theorem lk294 : compF Go.Proofs.Try.prog mF ⟨[0, 1, 2, 3, 6, 7, 17], (nn 4 ++ [(some ⟨0, [], false, [2, 3, 6, 7], []⟩), none, (some ⟨0, [], false, [2, 6], []⟩)] ++ nn 4), false, (some [(Sh.ar .u8)]), (some (Sh.ar .u8)), false⟩ 15 = some k294 := by kernel_rfl
theorem lk295 : compF Go.Proofs.Try.prog mF ⟨[0, 1, 2, 4], (nn 3), false, (some [(Sh.ar .u8), (Sh.sl (Sh.int .u8))]), (some (Sh.ar .u8)), false⟩ 16 = some k295 := by kernel_rfl
theorem lk297 : compF Go.Proofs.Try.prog mF ⟨[0, 1, 2, 3, 4, 5, 6, 7], (nn 5), false, (some [(Sh.ar .u8), (Sh.ar .u8), (Sh.ar .u8)]), (some (Sh.st (Sh.pr Sh.bool (Sh.pr (Sh.int .u16) (Sh.pr (Sh.sl (Sh.pr (Sh.int .u8) (Sh.sl (Sh.int .u8)))) (Sh.sl (Sh.int .u8))))))), false⟩ 18 = some k297 := by kernel_rfl
theorem lk298 : compF Go.Proofs.Try.prog mF ⟨[0, 1, 2, 3, 4, 5, 6, 7, 8, 9, 10, 11, 20, 24, 28, 33], (nn 17), false, (some [(Sh.st (Sh.pr Sh.bool (Sh.pr (Sh.int .u16) (Sh.pr (Sh.sl (Sh.pr (Sh.int .u8) (Sh.sl (Sh.int .u8)))) (Sh.sl (Sh.int .u8)))))), (Sh.ar .u8), (Sh.ar .u8), (Sh.ar .u8)]), (some (Sh.int .i64)), false⟩ 19 = some k298 := by kernel_rfl
theorem lk301 : compF Go.Proofs.Try.prog mF ⟨[0, 1, 2, 3], (nn 5), false, (some []), (some Sh.bool), false⟩ 22 = some k301 := by kernel_rfl
theorem lk302 : compF Go.Proofs.Try.prog mF ⟨[0, 1, 2, 3, 4], (nn 3), false, (some [(Sh.st (Sh.pr Sh.bool (Sh.pr (Sh.int .u16) (Sh.pr (Sh.sl (Sh.pr (Sh.int .u8) (Sh.sl (Sh.int .u8)))) (Sh.sl (Sh.int .u8)))))), (Sh.st (Sh.pr Sh.bool (Sh.pr (Sh.int .u16) (Sh.pr (Sh.sl (Sh.pr (Sh.int .u8) (Sh.sl (Sh.int .u8)))) (Sh.sl (Sh.int .u8))))))]), (some Sh.bool), false⟩ 23 = some k302 := by kernel_rfl
theorem lk303 : compF Go.Proofs.Try.prog mF ⟨[0, 1, 2, 3, 5, 14, 15, 16, 17], (nn 3 ++ [(some ⟨0, [], false, [2, 3, 14, 15, 16], [(3, (.imm []), 2002)]⟩), none, (some ⟨0, [], false, [2, 3], []⟩)] ++ nn 5), false, (some [(Sh.st (Sh.pr Sh.bool (Sh.pr (Sh.int .u16) (Sh.pr (Sh.sl (Sh.pr (Sh.int .u8) (Sh.sl (Sh.int .u8)))) (Sh.sl (Sh.int .u8))))))]), (some (Sh.st (Sh.pr Sh.bool (Sh.pr (Sh.int .u16) (Sh.pr (Sh.sl (Sh.pr (Sh.int .u8) (Sh.sl (Sh.int .u8)))) (Sh.sl (Sh.int .u8))))))), false⟩ 24 = some k303 := by kernel_rfl
theorem lk304 : compF Go.Proofs.Try.prog mF ⟨[0, 1, 2, 3, 4, 5, 6], (nn 3), false, (some [(Sh.ar .u8), (Sh.ar .u8), (Sh.ar .u8)]), (some (Sh.st (Sh.pr Sh.bool (Sh.pr (Sh.int .u16) (Sh.pr (Sh.sl (Sh.pr (Sh.int .u8) (Sh.sl (Sh.int .u8)))) (Sh.sl (Sh.int .u8))))))), false⟩ 25 = some k304 := by kernel_rfl
theorem lk305 : compF Go.Proofs.Try.prog mF ⟨[0, 1, 2], (nn 3), false, (some [(Sh.ar .u8)]), (some (Sh.st (Sh.pr Sh.bool (Sh.pr (Sh.int .u16) (Sh.pr (Sh.sl (Sh.pr (Sh.int .u8) (Sh.sl (Sh.int .u8)))) (Sh.sl (Sh.int .u8))))))), false⟩ 26 = some k305 := by kernel_rfl
theorem lk306 : compF Go.Proofs.Try.prog mF ⟨[0, 1, 2], (nn 3), false, (some [(Sh.ar .u8)]), (some (Sh.st (Sh.pr Sh.bool (Sh.pr (Sh.int .u16) (Sh.pr (Sh.sl (Sh.pr (Sh.int .u8) (Sh.sl (Sh.int .u8)))) (Sh.sl (Sh.int .u8))))))), false⟩ 27 = some k306 := by kernel_rfl
theorem lk307 : compF Go.Proofs.Try.prog mF ⟨[0, 2, 3, 6], (nn 9), false, (some [(Sh.int .i64)]), (some (Sh.int .i64)), false⟩ 28 = some k307 := by kernel_rfl
theorem lk308 : compF Go.Proofs.Try.prog mF ⟨[0, 1, 2, 3, 4, 5, 7], (nn 3), false, none, none, false⟩ 30 = some k308 := by kernel_rfl
theorem lk309 : compF Go.Proofs.Try.prog mF ⟨[0, 1, 2, 3, 4, 5], (nn 5), false, (some [(Sh.ar .u8), (Sh.ar .u8)]), (some (Sh.ar .u8)), false⟩ 36 = some k309 := by kernel_rfl
theorem lk310 : compF Go.Proofs.Try.prog mF ⟨[0, 1, 2], (nn 3), false, (some [(Sh.ar .u8)]), (some (Sh.st (Sh.pr Sh.bool (Sh.pr (Sh.int .u16) (Sh.pr (Sh.sl (Sh.pr (Sh.int .u8) (Sh.sl (Sh.int .u8)))) (Sh.sl (Sh.int .u8))))))), false⟩ 37 = some k310 := by kernel_rfl
theorem lk311 : compF Go.Proofs.Try.prog mF ⟨[0, 1, 2, 3, 4, 5, 12], (nn 7), false, (some [(Sh.st (Sh.pr Sh.bool (Sh.pr (Sh.int .u16) (Sh.pr (Sh.sl (Sh.pr (Sh.int .u8) (Sh.sl (Sh.int .u8)))) (Sh.sl (Sh.int .u8))))))]), (some (Sh.tu (Sh.pr (Sh.ar .u8) (Sh.int .i64)))), false⟩ 38 = some k311 := by kernel_rfl
theorem lk312 : compF Go.Proofs.Try.prog mF ⟨[0, 1, 2, 3, 4, 5, 6, 13, 21, 26], (nn 14), false, (some [(Sh.st (Sh.pr Sh.bool (Sh.pr (Sh.int .u16) (Sh.pr (Sh.sl (Sh.pr (Sh.int .u8) (Sh.sl (Sh.int .u8)))) (Sh.sl (Sh.int .u8))))))]), (some (Sh.tu (Sh.pr (Sh.ar .u8) (Sh.int .i64)))), false⟩ 40 = some k312 := by kernel_rfl
theorem lk313 : compF Go.Proofs.Try.prog mF ⟨[0, 1, 2, 6, 7, 8, 9, 14, 15, 16, 17, 18, 30], (nn 5 ++ [(some ⟨0, [], false, [1, 2, 15, 16, 17], []⟩), none, (some ⟨0, [], false, [], []⟩)] ++ nn 8), false, none, none, false⟩ 41 = some k313 := by kernel_rfl
theorem lk314 : compF Go.Proofs.Try.prog mF ⟨[0, 1, 2, 3, 5, 6, 7, 8], (nn 3), false, (some [(Sh.int .u8), (Sh.ar .u8), (Sh.ar .u8), (Sh.ar .u8)]), (some (Sh.st (Sh.pr Sh.bool (Sh.pr (Sh.int .u16) (Sh.pr (Sh.sl (Sh.pr (Sh.int .u8) (Sh.sl (Sh.int .u8)))) (Sh.sl (Sh.int .u8))))))), false⟩ 44 = some k314 := by kernel_rfl
theorem lk315 : compF Go.Proofs.Try.prog mF ⟨[0, 1, 2, 3, 4, 5, 7], (nn 5), false, (some [(Sh.st (Sh.pr Sh.bool (Sh.pr (Sh.int .u16) (Sh.pr (Sh.sl (Sh.pr (Sh.int .u8) (Sh.sl (Sh.int .u8)))) (Sh.sl (Sh.int .u8)))))), (Sh.ar .u8)]), (some (Sh.ar .u8)), false⟩ 45 = some k315 := by kernel_rfl
theorem lk316 : compF Go.Proofs.Try.prog mF ⟨[0, 1, 4], (nn 3), false, (some [(Sh.int .u16), (Sh.sl (Sh.pr (Sh.int .u8) (Sh.sl (Sh.int .u8))))]), (some (Sh.st (Sh.pr Sh.bool (Sh.pr (Sh.int .u16) (Sh.pr (Sh.sl (Sh.pr (Sh.int .u8) (Sh.sl (Sh.int .u8)))) (Sh.sl (Sh.int .u8))))))), false⟩ 46 = some k316 := by kernel_rfl
theorem lk317 : compF Go.Proofs.Try.prog mF ⟨[0, 1, 2, 3, 4, 5, 6, 12, 16, 22], (nn 13), false, (some [(Sh.st (Sh.pr Sh.bool (Sh.pr (Sh.int .u16) (Sh.pr (Sh.sl (Sh.pr (Sh.int .u8) (Sh.sl (Sh.int .u8)))) (Sh.sl (Sh.int .u8))))))]), (some (Sh.tu (Sh.pr (Sh.sl (Sh.int .u8)) (Sh.int .i64)))), false⟩ 56 = some k317 := by kernel_rfl
theorem lk318 : compF Go.Proofs.Try.prog mF ⟨[0, 1, 2, 4, 5, 6, 9, 14], (nn 10), false, (some [(Sh.st (Sh.pr Sh.bool (Sh.pr (Sh.int .u16) (Sh.pr (Sh.sl (Sh.pr (Sh.int .u8) (Sh.sl (Sh.int .u8)))) (Sh.sl (Sh.int .u8)))))), (Sh.int .u16)]), (some (Sh.tu (Sh.pr (Sh.st (Sh.pr (Sh.int .u8) (Sh.sl (Sh.int .u8)))) (Sh.int .i64)))), false⟩ 58 = some k318 := by kernel_rfl
theorem lk319 : compF Go.Proofs.Try.prog mF ⟨[0, 1, 2, 3, 4, 5, 6, 7, 8, 12, 16, 31, 44, 51, 55], (nn 10 ++ [(some ⟨0, [], false, [1, 4, 5, 6], []⟩), none, (some ⟨0, [], false, [4, 5], []⟩)] ++ nn 14), false, (some [(Sh.st (Sh.pr Sh.bool (Sh.pr (Sh.int .u16) (Sh.pr (Sh.sl (Sh.pr (Sh.int .u8) (Sh.sl (Sh.int .u8)))) (Sh.sl (Sh.int .u8))))))]), (some (Sh.tu (Sh.pr (Sh.sl (Sh.int .u8)) (Sh.int .i64)))), false⟩ 62 = some k319 := by kernel_rfl
theorem lk321 : compF Go.Proofs.Try.prog mF ⟨[0, 1, 2, 3, 4, 6, 7, 8, 9, 19, 25, 41, 42, 43, 44, 53], (nn 12 ++ [(some ⟨0, [], false, [4, 41, 42, 43], []⟩), none, (some ⟨0, [], false, [4], []⟩)] ++ nn 9), false, (some [(Sh.st (Sh.pr Sh.bool (Sh.pr (Sh.int .u16) (Sh.pr (Sh.sl (Sh.pr (Sh.int .u8) (Sh.sl (Sh.int .u8)))) (Sh.sl (Sh.int .u8))))))]), (some (Sh.tu (Sh.pr (Sh.sl (Sh.int .u8)) (Sh.int .i64)))), false⟩ 75 = some k321 := by kernel_rfl
theorem lk322 : compF Go.Proofs.Try.prog mF ⟨[0, 2, 3], (nn 4), false, (some [(Sh.int .i64)]), (some (Sh.sl (Sh.int .u8))), false⟩ 76 = some k322 := by kernel_rfl
theorem lk323 : compF Go.Proofs.Try.prog mF ⟨[0, 1, 2, 3, 4, 5, 6, 8, 9, 20, 24, 33, 49, 50, 51, 52, 58], (nn 13 ++ [(some ⟨0, [], false, [49, 50, 51], []⟩), none, (some ⟨0, [], false, [], []⟩)] ++ nn 8), false, (some [(Sh.st (Sh.pr Sh.bool (Sh.pr (Sh.int .u16) (Sh.pr (Sh.sl (Sh.pr (Sh.int .u8) (Sh.sl (Sh.int .u8)))) (Sh.sl (Sh.int .u8))))))]), (some (Sh.int .i64)), false⟩ 77 = some k323 := by kernel_rfl
theorem lk324 : compF Go.Proofs.Try.prog mF ⟨[0, 2, 3, 4, 5, 6, 8, 10, 12, 14], (nn 20), false, (some [(Sh.int .u16)]), (some (Sh.tu (Sh.pr (Sh.int .u8) (Sh.pr (Sh.int .i64) (Sh.int .i64))))), false⟩ 89 = some k324 := by kernel_rfl
theorem lk325 : compF Go.Proofs.Try.prog mF ⟨[0, 1, 4], (nn 3), false, none, none, false⟩ 90 = some k325 := by kernel_rfl
theorem lk326 : compF Go.Proofs.Try.prog mF ⟨[0, 1, 2, 3], (nn 3), false, none, none, false⟩ 91 = some k326 := by kernel_rfl
theorem lk327 : compF Go.Proofs.Try.prog mF ⟨[0, 1, 4, 5, 7, 8, 9, 16], ([none, none, (some ⟨0, [], false, [0, 1, 7, 8], []⟩), none, (some ⟨0, [], false, [], []⟩)] ++ nn 7), false, none, none, false⟩ 99 = some k327 := by kernel_rfl
theorem mF_mem {f g : Nat} (h : mF f = some g) : (f, g) ∈ mT := by
  simp only [mF, Option.map_eq_some_iff] at h
  obtain ⟨p, h1, h2⟩ := h
  have h3 := List.mem_of_find?_eq_some h1
  have h4 := List.find?_some h1
  have h5 : p.1 = f := by simpa using h4
  rw [← h5, ← h2]; exact h3
theorem link : Link Go.Proofs.Try.prog mF FT := by
  intro f g fn hm hF
  have h := mF_mem hm
  simp only [mT, List.mem_cons, Prod.mk.injEq, List.not_mem_nil, or_false] at h
  rcases h with ⟨rfl, rfl⟩ | ⟨rfl, rfl⟩ | ⟨rfl, rfl⟩ | ⟨rfl, rfl⟩ | ⟨rfl, rfl⟩ | ⟨rfl, rfl⟩ | ⟨rfl, rfl⟩ | ⟨rfl, rfl⟩ | ⟨rfl, rfl⟩ | ⟨rfl, rfl⟩ | ⟨rfl, rfl⟩ | ⟨rfl, rfl⟩ | ⟨rfl, rfl⟩ | ⟨rfl, rfl⟩ | ⟨rfl, rfl⟩ | ⟨rfl, rfl⟩ | ⟨rfl, rfl⟩ | ⟨rfl, rfl⟩ | ⟨rfl, rfl⟩ | ⟨rfl, rfl⟩ | ⟨rfl, rfl⟩ | ⟨rfl, rfl⟩ | ⟨rfl, rfl⟩ | ⟨rfl, rfl⟩ | ⟨rfl, rfl⟩ | ⟨rfl, rfl⟩ | ⟨rfl, rfl⟩ | ⟨rfl, rfl⟩ | ⟨rfl, rfl⟩ | ⟨rfl, rfl⟩ | ⟨rfl, rfl⟩ | ⟨rfl, rfl⟩ | ⟨rfl, rfl⟩ | ⟨rfl, rfl⟩ | ⟨rfl, rfl⟩ | ⟨rfl, rfl⟩ | ⟨rfl, rfl⟩ | ⟨rfl, rfl⟩ | ⟨rfl, rfl⟩ | ⟨rfl, rfl⟩ | ⟨rfl, rfl⟩ | ⟨rfl, rfl⟩ | ⟨rfl, rfl⟩ | ⟨rfl, rfl⟩ | ⟨rfl, rfl⟩ | ⟨rfl, rfl⟩ | ⟨rfl, rfl⟩ | ⟨rfl, rfl⟩ | ⟨rfl, rfl⟩ | ⟨rfl, rfl⟩ | ⟨rfl, rfl⟩ | ⟨rfl, rfl⟩ | ⟨rfl, rfl⟩ | ⟨rfl, rfl⟩ | ⟨rfl, rfl⟩ | ⟨rfl, rfl⟩ | ⟨rfl, rfl⟩ | ⟨rfl, rfl⟩ | ⟨rfl, rfl⟩ | ⟨rfl, rfl⟩ | ⟨rfl, rfl⟩ | ⟨rfl, rfl⟩ | ⟨rfl, rfl⟩ | ⟨rfl, rfl⟩ | ⟨rfl, rfl⟩ | ⟨rfl, rfl⟩ | ⟨rfl, rfl⟩ | ⟨rfl, rfl⟩ | ⟨rfl, rfl⟩ | ⟨rfl, rfl⟩ | ⟨rfl, rfl⟩ | ⟨rfl, rfl⟩ | ⟨rfl, rfl⟩ | ⟨rfl, rfl⟩ | ⟨rfl, rfl⟩ | ⟨rfl, rfl⟩ | ⟨rfl, rfl⟩ | ⟨rfl, rfl⟩ | ⟨rfl, rfl⟩ | ⟨rfl, rfl⟩ | ⟨rfl, rfl⟩ | ⟨rfl, rfl⟩ | ⟨rfl, rfl⟩ | ⟨rfl, rfl⟩ | ⟨rfl, rfl⟩ | ⟨rfl, rfl⟩ | ⟨rfl, rfl⟩ | ⟨rfl, rfl⟩ | ⟨rfl, rfl⟩ | ⟨rfl, rfl⟩ | ⟨rfl, rfl⟩ | ⟨rfl, rfl⟩ | ⟨rfl, rfl⟩ | ⟨rfl, rfl⟩ | ⟨rfl, rfl⟩ | ⟨rfl, rfl⟩
  · injection hF with hF; subst hF; exact compF_ok lk1
  · injection hF with hF; subst hF; exact compF_ok lk19
  · injection hF with hF; subst hF; exact compF_ok lk21
  · injection hF with hF; subst hF; exact compF_ok lk46
  · injection hF with hF; subst hF; exact compF_ok lk47
  · injection hF with hF; subst hF; exact compF_ok lk48
  · injection hF with hF; subst hF; exact compF_ok lk50
  · injection hF with hF; subst hF; exact compF_ok lk64
  · injection hF with hF; subst hF; exact compF_ok lk75
  · injection hF with hF; subst hF; exact compF_ok lk78
  · injection hF with hF; subst hF; exact compF_ok lk81
  · injection hF with hF; subst hF; exact compF_ok lk83
  · injection hF with hF; subst hF; exact compF_ok lk100
  · injection hF with hF; subst hF; exact compF_ok lk101
  · injection hF with hF; subst hF; exact compF_ok lk114
  · injection hF with hF; subst hF; exact compF_ok lk115
  · injection hF with hF; subst hF; exact compF_ok lk116
  · injection hF with hF; subst hF; exact compF_ok lk120
  · injection hF with hF; subst hF; exact compF_ok lk139
  · injection hF with hF; subst hF; exact compF_ok lk141
  · injection hF with hF; subst hF; exact compF_ok lk144
  · injection hF with hF; subst hF; exact compF_ok lk145
  · injection hF with hF; subst hF; exact compF_ok lk148
  · injection hF with hF; subst hF; exact compF_ok lk149
  · injection hF with hF; subst hF; exact compF_ok lk151
  · injection hF with hF; subst hF; exact compF_ok lk152
  · injection hF with hF; subst hF; exact compF_ok lk154
  · injection hF with hF; subst hF; exact compF_ok lk155
  · injection hF with hF; subst hF; exact compF_ok lk160
  · injection hF with hF; subst hF; exact compF_ok lk161
  · injection hF with hF; subst hF; exact compF_ok lk162
  · injection hF with hF; subst hF; exact compF_ok lk163
  · injection hF with hF; subst hF; exact compF_ok lk164
  · injection hF with hF; subst hF; exact compF_ok lk166
  · injection hF with hF; subst hF; exact compF_ok lk167
  · injection hF with hF; subst hF; exact compF_ok lk177
  · injection hF with hF; subst hF; exact compF_ok lk186
  · injection hF with hF; subst hF; exact compF_ok lk195
  · injection hF with hF; subst hF; exact compF_ok lk213
  · injection hF with hF; subst hF; exact compF_ok lk214
  · injection hF with hF; subst hF; exact compF_ok lk216
  · injection hF with hF; subst hF; exact compF_ok lk217
  · injection hF with hF; subst hF; exact compF_ok lk218
  · injection hF with hF; subst hF; exact compF_ok lk219
  · injection hF with hF; subst hF; exact compF_ok lk220
  · injection hF with hF; subst hF; exact compF_ok lk222
  · injection hF with hF; subst hF; exact compF_ok lk223
  · injection hF with hF; subst hF; exact compF_ok lk224
  · injection hF with hF; subst hF; exact compF_ok lk225
  · injection hF with hF; subst hF; exact compF_ok lk229
  · injection hF with hF; subst hF; exact compF_ok lk230
  · injection hF with hF; subst hF; exact compF_ok lk231
  · injection hF with hF; subst hF; exact compF_ok lk232
  · injection hF with hF; subst hF; exact compF_ok lk233
  · injection hF with hF; subst hF; exact compF_ok lk234
  · injection hF with hF; subst hF; exact compF_ok lk235
  · injection hF with hF; subst hF; exact compF_ok lk236
  · injection hF with hF; subst hF; exact compF_ok lk237
  · injection hF with hF; subst hF; exact compF_ok lk238
  · injection hF with hF; subst hF; exact compF_ok lk239
  · injection hF with hF; subst hF; exact compF_ok lk288
  · injection hF with hF; subst hF; exact compF_ok lk290
  · injection hF with hF; subst hF; exact compF_ok lk291
  · injection hF with hF; subst hF; exact compF_ok lk292
  · injection hF with hF; subst hF; exact compF_ok lk293
  · injection hF with hF; subst hF; exact compF_ok lk294
  · injection hF with hF; subst hF; exact compF_ok lk295
  · injection hF with hF; subst hF; exact compF_ok lk297
  · injection hF with hF; subst hF; exact compF_ok lk298
  · injection hF with hF; subst hF; exact compF_ok lk301
  · injection hF with hF; subst hF; exact compF_ok lk302
  · injection hF with hF; subst hF; exact compF_ok lk303
  · injection hF with hF; subst hF; exact compF_ok lk304
  · injection hF with hF; subst hF; exact compF_ok lk305
  · injection hF with hF; subst hF; exact compF_ok lk306
  · injection hF with hF; subst hF; exact compF_ok lk307
  · injection hF with hF; subst hF; exact compF_ok lk308
  · injection hF with hF; subst hF; exact compF_ok lk309
  · injection hF with hF; subst hF; exact compF_ok lk310
  · injection hF with hF; subst hF; exact compF_ok lk311
  · injection hF with hF; subst hF; exact compF_ok lk312
  · injection hF with hF; subst hF; exact compF_ok lk313
  · injection hF with hF; subst hF; exact compF_ok lk314
  · injection hF with hF; subst hF; exact compF_ok lk315
  · injection hF with hF; subst hF; exact compF_ok lk316
  · injection hF with hF; subst hF; exact compF_ok lk317
  · injection hF with hF; subst hF; exact compF_ok lk318
  · injection hF with hF; subst hF; exact compF_ok lk319
  · cases hF
  · injection hF with hF; subst hF; exact compF_ok lk321
  · injection hF with hF; subst hF; exact compF_ok lk322
  · injection hF with hF; subst hF; exact compF_ok lk323
  · injection hF with hF; subst hF; exact compF_ok lk324
  · injection hF with hF; subst hF; exact compF_ok lk325
  · injection hF with hF; subst hF; exact compF_ok lk326
  · injection hF with hF; subst hF; exact compF_ok lk327
theorem lk320 : compF Go.Proofs.Try.prog mF ⟨[0, 2, 4], [none, none, none, none, none, none], false, (some [.sl shA]), (some (.sl shA)), false⟩ 63 = some kclone2 := by kernel_rfl
theorem xok : XOK Go.Proofs.Try.prog mF where
  c61 := fun f h => by
    have h := mF_mem h
    simp only [mT, List.mem_cons, Prod.mk.injEq, List.not_mem_nil, or_false] at h
    omega
  c108 := fun f h => by
    have h := mF_mem h
    simp only [mT, List.mem_cons, Prod.mk.injEq, List.not_mem_nil, or_false] at h
    omega
  c320 := fun f h => by
    have h := mF_mem h
    simp only [mT, List.mem_cons, Prod.mk.injEq, List.not_mem_nil, or_false] at h
    obtain rfl : f = 63 := by omega
    exact compF_ok lk320
  c66 := fun f h => by
    have h := mF_mem h
    simp only [mT, List.mem_cons, Prod.mk.injEq, List.not_mem_nil, or_false] at h
    omega
end Go.Proofs.YtciafmcbccgggaaE
