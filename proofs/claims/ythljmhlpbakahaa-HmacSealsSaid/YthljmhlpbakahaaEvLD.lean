/- The evaluator's functions are the program's. -/
import Derived.Test.YthljmhlpbakahaaEvFD
import Derived.Test.YthljmhlpbakahaaChecked
import Derived.KernelRfl
namespace Go.Proofs.YthljmhlpbakahaaE
open Go
set_option linter.unusedVariables false
set_option linter.unusedSimpArgs false
def mT : List (Nat × Nat) := [(39, 1), (34, 19), (49, 21), (15, 23), (28, 46), (38, 47), (45, 48), (47, 64), (48, 75), (41, 78), (40, 81), (29, 83), (52, 100), (53, 101), (55, 114), (56, 115), (57, 116), (58, 120), (46, 177), (35, 186), (54, 195), (3, 205), (4, 206), (5, 207), (6, 208), (7, 209), (8, 210), (9, 211), (10, 212), (11, 213), (12, 214), (13, 215), (14, 216), (16, 217), (17, 218), (18, 219), (19, 220), (20, 221), (21, 222), (22, 223), (23, 224), (24, 225), (25, 226), (26, 227), (27, 228), (30, 229), (31, 230), (32, 231), (33, 232), (36, 233), (37, 234), (42, 235), (43, 236), (44, 237), (50, 238), (51, 239)]
def mF : Nat → Option Nat := fun f => (mT.find? (·.1 == f)).map (·.2)
theorem lk1 : compF Go.Proofs.Try.prog mF ⟨[0, 2, 3, 5, 6, 8, 9, 10, 11, 12, 20, 25, 26, 27, 28], [none, none, none, (some ⟨0, [], false, [0, 3, 9, 10, 11], []⟩), none, (some ⟨0, [], false, [0, 3], []⟩), none, none, none, none, none, none, none, (some ⟨1, [], false, [6, 25, 26, 27], []⟩), none, (some ⟨0, [], false, [6], []⟩), none, none, none, none, none], false, (some [(Sh.sl (Sh.sl (Sh.int .u8)))]), none⟩ 39 = some k1 := by kernel_rfl
theorem lk19 : compF Go.Proofs.Try.prog mF ⟨[0, 1, 2, 6, 7, 8, 9, 15, 19, 20, 21, 33], [none, none, none, none, none, none, (some ⟨0, [], false, [0, 2, 8, 19, 20], []⟩), none, (some ⟨0, [], false, [2, 8], []⟩), none, none, none, none, none, none, none], false, (some [(Sh.int .u64), (Sh.int .i64), Sh.bool]), (some (Sh.tu (Sh.pr (Sh.sl (Sh.int .u8)) (Sh.int .i64))))⟩ 34 = some k19 := by kernel_rfl
theorem lk21 : compF Go.Proofs.Try.prog mF ⟨[0, 1, 4, 5, 6, 7, 8, 16, 17, 18, 19, 20, 24], [none, none, none, none, none, none, (some ⟨0, [], false, [1, 6, 17, 18, 19], []⟩), none, (some ⟨0, [], false, [6], []⟩), none, none, none, none, none, none, none], false, (some [(Sh.sl (Sh.int .u8)), Sh.bool]), (some (Sh.tu (Sh.pr (Sh.int .u64) (Sh.int .i64))))⟩ 49 = some k21 := by kernel_rfl
theorem lk23 : compF Go.Proofs.Try.prog mF ⟨[0, 1, 4, 5, 10, 14, 25], [none, none, none, none, none, (some ⟨0, [], false, [0, 1, 5], []⟩), none, (some ⟨0, [], false, [], []⟩), none, none, none, none, none, none], false, (some [(Sh.sl (Sh.int .u8)), (Sh.sl (Sh.int .u8))]), (some Sh.bool)⟩ 15 = some k23 := by kernel_rfl
theorem lk46 : compF Go.Proofs.Try.prog mF ⟨[0, 2], [none, none, none], false, (some [(Sh.sl (Sh.sl (Sh.int .u8)))]), none⟩ 28 = some k46 := by kernel_rfl
theorem lk47 : compF Go.Proofs.Try.prog mF ⟨[0, 1, 4, 5, 6, 7, 12, 13, 14, 15, 16], [none, none, none, none, none, none, (some ⟨0, [], false, [1, 5, 13, 14, 15], []⟩), none, (some ⟨0, [], false, [5], []⟩), none, none, none, none, none], false, (some [(Sh.sl (Sh.int .u8)), (Sh.sl (Sh.int .u8))]), (some Sh.bool)⟩ 38 = some k47 := by kernel_rfl
theorem lk48 : compF Go.Proofs.Try.prog mF ⟨[0, 2, 3, 9], [none, (some ⟨0, [], false, [0, 2, 3], []⟩), none, (some ⟨0, [], false, [], []⟩), none, none], true, none, none⟩ 45 = some k48 := by kernel_rfl
theorem lk64 : compF Go.Proofs.Try.prog mF ⟨[0, 1, 4, 6, 16], [none, none, none, none, none, none, none, (some ⟨0, [], true, [], [(4, (.ints .u8 []), 1)]⟩)], false, none, none⟩ 47 = some k64 := by kernel_rfl
theorem lk75 : compF Go.Proofs.Try.prog mF ⟨[0, 1, 2, 6, 7, 12], [none, none, none, none, none, none], false, (some [(Sh.int .i64), (Sh.int .i64), (Sh.int .i64)]), (some (Sh.tu (Sh.pr (Sh.int .u64) (Sh.int .i64))))⟩ 48 = some k75 := by kernel_rfl
theorem lk78 : compF Go.Proofs.Try.prog mF ⟨[0, 1, 4, 5], [none, none, none, none], false, (some [(Sh.int .i64), (Sh.int .i64)]), (some (Sh.int .u32))⟩ 41 = some k78 := by kernel_rfl
theorem lk81 : compF Go.Proofs.Try.prog mF ⟨[0, 2, 3, 4, 6, 14, 17, 18, 19, 20, 26], [none, none, none, (some ⟨0, [], false, [0, 3, 4], [(3, (.ints .i64 []), 1)]⟩), none, (some ⟨0, [], false, [3], []⟩), none, (some ⟨1, [], false, [0, 3, 4, 17, 18, 19], []⟩), none, (some ⟨0, [], false, [0, 3, 4], []⟩), none, none, (some ⟨0, [], false, [0, 3, 4], []⟩), none, none, none, none, none], false, (some [(Sh.int .i64)]), (some (Sh.sl (Sh.int .i64)))⟩ 40 = some k81 := by kernel_rfl
theorem lk83 : compF Go.Proofs.Try.prog mF ⟨[0, 1, 4, 5, 7, 9, 10, 11, 12], [none, none, none, (some ⟨0, [], false, [1, 5, 9, 10, 11], [(5, (.ints .u32 []), 1)]⟩), none, (some ⟨0, [], false, [5], []⟩), none, none, none, none, none], false, (some [(Sh.int .i64), (Sh.int .i64)]), (some (Sh.sl (Sh.int .u32)))⟩ 29 = some k83 := by kernel_rfl
theorem lk100 : compF Go.Proofs.Try.prog mF ⟨[0, 1, 2, 6], [none, none, none], false, (some [(Sh.int .i64), (Sh.int .i64), (Sh.int .i64)]), (some Sh.bool)⟩ 52 = some k100 := by kernel_rfl
theorem lk101 : compF Go.Proofs.Try.prog mF ⟨[0, 1, 2, 3, 4], [none, none, none], false, (some [(Sh.int .i64), (Sh.int .i64)]), (some (Sh.int .u64))⟩ 53 = some k101 := by kernel_rfl
theorem lk114 : compF Go.Proofs.Try.prog mF ⟨[0, 1, 4, 5, 6, 7, 11, 21], [none, none, (some ⟨0, [], false, [1, 5, 6], []⟩), none, (some ⟨0, [], false, [5], []⟩), none, none, none, none, none, none], false, none, none⟩ 55 = some k114 := by kernel_rfl
theorem lk115 : compF Go.Proofs.Try.prog mF ⟨[0, 1, 2, 4], [none, none, none], false, none, none⟩ 56 = some k115 := by kernel_rfl
theorem lk116 : compF Go.Proofs.Try.prog mF ⟨[0, 1, 2, 6, 7, 8, 9, 10, 11, 19], [none, none, none, none, none, none, none, none, none], false, (some [(Sh.int .u64), (Sh.int .u64), (Sh.int .i64)]), (some Sh.bool)⟩ 57 = some k116 := by kernel_rfl
theorem lk120 : compF Go.Proofs.Try.prog mF ⟨[0, 1, 4, 5, 6, 7, 8, 9, 10, 11, 12, 13], [none, none, none, none, none, none, none, none, none, none, none, none, none], false, (some [(Sh.int .u64), (Sh.int .u64)]), (some (Sh.tu (Sh.pr (Sh.int .u64) (Sh.int .u64))))⟩ 58 = some k120 := by kernel_rfl
theorem lk177 : compF Go.Proofs.Try.prog mF ⟨[0, 2, 3, 4, 5, 13, 20], [none, none, (some ⟨0, [], false, [0, 3], [(3, (.imm []), 1)]⟩), none, (some ⟨0, [], false, [0, 3], []⟩), none, none, none, (some ⟨1, [], false, [3, 4, 5], []⟩), none, (some ⟨0, [], false, [3], []⟩), none, none, none, none, none], false, (some [(Sh.int .u64)]), (some (Sh.sl (Sh.int .u8)))⟩ 46 = some k177 := by kernel_rfl
theorem lk186 : compF Go.Proofs.Try.prog mF ⟨[0, 2, 3, 4, 5, 6, 17], [none, none, none, none, none, (some ⟨0, [], false, [3, 4, 5, 6], []⟩), none, (some ⟨0, [], false, [5], []⟩), none, none, none, none], false, (some [(Sh.int .u64)]), (some (Sh.sl (Sh.int .u8)))⟩ 35 = some k186 := by kernel_rfl
theorem lk195 : compF Go.Proofs.Try.prog mF ⟨[0, 1, 4, 5], [none, none, none, none], false, (some [(Sh.int .u32), (Sh.int .i64)]), (some (Sh.int .u32))⟩ 54 = some k195 := by kernel_rfl
theorem lk205 : compF Go.Proofs.Try.prog mF ⟨[0, 2, 5], [none, none, none, none, none, none], false, (some [(Sh.sl (Sh.int .u8))]), (some Sh.bool)⟩ 3 = some k205 := by kernel_rfl
theorem lk206 : compF Go.Proofs.Try.prog mF ⟨[0, 1, 2, 3, 4, 6], [none, none, none], false, (some [(Sh.ar .u32), (Sh.ar .u8), (Sh.int .u64)]), (some Sh.bool)⟩ 4 = some k206 := by kernel_rfl
theorem lk207 : compF Go.Proofs.Try.prog mF ⟨[0, 2, 3, 5, 6, 7, 8, 9, 10, 13, 15, 16, 17, 18, 23, 55, 63], [none, none, none, none, none, none, (some ⟨0, [], false, [0, 3, 15, 16, 17], [(3, (.ints .u8 []), 1)]⟩), none, (some ⟨0, [], false, [0, 3], []⟩), none, none, none, none, none, none, none, none, none, none, none, none, none, (some ⟨1, [(9, (Sh.sl (Sh.int .u8)))], false, [0, 3, 8, 9], []⟩), none, (some ⟨0, [], false, [0, 3, 8], []⟩), none, none, none, none, none], false, (some [(Sh.sl (Sh.sl (Sh.int .u8)))]), (some Sh.bool)⟩ 5 = some k207 := by kernel_rfl
theorem lk208 : compF Go.Proofs.Try.prog mF ⟨[0, 1, 2, 6, 7, 9, 10, 23, 25, 26, 27, 28, 33], [none, none, none, none, none, none, (some ⟨0, [], false, [0, 1, 2, 7, 25, 26, 27], [(7, (.ints .u8 []), 1)]⟩), none, (some ⟨0, [], false, [0, 1, 2, 7], []⟩), none, none, none, none, none, none, none, none, none], false, (some [(Sh.sl (Sh.int .u8)), (Sh.sl (Sh.sl (Sh.int .u8))), (Sh.sl (Sh.int .u8))]), (some Sh.bool)⟩ 6 = some k208 := by kernel_rfl
theorem lk209 : compF Go.Proofs.Try.prog mF ⟨[0, 1, 4, 5, 6, 7, 10, 22, 24, 25, 26, 56], [none, none, none, none, none, none, none, none, none, (some ⟨0, [], false, [0, 5, 6, 24, 25], []⟩), none, (some ⟨0, [], false, [], []⟩), none, none, none, none, none, none, none], false, (some [(Sh.sl (Sh.int .u8)), (Sh.int .i64)]), (some Sh.bool)⟩ 7 = some k209 := by kernel_rfl
theorem lk210 : compF Go.Proofs.Try.prog mF ⟨[0, 1, 2, 6, 7, 15], [none, none, none, none, none, none, none], false, (some [(Sh.sl (Sh.int .u8)), (Sh.int .u8), (Sh.sl (Sh.int .u8))]), (some Sh.bool)⟩ 8 = some k210 := by kernel_rfl
theorem lk211 : compF Go.Proofs.Try.prog mF ⟨[0, 1, 4, 5, 18], [none, none, none, none, none, none, none], false, (some [(Sh.sl (Sh.int .u8)), (Sh.sl (Sh.int .u8))]), (some Sh.bool)⟩ 9 = some k211 := by kernel_rfl
theorem lk212 : compF Go.Proofs.Try.prog mF ⟨[0, 1], [none, none, none, none], false, (some []), (some Sh.bool)⟩ 10 = some k212 := by kernel_rfl
theorem lk213 : compF Go.Proofs.Try.prog mF ⟨[0, 2, 3, 4, 5, 6, 7, 20, 30, 31], [none, none, none, none, (some ⟨0, [(3, (Sh.sl (Sh.int .u8)))], false, [2, 3, 4, 5], []⟩), none, (some ⟨0, [], false, [2, 4], []⟩), none, none, none, none, (some ⟨1, [], false, [2, 4, 6, 30], []⟩), none, (some ⟨0, [], false, [2, 6], []⟩), none, none, none, none, none], false, (some [(Sh.sl (Sh.sl (Sh.int .u8)))]), (some (Sh.ar .u8))⟩ 11 = some k213 := by kernel_rfl
theorem lk214 : compF Go.Proofs.Try.prog mF ⟨[0, 2, 3, 4, 5, 6, 7, 8, 9, 21, 25, 40], [none, none, none, none, (some ⟨0, [], false, [2, 3, 4, 5], []⟩), none, (some ⟨0, [], false, [2, 4], []⟩), none, none, (some ⟨1, [], false, [2, 3, 4, 5, 6, 7], []⟩), none, (some ⟨0, [], false, [2, 3, 4, 5, 6], []⟩), none, none, none, none, none, none, (some ⟨2, [], false, [2, 4, 8, 9], []⟩), none, (some ⟨0, [], false, [2, 8], []⟩), none, none, none, none], false, (some [(Sh.sl (Sh.int .u8))]), (some (Sh.ar .u8))⟩ 12 = some k214 := by kernel_rfl
theorem lk215 : compF Go.Proofs.Try.prog mF ⟨[0, 1, 2, 3, 4], [none, none, none], false, (some [(Sh.ar .u32), (Sh.ar .u8)]), (some (Sh.ar .u32))⟩ 13 = some k215 := by kernel_rfl
theorem lk216 : compF Go.Proofs.Try.prog mF ⟨[0, 1, 2, 3, 4, 5, 6, 7, 8, 9, 10, 11, 12, 14, 18, 76, 149], [none, none, none, (some ⟨0, [], false, [2, 3, 4, 5, 6], []⟩), none, (some ⟨0, [], false, [2, 4, 5], []⟩), none, none, none, none, none, none, none, (some ⟨1, [], false, [2, 4, 5, 7, 8, 9], []⟩), none, (some ⟨0, [], false, [2, 4, 8], []⟩), none, none, none, none, none, (some ⟨2, [], false, [2, 4, 8, 12], []⟩), none, (some ⟨0, [], false, [4, 8], []⟩), none, none, none, none], false, (some [(Sh.ar .u32), (Sh.ar .u8)]), (some (Sh.ar .u32))⟩ 14 = some k216 := by kernel_rfl
theorem lk217 : compF Go.Proofs.Try.prog mF ⟨[0, 2, 3, 4, 5], [none, none, none, none, none, none], false, (some [(Sh.int .u64)]), (some (Sh.sl (Sh.int .u8)))⟩ 16 = some k217 := by kernel_rfl
theorem lk218 : compF Go.Proofs.Try.prog mF ⟨[0, 2], [none, none, none], false, (some [(Sh.int .u64)]), (some (Sh.sl (Sh.int .u8)))⟩ 17 = some k218 := by kernel_rfl
theorem lk219 : compF Go.Proofs.Try.prog mF ⟨[0], [none, none, none], false, (some []), (some (Sh.ar .u32))⟩ 18 = some k219 := by kernel_rfl
theorem lk220 : compF Go.Proofs.Try.prog mF ⟨[0], [none, none, none], false, (some []), (some (Sh.ar .u32))⟩ 19 = some k220 := by kernel_rfl
theorem lk221 : compF Go.Proofs.Try.prog mF ⟨[0, 1], [none, none, none, none], false, (some []), (some Sh.bool)⟩ 20 = some k221 := by kernel_rfl
theorem lk222 : compF Go.Proofs.Try.prog mF ⟨[0, 1, 4, 5, 6], [none, none, none, none, none], false, (some [(Sh.sl (Sh.int .u8)), (Sh.sl (Sh.int .u8))]), (some (Sh.ar .u8))⟩ 21 = some k222 := by kernel_rfl
theorem lk223 : compF Go.Proofs.Try.prog mF ⟨[0, 1, 4, 5], [none, none, none, none], false, (some [(Sh.sl (Sh.int .u8)), (Sh.sl (Sh.sl (Sh.int .u8)))]), (some (Sh.ar .u8))⟩ 22 = some k223 := by kernel_rfl
theorem lk224 : compF Go.Proofs.Try.prog mF ⟨[0, 2, 3, 4, 7], [none, none, none, none, none, none, none, none], false, (some [(Sh.sl (Sh.int .u8))]), (some (Sh.ar .u8))⟩ 23 = some k224 := by kernel_rfl
theorem lk225 : compF Go.Proofs.Try.prog mF ⟨[0, 2, 3, 4, 5, 8, 15], [none, none, none, none, none, none, (some ⟨0, [(0, (Sh.sl (Sh.int .u8)))], false, [0, 2, 4, 5], []⟩), none, (some ⟨0, [], false, [2, 4], []⟩), none, none, none, none], false, (some [(Sh.sl (Sh.int .u8))]), (some (Sh.ar .u8))⟩ 24 = some k225 := by kernel_rfl
theorem lk226 : compF Go.Proofs.Try.prog mF ⟨[0, 1, 2, 6, 7], [none, none, none, none], false, (some [(Sh.sl (Sh.int .u8)), (Sh.sl (Sh.int .u8)), (Sh.sl (Sh.sl (Sh.int .u8)))]), (some Sh.bool)⟩ 25 = some k226 := by kernel_rfl
theorem lk227 : compF Go.Proofs.Try.prog mF ⟨[0, 1, 4, 5, 6, 7, 10, 11, 12], [none, none, none, none, (some ⟨0, [(6, (Sh.sl (Sh.int .u8)))], false, [0, 5, 6, 10, 11], [(5, (.imm []), 1)]⟩), none, (some ⟨0, [], false, [5], []⟩), none, none, (some ⟨0, [(6, (Sh.sl (Sh.int .u8)))], true, [], []⟩), none, none, none], false, (some [(Sh.sl (Sh.int .u8)), (Sh.int .i64)]), (some (Sh.sl (Sh.sl (Sh.int .u8))))⟩ 26 = some k227 := by kernel_rfl
theorem lk228 : compF Go.Proofs.Try.prog mF ⟨[0, 1, 4, 5, 6, 7, 8, 15], [none, none, none, none, (some ⟨0, [(6, (Sh.sl (Sh.int .u8)))], false, [0, 1, 5, 6, 7], [(5, (.imm []), 1)]⟩), none, (some ⟨0, [], false, [5], []⟩), none, none, (some ⟨0, [(6, (Sh.sl (Sh.int .u8)))], true, [], []⟩), none, none, none], false, (some [(Sh.sl (Sh.int .u8)), (Sh.int .i64)]), (some (Sh.sl (Sh.sl (Sh.int .u8))))⟩ 27 = some k228 := by kernel_rfl
theorem lk229 : compF Go.Proofs.Try.prog mF ⟨[0, 1, 2, 3, 4, 6, 7, 8, 9, 10, 13, 14, 15, 27, 28], [none, none, none, (some ⟨0, [], false, [2, 3, 6, 7, 13, 14], []⟩), none, (some ⟨0, [], false, [3, 6, 7], []⟩), none, none, none, none, (some ⟨1, [], false, [3, 6, 7, 27], []⟩), none, (some ⟨0, [], false, [6, 7], []⟩), none, none, none, none, none], false, (some [(Sh.ar .u32), (Sh.ar .u8), (Sh.sl (Sh.int .u32))]), (some (Sh.ar .u32))⟩ 30 = some k229 := by kernel_rfl
theorem lk230 : compF Go.Proofs.Try.prog mF ⟨[0, 1, 2, 3, 8], [none, none, none], false, (some [(Sh.int .u32), (Sh.int .i64), (Sh.int .i64), (Sh.int .i64)]), (some (Sh.int .u32))⟩ 31 = some k230 := by kernel_rfl
theorem lk231 : compF Go.Proofs.Try.prog mF ⟨[0], [none, none, none], false, (some []), (some (Sh.sl (Sh.int .u32)))⟩ 32 = some k231 := by kernel_rfl
theorem lk232 : compF Go.Proofs.Try.prog mF ⟨[0, 1, 2, 3, 8], [none, none, none], false, (some [(Sh.int .u32), (Sh.int .i64), (Sh.int .i64), (Sh.int .i64)]), (some (Sh.int .u32))⟩ 33 = some k232 := by kernel_rfl
theorem lk233 : compF Go.Proofs.Try.prog mF ⟨[0, 1, 2, 4, 5, 6, 8], [none, none, none, (some ⟨0, [], false, [1, 2, 5, 6], [(5, (.ints .u8 []), 1)]⟩), none, (some ⟨0, [], false, [5], []⟩), none, none, none, none], false, (some [(Sh.ar .u8), (Sh.int .u8)]), none⟩ 36 = some k233 := by kernel_rfl
theorem lk234 : compF Go.Proofs.Try.prog mF ⟨[0, 1, 4, 5, 6, 9, 10], [none, none, none, (some ⟨0, [], false, [1, 5, 9], []⟩), none, (some ⟨0, [], false, [5], []⟩), none, none, none, none, none], false, (some [(Sh.sl (Sh.int .u8)), (Sh.int .u8)]), (some (Sh.sl (Sh.int .u8)))⟩ 37 = some k234 := by kernel_rfl
theorem lk235 : compF Go.Proofs.Try.prog mF ⟨[0, 1, 2, 3, 4, 5, 7, 8, 11], [none, none, none, (some ⟨0, [], false, [1, 2, 3, 7], []⟩), none, (some ⟨0, [], false, [2, 3], []⟩), none, none, none, none, (some ⟨0, [], false, [1, 2, 3, 7], []⟩), none, none, none, none], false, (some [(Sh.ar .u8)]), (some (Sh.ar .u32))⟩ 42 = some k235 := by kernel_rfl
theorem lk236 : compF Go.Proofs.Try.prog mF ⟨[0, 1, 2, 4, 5, 6, 7, 8, 9, 10, 11, 12], [none, none, none, none, none, none], false, (some [(Sh.ar .u32), (Sh.int .u32)]), (some (Sh.ar .u32))⟩ 43 = some k236 := by kernel_rfl
theorem lk237 : compF Go.Proofs.Try.prog mF ⟨[0, 1, 4], [none, none, none], false, (some [(Sh.int .u32), (Sh.int .i64)]), (some (Sh.int .u32))⟩ 44 = some k237 := by kernel_rfl
theorem lk238 : compF Go.Proofs.Try.prog mF ⟨[0, 1, 2, 4], [none, none, none], false, (some [(Sh.ar .i64), (Sh.int .u32)]), (some (Sh.int .u32))⟩ 50 = some k238 := by kernel_rfl
theorem lk239 : compF Go.Proofs.Try.prog mF ⟨[0, 1, 2, 4], [none, none, none], false, (some [(Sh.ar .i64), (Sh.int .u32)]), (some (Sh.int .u32))⟩ 51 = some k239 := by kernel_rfl
theorem mF_mem {f g : Nat} (h : mF f = some g) : (f, g) ∈ mT := by
  simp only [mF, Option.map_eq_some_iff] at h
  obtain ⟨p, h1, h2⟩ := h
  have h3 := List.mem_of_find?_eq_some h1
  have h4 := List.find?_some h1
  have h5 : p.1 = f := by simpa using h4
  rw [← h5, ← h2]; exact h3
theorem link : Link Go.Proofs.Try.prog mF FT := by
  intro f g fn hm hF
  have h := mF_mem hm
  simp only [mT, List.mem_cons, Prod.mk.injEq, List.not_mem_nil, or_false] at h
  rcases h with ⟨rfl, rfl⟩ | ⟨rfl, rfl⟩ | ⟨rfl, rfl⟩ | ⟨rfl, rfl⟩ | ⟨rfl, rfl⟩ | ⟨rfl, rfl⟩ | ⟨rfl, rfl⟩ | ⟨rfl, rfl⟩ | ⟨rfl, rfl⟩ | ⟨rfl, rfl⟩ | ⟨rfl, rfl⟩ | ⟨rfl, rfl⟩ | ⟨rfl, rfl⟩ | ⟨rfl, rfl⟩ | ⟨rfl, rfl⟩ | ⟨rfl, rfl⟩ | ⟨rfl, rfl⟩ | ⟨rfl, rfl⟩ | ⟨rfl, rfl⟩ | ⟨rfl, rfl⟩ | ⟨rfl, rfl⟩ | ⟨rfl, rfl⟩ | ⟨rfl, rfl⟩ | ⟨rfl, rfl⟩ | ⟨rfl, rfl⟩ | ⟨rfl, rfl⟩ | ⟨rfl, rfl⟩ | ⟨rfl, rfl⟩ | ⟨rfl, rfl⟩ | ⟨rfl, rfl⟩ | ⟨rfl, rfl⟩ | ⟨rfl, rfl⟩ | ⟨rfl, rfl⟩ | ⟨rfl, rfl⟩ | ⟨rfl, rfl⟩ | ⟨rfl, rfl⟩ | ⟨rfl, rfl⟩ | ⟨rfl, rfl⟩ | ⟨rfl, rfl⟩ | ⟨rfl, rfl⟩ | ⟨rfl, rfl⟩ | ⟨rfl, rfl⟩ | ⟨rfl, rfl⟩ | ⟨rfl, rfl⟩ | ⟨rfl, rfl⟩ | ⟨rfl, rfl⟩ | ⟨rfl, rfl⟩ | ⟨rfl, rfl⟩ | ⟨rfl, rfl⟩ | ⟨rfl, rfl⟩ | ⟨rfl, rfl⟩ | ⟨rfl, rfl⟩ | ⟨rfl, rfl⟩ | ⟨rfl, rfl⟩ | ⟨rfl, rfl⟩ | ⟨rfl, rfl⟩
  · injection hF with hF; subst hF; exact compF_ok lk1
  · injection hF with hF; subst hF; exact compF_ok lk19
  · injection hF with hF; subst hF; exact compF_ok lk21
  · injection hF with hF; subst hF; exact compF_ok lk23
  · injection hF with hF; subst hF; exact compF_ok lk46
  · injection hF with hF; subst hF; exact compF_ok lk47
  · injection hF with hF; subst hF; exact compF_ok lk48
  · injection hF with hF; subst hF; exact compF_ok lk64
  · injection hF with hF; subst hF; exact compF_ok lk75
  · injection hF with hF; subst hF; exact compF_ok lk78
  · injection hF with hF; subst hF; exact compF_ok lk81
  · injection hF with hF; subst hF; exact compF_ok lk83
  · injection hF with hF; subst hF; exact compF_ok lk100
  · injection hF with hF; subst hF; exact compF_ok lk101
  · injection hF with hF; subst hF; exact compF_ok lk114
  · injection hF with hF; subst hF; exact compF_ok lk115
  · injection hF with hF; subst hF; exact compF_ok lk116
  · injection hF with hF; subst hF; exact compF_ok lk120
  · injection hF with hF; subst hF; exact compF_ok lk177
  · injection hF with hF; subst hF; exact compF_ok lk186
  · injection hF with hF; subst hF; exact compF_ok lk195
  · injection hF with hF; subst hF; exact compF_ok lk205
  · injection hF with hF; subst hF; exact compF_ok lk206
  · injection hF with hF; subst hF; exact compF_ok lk207
  · injection hF with hF; subst hF; exact compF_ok lk208
  · injection hF with hF; subst hF; exact compF_ok lk209
  · injection hF with hF; subst hF; exact compF_ok lk210
  · injection hF with hF; subst hF; exact compF_ok lk211
  · injection hF with hF; subst hF; exact compF_ok lk212
  · injection hF with hF; subst hF; exact compF_ok lk213
  · injection hF with hF; subst hF; exact compF_ok lk214
  · injection hF with hF; subst hF; exact compF_ok lk215
  · injection hF with hF; subst hF; exact compF_ok lk216
  · injection hF with hF; subst hF; exact compF_ok lk217
  · injection hF with hF; subst hF; exact compF_ok lk218
  · injection hF with hF; subst hF; exact compF_ok lk219
  · injection hF with hF; subst hF; exact compF_ok lk220
  · injection hF with hF; subst hF; exact compF_ok lk221
  · injection hF with hF; subst hF; exact compF_ok lk222
  · injection hF with hF; subst hF; exact compF_ok lk223
  · injection hF with hF; subst hF; exact compF_ok lk224
  · injection hF with hF; subst hF; exact compF_ok lk225
  · injection hF with hF; subst hF; exact compF_ok lk226
  · injection hF with hF; subst hF; exact compF_ok lk227
  · injection hF with hF; subst hF; exact compF_ok lk228
  · injection hF with hF; subst hF; exact compF_ok lk229
  · injection hF with hF; subst hF; exact compF_ok lk230
  · injection hF with hF; subst hF; exact compF_ok lk231
  · injection hF with hF; subst hF; exact compF_ok lk232
  · injection hF with hF; subst hF; exact compF_ok lk233
  · injection hF with hF; subst hF; exact compF_ok lk234
  · injection hF with hF; subst hF; exact compF_ok lk235
  · injection hF with hF; subst hF; exact compF_ok lk236
  · injection hF with hF; subst hF; exact compF_ok lk237
  · injection hF with hF; subst hF; exact compF_ok lk238
  · injection hF with hF; subst hF; exact compF_ok lk239
end Go.Proofs.YthljmhlpbakahaaE
