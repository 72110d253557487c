/- The evaluator's functions are the program's. -/
import Derived.Test.YtjgaemdfaknemaaEvFB
import Derived.Test.YtjgaemdfaknemaaChecked
import Derived.KernelRfl
namespace Go.Proofs.YtjgaemdfaknemaaE
open Go
set_option linter.unusedVariables false
set_option linter.unusedSimpArgs false
def mT : List (Nat × Nat) := [(46, 1), (35, 19), (42, 21), (11, 23), (36, 46), (45, 48), (49, 64), (43, 75), (47, 100), (48, 101), (50, 114), (51, 115), (52, 116), (53, 120), (3, 168), (4, 169), (5, 170), (6, 171), (7, 172), (8, 173), (9, 174), (10, 175), (12, 176), (13, 177), (14, 178), (15, 179), (16, 180), (17, 181), (18, 182), (19, 183), (20, 184), (21, 185), (22, 186), (23, 187), (24, 188), (25, 189), (26, 190), (27, 191), (28, 192), (29, 193), (30, 194), (31, 195), (32, 196), (33, 197), (34, 198), (37, 199), (38, 200), (39, 201), (40, 202), (41, 203), (44, 204)]
def mF : Nat → Option Nat := fun f => (mT.find? (·.1 == f)).map (·.2)
theorem lk1 : compF Go.Proofs.Try.prog mF ⟨[0, 2, 3, 5, 6, 8, 9, 10, 11, 12, 20, 25, 26, 27, 28], [none, none, none, (some ⟨0, [], false, [0, 3, 9, 10, 11], []⟩), none, (some ⟨0, [], false, [0, 3], []⟩), none, none, none, none, none, none, none, (some ⟨1, [], false, [6, 25, 26, 27], []⟩), none, (some ⟨0, [], false, [6], []⟩), none, none, none, none, none], false, (some [(Sh.sl (Sh.sl (Sh.int .u8)))]), none⟩ 46 = some k1 := by kernel_rfl
theorem lk19 : compF Go.Proofs.Try.prog mF ⟨[0, 1, 2, 6, 7, 8, 9, 15, 19, 20, 21, 33], [none, none, none, none, none, none, (some ⟨0, [], false, [0, 2, 8, 19, 20], []⟩), none, (some ⟨0, [], false, [2, 8], []⟩), none, none, none, none, none, none, none], false, (some [(Sh.int .u64), (Sh.int .i64), Sh.bool]), (some (Sh.tu (Sh.pr (Sh.sl (Sh.int .u8)) (Sh.int .i64))))⟩ 35 = some k19 := by kernel_rfl
theorem lk21 : compF Go.Proofs.Try.prog mF ⟨[0, 1, 4, 5, 6, 7, 8, 16, 17, 18, 19, 20, 24], [none, none, none, none, none, none, (some ⟨0, [], false, [1, 6, 17, 18, 19], []⟩), none, (some ⟨0, [], false, [6], []⟩), none, none, none, none, none, none, none], false, (some [(Sh.sl (Sh.int .u8)), Sh.bool]), (some (Sh.tu (Sh.pr (Sh.int .u64) (Sh.int .i64))))⟩ 42 = some k21 := by kernel_rfl
theorem lk23 : compF Go.Proofs.Try.prog mF ⟨[0, 1, 4, 5, 10, 14, 25], [none, none, none, none, none, (some ⟨0, [], false, [0, 1, 5], []⟩), none, (some ⟨0, [], false, [], []⟩), none, none, none, none, none, none], false, (some [(Sh.sl (Sh.int .u8)), (Sh.sl (Sh.int .u8))]), (some Sh.bool)⟩ 11 = some k23 := by kernel_rfl
theorem lk46 : compF Go.Proofs.Try.prog mF ⟨[0, 2], [none, none, none], false, (some [(Sh.sl (Sh.sl (Sh.int .u8)))]), none⟩ 36 = some k46 := by kernel_rfl
theorem lk48 : compF Go.Proofs.Try.prog mF ⟨[0, 2, 3, 9], [none, (some ⟨0, [], false, [0, 2, 3], []⟩), none, (some ⟨0, [], false, [], []⟩), none, none], true, none, none⟩ 45 = some k48 := by kernel_rfl
theorem lk64 : compF Go.Proofs.Try.prog mF ⟨[0, 1, 4, 6, 16], [none, none, none, none, none, none, none, (some ⟨0, [], true, [], [(4, (.ints .u8 []), 1)]⟩)], false, none, none⟩ 49 = some k64 := by kernel_rfl
theorem lk75 : compF Go.Proofs.Try.prog mF ⟨[0, 1, 2, 6, 7, 12], [none, none, none, none, none, none], false, (some [(Sh.int .i64), (Sh.int .i64), (Sh.int .i64)]), (some (Sh.tu (Sh.pr (Sh.int .u64) (Sh.int .i64))))⟩ 43 = some k75 := by kernel_rfl
theorem lk100 : compF Go.Proofs.Try.prog mF ⟨[0, 1, 2, 6], [none, none, none], false, (some [(Sh.int .i64), (Sh.int .i64), (Sh.int .i64)]), (some Sh.bool)⟩ 47 = some k100 := by kernel_rfl
theorem lk101 : compF Go.Proofs.Try.prog mF ⟨[0, 1, 2, 3, 4], [none, none, none], false, (some [(Sh.int .i64), (Sh.int .i64)]), (some (Sh.int .u64))⟩ 48 = some k101 := by kernel_rfl
theorem lk114 : compF Go.Proofs.Try.prog mF ⟨[0, 1, 4, 5, 6, 7, 11, 21], [none, none, (some ⟨0, [], false, [1, 5, 6], []⟩), none, (some ⟨0, [], false, [5], []⟩), none, none, none, none, none, none], false, none, none⟩ 50 = some k114 := by kernel_rfl
theorem lk115 : compF Go.Proofs.Try.prog mF ⟨[0, 1, 2, 4], [none, none, none], false, none, none⟩ 51 = some k115 := by kernel_rfl
theorem lk116 : compF Go.Proofs.Try.prog mF ⟨[0, 1, 2, 6, 7, 8, 9, 10, 11, 19], [none, none, none, none, none, none, none, none, none], false, (some [(Sh.int .u64), (Sh.int .u64), (Sh.int .i64)]), (some Sh.bool)⟩ 52 = some k116 := by kernel_rfl
theorem lk120 : compF Go.Proofs.Try.prog mF ⟨[0, 1, 4, 5, 6, 7, 8, 9, 10, 11, 12, 13], [none, none, none, none, none, none, none, none, none, none, none, none, none], false, (some [(Sh.int .u64), (Sh.int .u64)]), (some (Sh.tu (Sh.pr (Sh.int .u64) (Sh.int .u64))))⟩ 53 = some k120 := by kernel_rfl
theorem lk168 : compF Go.Proofs.Try.prog mF ⟨[0, 1, 2, 3, 4, 6], [none, none, none], false, (some [(Sh.ar .u32), (Sh.ar .u8), (Sh.int .u64)]), (some Sh.bool)⟩ 3 = some k168 := by kernel_rfl
theorem lk169 : compF Go.Proofs.Try.prog mF ⟨[0, 2, 5], [none, none, none, none, none, none], false, (some [(Sh.sl (Sh.int .u8))]), (some Sh.bool)⟩ 4 = some k169 := by kernel_rfl
theorem lk170 : compF Go.Proofs.Try.prog mF ⟨[0, 2, 3, 5, 6, 7, 8, 9, 10, 13, 15, 16, 17, 18, 23, 55, 63], [none, none, none, none, none, none, (some ⟨0, [], false, [0, 3, 15, 16, 17], [(3, (.ints .u8 []), 1)]⟩), none, (some ⟨0, [], false, [0, 3], []⟩), none, none, none, none, none, none, none, none, none, none, none, none, none, (some ⟨1, [(9, (Sh.sl (Sh.int .u8)))], false, [0, 3, 8, 9], []⟩), none, (some ⟨0, [], false, [0, 3, 8], []⟩), none, none, none, none, none], false, (some [(Sh.sl (Sh.sl (Sh.int .u8)))]), (some Sh.bool)⟩ 5 = some k170 := by kernel_rfl
theorem lk171 : compF Go.Proofs.Try.prog mF ⟨[0, 1, 2, 3, 4, 6], [none, none, none], false, (some [(Sh.ar .u32), (Sh.ar .u8), (Sh.int .u64)]), (some Sh.bool)⟩ 6 = some k171 := by kernel_rfl
theorem lk172 : compF Go.Proofs.Try.prog mF ⟨[0, 2, 5], [none, none, none, none, none, none], false, (some [(Sh.sl (Sh.int .u8))]), (some Sh.bool)⟩ 7 = some k172 := by kernel_rfl
theorem lk173 : compF Go.Proofs.Try.prog mF ⟨[0, 2, 3, 5, 6, 7, 8, 9, 10, 13, 15, 16, 17, 18, 23, 55, 63], [none, none, none, none, none, none, (some ⟨0, [], false, [0, 3, 15, 16, 17], [(3, (.ints .u8 []), 1)]⟩), none, (some ⟨0, [], false, [0, 3], []⟩), none, none, none, none, none, none, none, none, none, none, none, none, none, (some ⟨1, [(9, (Sh.sl (Sh.int .u8)))], false, [0, 3, 8, 9], []⟩), none, (some ⟨0, [], false, [0, 3, 8], []⟩), none, none, none, none, none], false, (some [(Sh.sl (Sh.sl (Sh.int .u8)))]), (some Sh.bool)⟩ 8 = some k173 := by kernel_rfl
theorem lk174 : compF Go.Proofs.Try.prog mF ⟨[0, 1, 2, 3, 4, 5, 6, 7, 8, 9, 10, 11, 12, 16, 17, 18, 22, 23, 24, 61, 62], [none, none, none, none, (some ⟨0, [], false, [2, 4, 5, 6, 16, 17], []⟩), none, (some ⟨0, [], false, [2, 4, 6], []⟩), none, none, (some ⟨1, [], false, [2, 4, 5, 6, 7, 8, 16, 17, 22, 23], []⟩), none, (some ⟨0, [], false, [2, 4, 5, 6, 16, 17], []⟩), none, none, none, none, none, none, (some ⟨2, [], false, [2, 4, 6, 61], []⟩), none, (some ⟨0, [], false, [4, 6], []⟩), none, none, none, none, none], false, (some [(Sh.ar .u32), (Sh.ar .u8)]), (some (Sh.ar .u32))⟩ 9 = some k174 := by kernel_rfl
theorem lk175 : compF Go.Proofs.Try.prog mF ⟨[0, 1, 2, 3, 4, 5, 6, 7, 8, 9, 10, 11, 18, 82], [none, none, none, none, (some ⟨0, [(5, (Sh.sl (Sh.sl (Sh.int .i64))))], false, [2, 3, 4, 5, 6, 7], []⟩), none, (some ⟨0, [], false, [2, 4, 6], []⟩), none, none, none, none, none, none, (some ⟨1, [], false, [2, 4, 6, 11], []⟩), none, (some ⟨0, [], false, [4, 6], []⟩), none, none, none, none], false, (some [(Sh.ar .u32), (Sh.ar .u8)]), (some (Sh.ar .u32))⟩ 10 = some k175 := by kernel_rfl
theorem lk176 : compF Go.Proofs.Try.prog mF ⟨[0, 2, 3, 4, 5], [none, none, none, none, none, none], false, (some [(Sh.int .u64)]), (some (Sh.sl (Sh.int .u8)))⟩ 12 = some k176 := by kernel_rfl
theorem lk177 : compF Go.Proofs.Try.prog mF ⟨[0, 2, 3, 4, 5, 13, 20], [none, none, (some ⟨0, [], false, [0, 3], [(3, (.imm []), 1)]⟩), none, (some ⟨0, [], false, [0, 3], []⟩), none, none, none, (some ⟨1, [], false, [3, 4, 5], []⟩), none, (some ⟨0, [], false, [3], []⟩), none, none, none, none, none], false, (some [(Sh.int .u64)]), (some (Sh.sl (Sh.int .u8)))⟩ 13 = some k177 := by kernel_rfl
theorem lk178 : compF Go.Proofs.Try.prog mF ⟨[0], [none, none, none], false, (some []), (some (Sh.ar .u32))⟩ 14 = some k178 := by kernel_rfl
theorem lk179 : compF Go.Proofs.Try.prog mF ⟨[0], [none, none, none], false, (some []), (some (Sh.ar .u32))⟩ 15 = some k179 := by kernel_rfl
theorem lk180 : compF Go.Proofs.Try.prog mF ⟨[0, 1], [none, none, none, none], false, (some []), (some Sh.bool)⟩ 16 = some k180 := by kernel_rfl
theorem lk181 : compF Go.Proofs.Try.prog mF ⟨[0, 2, 3, 4, 5, 6, 18, 27, 28], [none, none, none, none, (some ⟨0, [(3, (Sh.sl (Sh.int .u8)))], false, [2, 3, 4], []⟩), none, (some ⟨0, [], false, [2, 4], []⟩), none, none, none, none, (some ⟨1, [], false, [2, 4, 5, 27], []⟩), none, (some ⟨0, [], false, [2, 5], []⟩), none, none, none, none, none], false, (some [(Sh.sl (Sh.sl (Sh.int .u8)))]), (some (Sh.ar .u8))⟩ 17 = some k181 := by kernel_rfl
theorem lk182 : compF Go.Proofs.Try.prog mF ⟨[0, 2, 3, 4, 5, 6, 7, 8, 9, 21, 25, 40], [none, none, none, none, (some ⟨0, [], false, [2, 3, 4, 5], []⟩), none, (some ⟨0, [], false, [2, 4], []⟩), none, none, (some ⟨1, [], false, [2, 3, 4, 5, 6, 7], []⟩), none, (some ⟨0, [], false, [2, 3, 4, 5, 6], []⟩), none, none, none, none, none, none, (some ⟨2, [], false, [2, 4, 8, 9], []⟩), none, (some ⟨0, [], false, [2, 8], []⟩), none, none, none, none], false, (some [(Sh.sl (Sh.int .u8))]), (some (Sh.ar .u8))⟩ 18 = some k182 := by kernel_rfl
theorem lk183 : compF Go.Proofs.Try.prog mF ⟨[0, 1, 2, 3, 4, 5, 6, 7, 8, 9, 10, 11, 16, 17, 56, 57], [none, none, none, none, (some ⟨0, [], false, [2, 4, 5, 6, 7, 16], []⟩), none, (some ⟨0, [], false, [2, 4, 7], []⟩), none, none, none, none, none, none, (some ⟨1, [], false, [2, 4, 7, 56], []⟩), none, (some ⟨0, [], false, [4, 7], []⟩), none, none, none, none, none], false, (some [(Sh.ar .u32), (Sh.ar .u8)]), (some (Sh.ar .u32))⟩ 19 = some k183 := by kernel_rfl
theorem lk184 : compF Go.Proofs.Try.prog mF ⟨[0, 1, 2, 3, 4, 5, 6, 7, 8, 9, 10, 12, 16, 72, 106], [none, none, none, (some ⟨0, [], false, [2, 3, 4, 5, 6], []⟩), none, (some ⟨0, [], false, [2, 4, 5], []⟩), none, none, none, none, none, none, (some ⟨1, [], false, [2, 4, 5, 7, 8], []⟩), none, (some ⟨0, [], false, [2, 4, 7], []⟩), none, none, none, none, (some ⟨2, [], false, [2, 4, 7, 10], []⟩), none, (some ⟨0, [], false, [4, 7], []⟩), none, none, none, none], false, (some [(Sh.ar .u32), (Sh.ar .u8)]), (some (Sh.ar .u32))⟩ 20 = some k184 := by kernel_rfl
theorem lk185 : compF Go.Proofs.Try.prog mF ⟨[0, 2, 3, 4, 5], [none, none, none, none, none, none], false, (some [(Sh.int .u64)]), (some (Sh.sl (Sh.int .u8)))⟩ 21 = some k185 := by kernel_rfl
theorem lk186 : compF Go.Proofs.Try.prog mF ⟨[0, 2, 3, 4, 5, 6, 17], [none, none, none, none, none, (some ⟨0, [], false, [3, 4, 5, 6], []⟩), none, (some ⟨0, [], false, [5], []⟩), none, none, none, none], false, (some [(Sh.int .u64)]), (some (Sh.sl (Sh.int .u8)))⟩ 22 = some k186 := by kernel_rfl
theorem lk187 : compF Go.Proofs.Try.prog mF ⟨[0], [none, none, none], false, (some []), (some (Sh.ar .u32))⟩ 23 = some k187 := by kernel_rfl
theorem lk188 : compF Go.Proofs.Try.prog mF ⟨[0, 1], [none, none, none, none], false, (some []), (some (Sh.ar .u32))⟩ 24 = some k188 := by kernel_rfl
theorem lk189 : compF Go.Proofs.Try.prog mF ⟨[0, 1], [none, none, none, none], false, (some []), (some Sh.bool)⟩ 25 = some k189 := by kernel_rfl
theorem lk190 : compF Go.Proofs.Try.prog mF ⟨[0, 2, 3, 4, 5, 7, 8, 21, 30, 31, 32], [none, none, none, none, (some ⟨0, [(3, (Sh.sl (Sh.int .u8)))], false, [2, 3, 4], []⟩), none, (some ⟨0, [], false, [2, 4], []⟩), none, none, none, none, (some ⟨1, [], false, [2, 5, 30, 31], [(5, (.ints .u8 []), 1)]⟩), none, (some ⟨0, [], false, [2, 5], []⟩), none, none, none, none, none, none], false, (some [(Sh.sl (Sh.sl (Sh.int .u8)))]), (some (Sh.ar .u8))⟩ 26 = some k190 := by kernel_rfl
theorem lk191 : compF Go.Proofs.Try.prog mF ⟨[0, 2, 3, 4, 5, 6, 7, 8, 9, 21, 25, 40], [none, none, none, none, (some ⟨0, [], false, [2, 3, 4, 5], []⟩), none, (some ⟨0, [], false, [2, 4], []⟩), none, none, (some ⟨1, [], false, [2, 3, 4, 5, 6, 7], []⟩), none, (some ⟨0, [], false, [2, 3, 4, 5, 6], []⟩), none, none, none, none, none, none, (some ⟨2, [], false, [2, 4, 8, 9], []⟩), none, (some ⟨0, [], false, [2, 8], []⟩), none, none, none, none], false, (some [(Sh.sl (Sh.int .u8))]), (some (Sh.ar .u8))⟩ 27 = some k191 := by kernel_rfl
theorem lk192 : compF Go.Proofs.Try.prog mF ⟨[0, 1, 2, 3, 4, 5, 7, 8], [none, none, none, (some ⟨0, [], false, [1, 2, 3, 7], []⟩), none, (some ⟨0, [], false, [2, 3], []⟩), none, none, none, none, none, none], false, (some [(Sh.ar .u8)]), (some (Sh.ar .u32))⟩ 28 = some k192 := by kernel_rfl
theorem lk193 : compF Go.Proofs.Try.prog mF ⟨[0, 1, 3], [none, none, none, none, none], false, none, none⟩ 29 = some k193 := by kernel_rfl
theorem lk194 : compF Go.Proofs.Try.prog mF ⟨[0, 1, 2, 3, 8, 9, 10, 19], [none, none, none, none, none, none, none, none, none, none], false, (some [(Sh.int .i64), (Sh.int .u32), (Sh.int .u32), (Sh.int .u32)]), (some (Sh.int .u32))⟩ 30 = some k194 := by kernel_rfl
theorem lk195 : compF Go.Proofs.Try.prog mF ⟨[0, 1, 4, 5], [none, none, none, none], false, (some [(Sh.int .u32), (Sh.int .i64)]), (some (Sh.int .u32))⟩ 31 = some k195 := by kernel_rfl
theorem lk196 : compF Go.Proofs.Try.prog mF ⟨[0, 2, 4, 5, 8], [none, none, none, none, none, none, none, none, none, none], false, (some [(Sh.int .i64)]), (some (Sh.int .i64))⟩ 32 = some k196 := by kernel_rfl
theorem lk197 : compF Go.Proofs.Try.prog mF ⟨[0, 1, 4], [none, none, none], false, (some [(Sh.int .u32), (Sh.int .i64)]), (some (Sh.int .u32))⟩ 33 = some k197 := by kernel_rfl
theorem lk198 : compF Go.Proofs.Try.prog mF ⟨[0, 1, 2, 3, 8, 9, 10, 20], [none, none, none, none, none, none, none, none, none, none], false, (some [(Sh.int .i64), (Sh.int .u32), (Sh.int .u32), (Sh.int .u32)]), (some (Sh.int .u32))⟩ 34 = some k198 := by kernel_rfl
theorem lk199 : compF Go.Proofs.Try.prog mF ⟨[0, 1, 2, 3, 4, 5, 7, 8, 11], [none, none, none, (some ⟨0, [], false, [1, 2, 3, 7], []⟩), none, (some ⟨0, [], false, [2, 3], []⟩), none, none, none, none, (some ⟨0, [], false, [1, 2, 3, 7], []⟩), none, none, none, none], false, (some [(Sh.ar .u8)]), (some (Sh.ar .u32))⟩ 37 = some k199 := by kernel_rfl
theorem lk200 : compF Go.Proofs.Try.prog mF ⟨[0, 1, 2, 3, 4, 6, 7, 8], [none, none, none, (some ⟨0, [], false, [0, 1, 6, 7], []⟩), none, (some ⟨0, [], false, [0, 1], []⟩), none, none, none, none, none, none], false, (some []), (some (Sh.ar .u32))⟩ 38 = some k200 := by kernel_rfl
theorem lk201 : compF Go.Proofs.Try.prog mF ⟨[0, 1, 2, 3, 8, 9, 10, 19], [none, none, none, none, none, none, none, none, none, none], false, (some [(Sh.int .i64), (Sh.int .u32), (Sh.int .u32), (Sh.int .u32)]), (some (Sh.int .u32))⟩ 39 = some k201 := by kernel_rfl
theorem lk202 : compF Go.Proofs.Try.prog mF ⟨[0, 1, 4], [none, none, none], false, (some [(Sh.int .u32), (Sh.int .i64)]), (some (Sh.int .u32))⟩ 40 = some k202 := by kernel_rfl
theorem lk203 : compF Go.Proofs.Try.prog mF ⟨[0, 1, 2, 3, 8, 10, 11, 22, 30], [none, none, none, none, none, none, none, none, none, none, none, none, none], false, (some [(Sh.int .i64), (Sh.int .u32), (Sh.int .u32), (Sh.int .u32)]), (some (Sh.int .u32))⟩ 41 = some k203 := by kernel_rfl
theorem lk204 : compF Go.Proofs.Try.prog mF ⟨[0, 1, 2, 6], [none, none, none], false, (some [(Sh.int .u32), (Sh.int .u32), (Sh.int .u32)]), (some (Sh.int .u32))⟩ 44 = some k204 := by kernel_rfl
theorem mF_mem {f g : Nat} (h : mF f = some g) : (f, g) ∈ mT := by
  simp only [mF, Option.map_eq_some_iff] at h
  obtain ⟨p, h1, h2⟩ := h
  have h3 := List.mem_of_find?_eq_some h1
  have h4 := List.find?_some h1
  have h5 : p.1 = f := by simpa using h4
  rw [← h5, ← h2]; exact h3
theorem link : Link Go.Proofs.Try.prog mF FT := by
  intro f g fn hm hF
  have h := mF_mem hm
  simp only [mT, List.mem_cons, Prod.mk.injEq, List.not_mem_nil, or_false] at h
  rcases h with ⟨rfl, rfl⟩ | ⟨rfl, rfl⟩ | ⟨rfl, rfl⟩ | ⟨rfl, rfl⟩ | ⟨rfl, rfl⟩ | ⟨rfl, rfl⟩ | ⟨rfl, rfl⟩ | ⟨rfl, rfl⟩ | ⟨rfl, rfl⟩ | ⟨rfl, rfl⟩ | ⟨rfl, rfl⟩ | ⟨rfl, rfl⟩ | ⟨rfl, rfl⟩ | ⟨rfl, rfl⟩ | ⟨rfl, rfl⟩ | ⟨rfl, rfl⟩ | ⟨rfl, rfl⟩ | ⟨rfl, rfl⟩ | ⟨rfl, rfl⟩ | ⟨rfl, rfl⟩ | ⟨rfl, rfl⟩ | ⟨rfl, rfl⟩ | ⟨rfl, rfl⟩ | ⟨rfl, rfl⟩ | ⟨rfl, rfl⟩ | ⟨rfl, rfl⟩ | ⟨rfl, rfl⟩ | ⟨rfl, rfl⟩ | ⟨rfl, rfl⟩ | ⟨rfl, rfl⟩ | ⟨rfl, rfl⟩ | ⟨rfl, rfl⟩ | ⟨rfl, rfl⟩ | ⟨rfl, rfl⟩ | ⟨rfl, rfl⟩ | ⟨rfl, rfl⟩ | ⟨rfl, rfl⟩ | ⟨rfl, rfl⟩ | ⟨rfl, rfl⟩ | ⟨rfl, rfl⟩ | ⟨rfl, rfl⟩ | ⟨rfl, rfl⟩ | ⟨rfl, rfl⟩ | ⟨rfl, rfl⟩ | ⟨rfl, rfl⟩ | ⟨rfl, rfl⟩ | ⟨rfl, rfl⟩ | ⟨rfl, rfl⟩ | ⟨rfl, rfl⟩ | ⟨rfl, rfl⟩ | ⟨rfl, rfl⟩
  · injection hF with hF; subst hF; exact compF_ok lk1
  · injection hF with hF; subst hF; exact compF_ok lk19
  · injection hF with hF; subst hF; exact compF_ok lk21
  · injection hF with hF; subst hF; exact compF_ok lk23
  · injection hF with hF; subst hF; exact compF_ok lk46
  · injection hF with hF; subst hF; exact compF_ok lk48
  · injection hF with hF; subst hF; exact compF_ok lk64
  · injection hF with hF; subst hF; exact compF_ok lk75
  · injection hF with hF; subst hF; exact compF_ok lk100
  · injection hF with hF; subst hF; exact compF_ok lk101
  · injection hF with hF; subst hF; exact compF_ok lk114
  · injection hF with hF; subst hF; exact compF_ok lk115
  · injection hF with hF; subst hF; exact compF_ok lk116
  · injection hF with hF; subst hF; exact compF_ok lk120
  · injection hF with hF; subst hF; exact compF_ok lk168
  · injection hF with hF; subst hF; exact compF_ok lk169
  · injection hF with hF; subst hF; exact compF_ok lk170
  · injection hF with hF; subst hF; exact compF_ok lk171
  · injection hF with hF; subst hF; exact compF_ok lk172
  · injection hF with hF; subst hF; exact compF_ok lk173
  · injection hF with hF; subst hF; exact compF_ok lk174
  · injection hF with hF; subst hF; exact compF_ok lk175
  · injection hF with hF; subst hF; exact compF_ok lk176
  · injection hF with hF; subst hF; exact compF_ok lk177
  · injection hF with hF; subst hF; exact compF_ok lk178
  · injection hF with hF; subst hF; exact compF_ok lk179
  · injection hF with hF; subst hF; exact compF_ok lk180
  · injection hF with hF; subst hF; exact compF_ok lk181
  · injection hF with hF; subst hF; exact compF_ok lk182
  · injection hF with hF; subst hF; exact compF_ok lk183
  · injection hF with hF; subst hF; exact compF_ok lk184
  · injection hF with hF; subst hF; exact compF_ok lk185
  · injection hF with hF; subst hF; exact compF_ok lk186
  · injection hF with hF; subst hF; exact compF_ok lk187
  · injection hF with hF; subst hF; exact compF_ok lk188
  · injection hF with hF; subst hF; exact compF_ok lk189
  · injection hF with hF; subst hF; exact compF_ok lk190
  · injection hF with hF; subst hF; exact compF_ok lk191
  · injection hF with hF; subst hF; exact compF_ok lk192
  · injection hF with hF; subst hF; exact compF_ok lk193
  · injection hF with hF; subst hF; exact compF_ok lk194
  · injection hF with hF; subst hF; exact compF_ok lk195
  · injection hF with hF; subst hF; exact compF_ok lk196
  · injection hF with hF; subst hF; exact compF_ok lk197
  · injection hF with hF; subst hF; exact compF_ok lk198
  · injection hF with hF; subst hF; exact compF_ok lk199
  · injection hF with hF; subst hF; exact compF_ok lk200
  · injection hF with hF; subst hF; exact compF_ok lk201
  · injection hF with hF; subst hF; exact compF_ok lk202
  · injection hF with hF; subst hF; exact compF_ok lk203
  · injection hF with hF; subst hF; exact compF_ok lk204
end Go.Proofs.YtjgaemdfaknemaaE
