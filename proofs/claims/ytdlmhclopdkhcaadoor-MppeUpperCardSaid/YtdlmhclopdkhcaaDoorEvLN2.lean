/- The evaluator's functions are the program's. -/
import Derived.Test.YtdlmhclopdkhcaaDoorEvFN2
import Derived.Test.YtdlmhclopdkhcaaDoorChecked
import Derived.KernelRfl
namespace Go.Proofs.YtdlmhclopdkhcaaDoorE
open Go
set_option linter.unusedVariables false
set_option linter.unusedSimpArgs false
abbrev nn (n : Nat) : List (Option Trim) := List.replicate n none
def mT : List (Nat × Nat) := [(51, 1), (37, 19), (73, 21), (34, 46), (54, 48), (71, 64), (74, 75), (81, 100), (82, 101), (84, 114), (85, 115), (86, 116), (78, 120), (40, 174), (45, 175), (38, 176), (43, 177), (39, 178), (44, 179), (28, 181), (30, 182), (48, 183), (70, 184), (46, 185), (68, 186), (47, 187), (69, 188), (31, 190), (50, 191), (55, 192), (56, 193), (57, 194), (58, 195), (60, 196), (61, 197), (62, 198), (63, 199), (64, 200), (65, 201), (79, 202), (80, 203), (76, 204), (5, 366), (6, 367), (7, 368), (9, 370), (11, 372), (12, 373), (18, 378), (19, 379), (20, 380), (21, 381), (22, 382), (23, 383), (24, 384), (25, 385), (26, 386), (27, 387), (32, 389), (33, 390), (35, 391), (36, 392), (49, 395), (52, 396), (53, 397), (66, 399), (67, 400), (72, 401), (77, 403)]
def mF : Nat → Option Nat := fun f => (mT.find? (·.1 == f)).map (·.2)
theorem lk1 : compF Go.Proofs.Tryd.prog mF ⟨[0, 2, 3, 5, 6, 8, 9, 10, 11, 12, 20, 25, 26, 27, 28], (nn 3 ++ [(some ⟨0, [], false, [0, 3, 9, 10, 11], []⟩), none, (some ⟨0, [], false, [0, 3], []⟩)] ++ nn 7 ++ [(some ⟨1, [], false, [6, 25, 26, 27], []⟩), none, (some ⟨0, [], false, [6], []⟩)] ++ nn 5), false, (some [(Sh.sl (Sh.sl (Sh.int .u8)))]), none, false⟩ 51 = some k1 := by kernel_rfl
theorem lk19 : compF Go.Proofs.Tryd.prog mF ⟨[0, 1, 2, 6, 7, 8, 9, 15, 19, 20, 21, 33], (nn 6 ++ [(some ⟨0, [], false, [0, 2, 8, 19, 20], []⟩), none, (some ⟨0, [], false, [2, 8], []⟩)] ++ nn 7), false, (some [(Sh.int .u64), (Sh.int .i64), Sh.bool]), (some (Sh.tu (Sh.pr (Sh.sl (Sh.int .u8)) (Sh.int .i64)))), false⟩ 37 = some k19 := by kernel_rfl
theorem lk21 : compF Go.Proofs.Tryd.prog mF ⟨[0, 1, 4, 5, 6, 7, 8, 16, 17, 18, 19, 20, 24], (nn 6 ++ [(some ⟨0, [], false, [1, 6, 17, 18, 19], []⟩), none, (some ⟨0, [], false, [6], []⟩)] ++ nn 7), false, (some [(Sh.sl (Sh.int .u8)), Sh.bool]), (some (Sh.tu (Sh.pr (Sh.int .u64) (Sh.int .i64)))), false⟩ 73 = some k21 := by kernel_rfl
theorem lk46 : compF Go.Proofs.Tryd.prog mF ⟨[0, 2], (nn 3), false, (some [(Sh.sl (Sh.sl (Sh.int .u8)))]), none, false⟩ 34 = some k46 := by kernel_rfl
theorem lk48 : compF Go.Proofs.Tryd.prog mF ⟨[0, 2, 3, 9], ([none, (some ⟨0, [], false, [0, 2, 3], []⟩), none, (some ⟨0, [], false, [], []⟩), none, none]), true, none, none, false⟩ 54 = some k48 := by kernel_rfl
theorem lk64 : compF Go.Proofs.Tryd.prog mF ⟨[0, 1, 4, 6, 16], (nn 7 ++ [(some ⟨0, [], true, [], [(4, (.ints .u8 []), 1)]⟩)]), false, none, none, false⟩ 71 = some k64 := by kernel_rfl
theorem lk75 : compF Go.Proofs.Tryd.prog mF ⟨[0, 1, 2, 6, 7, 12], (nn 6), false, (some [(Sh.int .i64), (Sh.int .i64), (Sh.int .i64)]), (some (Sh.tu (Sh.pr (Sh.int .u64) (Sh.int .i64)))), false⟩ 74 = some k75 := by kernel_rfl
theorem lk100 : compF Go.Proofs.Tryd.prog mF ⟨[0, 1, 2, 6], (nn 3), false, (some [(Sh.int .i64), (Sh.int .i64), (Sh.int .i64)]), (some Sh.bool), false⟩ 81 = some k100 := by kernel_rfl
theorem lk101 : compF Go.Proofs.Tryd.prog mF ⟨[0, 1, 2, 3, 4], (nn 3), false, (some [(Sh.int .i64), (Sh.int .i64)]), (some (Sh.int .u64)), false⟩ 82 = some k101 := by kernel_rfl
theorem lk114 : compF Go.Proofs.Tryd.prog mF ⟨[0, 1, 4, 5, 6, 7, 11, 21], ([none, none, (some ⟨0, [], false, [1, 5, 6], []⟩), none, (some ⟨0, [], false, [5], []⟩)] ++ nn 6), false, none, none, false⟩ 84 = some k114 := by kernel_rfl
theorem lk115 : compF Go.Proofs.Tryd.prog mF ⟨[0, 1, 2, 4], (nn 3), false, none, none, false⟩ 85 = some k115 := by kernel_rfl
theorem lk116 : compF Go.Proofs.Tryd.prog mF ⟨[0, 1, 2, 6, 7, 8, 9, 10, 11, 19], (nn 9), false, (some [(Sh.int .u64), (Sh.int .u64), (Sh.int .i64)]), (some Sh.bool), false⟩ 86 = some k116 := by kernel_rfl
theorem lk120 : compF Go.Proofs.Tryd.prog mF ⟨[0, 1, 4, 5, 6, 7, 8, 9, 10, 11, 12, 13], (nn 13), false, (some [(Sh.int .u64), (Sh.int .u64)]), (some (Sh.tu (Sh.pr (Sh.int .u64) (Sh.int .u64)))), false⟩ 78 = some k120 := by kernel_rfl
theorem lk174 : compF Go.Proofs.Tryd.prog mF ⟨[0, 1, 2, 3, 4, 5, 6, 7, 8, 9, 10, 11, 12, 16, 17, 18, 22, 23, 24, 61, 62], (nn 4 ++ [(some ⟨0, [], false, [2, 4, 5, 6, 16, 17], []⟩), none, (some ⟨0, [], false, [2, 4, 6], []⟩), none, none, (some ⟨1, [], false, [2, 4, 5, 6, 7, 8, 16, 17, 22, 23], []⟩), none, (some ⟨0, [], false, [2, 4, 5, 6, 16, 17], []⟩)] ++ nn 6 ++ [(some ⟨2, [], false, [2, 4, 6, 61], []⟩), none, (some ⟨0, [], false, [4, 6], []⟩)] ++ nn 5), false, (some [(Sh.ar .u32), (Sh.ar .u8)]), (some (Sh.ar .u32)), false⟩ 40 = some k174 := by kernel_rfl
theorem lk175 : compF Go.Proofs.Tryd.prog mF ⟨[0, 1, 2, 3, 4, 5, 6, 7, 8, 9, 10, 11, 18, 82], (nn 4 ++ [(some ⟨0, [(5, (Sh.sl (Sh.sl (Sh.int .i64))))], false, [2, 3, 4, 5, 6, 7], []⟩), none, (some ⟨0, [], false, [2, 4, 6], []⟩)] ++ nn 6 ++ [(some ⟨1, [], false, [2, 4, 6, 11], []⟩), none, (some ⟨0, [], false, [4, 6], []⟩)] ++ nn 4), false, (some [(Sh.ar .u32), (Sh.ar .u8)]), (some (Sh.ar .u32)), false⟩ 45 = some k175 := by kernel_rfl
theorem lk176 : compF Go.Proofs.Tryd.prog mF ⟨[0, 2, 3, 4, 5], (nn 6), false, (some [(Sh.int .u64)]), (some (Sh.sl (Sh.int .u8))), false⟩ 38 = some k176 := by kernel_rfl
theorem lk177 : compF Go.Proofs.Tryd.prog mF ⟨[0, 2, 3, 4, 5, 13, 20], ([none, none, (some ⟨0, [], false, [0, 3], [(3, (.imm []), 1)]⟩), none, (some ⟨0, [], false, [0, 3], []⟩)] ++ nn 3 ++ [(some ⟨1, [], false, [3, 4, 5], []⟩), none, (some ⟨0, [], false, [3], []⟩)] ++ nn 5), false, (some [(Sh.int .u64)]), (some (Sh.sl (Sh.int .u8))), false⟩ 43 = some k177 := by kernel_rfl
theorem lk178 : compF Go.Proofs.Tryd.prog mF ⟨[0], (nn 3), false, (some []), (some (Sh.ar .u32)), false⟩ 39 = some k178 := by kernel_rfl
theorem lk179 : compF Go.Proofs.Tryd.prog mF ⟨[0], (nn 3), false, (some []), (some (Sh.ar .u32)), false⟩ 44 = some k179 := by kernel_rfl
theorem lk181 : compF Go.Proofs.Tryd.prog mF ⟨[0, 2, 3, 4, 5, 6, 18, 27, 28], (nn 4 ++ [(some ⟨0, [(3, (Sh.sl (Sh.int .u8)))], false, [2, 3, 4], []⟩), none, (some ⟨0, [], false, [2, 4], []⟩)] ++ nn 4 ++ [(some ⟨1, [], false, [2, 4, 5, 27], []⟩), none, (some ⟨0, [], false, [2, 5], []⟩)] ++ nn 5), false, (some [(Sh.sl (Sh.sl (Sh.int .u8)))]), (some (Sh.ar .u8)), false⟩ 28 = some k181 := by kernel_rfl
theorem lk182 : compF Go.Proofs.Tryd.prog mF ⟨[0, 2, 3, 4, 5, 6, 7, 8, 9, 21, 25, 40], (nn 4 ++ [(some ⟨0, [], false, [2, 3, 4, 5], []⟩), none, (some ⟨0, [], false, [2, 4], []⟩), none, none, (some ⟨1, [], false, [2, 3, 4, 5, 6, 7], []⟩), none, (some ⟨0, [], false, [2, 3, 4, 5, 6], []⟩)] ++ nn 6 ++ [(some ⟨2, [], false, [2, 4, 8, 9], []⟩), none, (some ⟨0, [], false, [2, 8], []⟩)] ++ nn 4), false, (some [(Sh.sl (Sh.int .u8))]), (some (Sh.ar .u8)), false⟩ 30 = some k182 := by kernel_rfl
theorem lk183 : compF Go.Proofs.Tryd.prog mF ⟨[0, 1, 2, 3, 4, 5, 6, 7, 8, 9, 10, 11, 16, 17, 56, 57], (nn 4 ++ [(some ⟨0, [], false, [2, 4, 5, 6, 7, 16], []⟩), none, (some ⟨0, [], false, [2, 4, 7], []⟩)] ++ nn 6 ++ [(some ⟨1, [], false, [2, 4, 7, 56], []⟩), none, (some ⟨0, [], false, [4, 7], []⟩)] ++ nn 5), false, (some [(Sh.ar .u32), (Sh.ar .u8)]), (some (Sh.ar .u32)), false⟩ 48 = some k183 := by kernel_rfl
theorem lk184 : compF Go.Proofs.Tryd.prog mF ⟨[0, 1, 2, 3, 4, 5, 6, 7, 8, 9, 10, 12, 16, 72, 106], (nn 3 ++ [(some ⟨0, [], false, [2, 3, 4, 5, 6], []⟩), none, (some ⟨0, [], false, [2, 4, 5], []⟩)] ++ nn 6 ++ [(some ⟨1, [], false, [2, 4, 5, 7, 8], []⟩), none, (some ⟨0, [], false, [2, 4, 7], []⟩)] ++ nn 4 ++ [(some ⟨2, [], false, [2, 4, 7, 10], []⟩), none, (some ⟨0, [], false, [4, 7], []⟩)] ++ nn 4), false, (some [(Sh.ar .u32), (Sh.ar .u8)]), (some (Sh.ar .u32)), false⟩ 70 = some k184 := by kernel_rfl
theorem lk185 : compF Go.Proofs.Tryd.prog mF ⟨[0, 2, 3, 4, 5], (nn 6), false, (some [(Sh.int .u64)]), (some (Sh.sl (Sh.int .u8))), false⟩ 46 = some k185 := by kernel_rfl
theorem lk186 : compF Go.Proofs.Tryd.prog mF ⟨[0, 2, 3, 4, 5, 6, 17], (nn 5 ++ [(some ⟨0, [], false, [3, 4, 5, 6], []⟩), none, (some ⟨0, [], false, [5], []⟩)] ++ nn 4), false, (some [(Sh.int .u64)]), (some (Sh.sl (Sh.int .u8))), false⟩ 68 = some k186 := by kernel_rfl
theorem lk187 : compF Go.Proofs.Tryd.prog mF ⟨[0], (nn 3), false, (some []), (some (Sh.ar .u32)), false⟩ 47 = some k187 := by kernel_rfl
theorem lk188 : compF Go.Proofs.Tryd.prog mF ⟨[0, 1], (nn 4), false, (some []), (some (Sh.ar .u32)), false⟩ 69 = some k188 := by kernel_rfl
theorem lk190 : compF Go.Proofs.Tryd.prog mF ⟨[0, 2, 3, 4, 5, 7, 8, 21, 30, 31, 32], (nn 4 ++ [(some ⟨0, [(3, (Sh.sl (Sh.int .u8)))], false, [2, 3, 4], []⟩), none, (some ⟨0, [], false, [2, 4], []⟩)] ++ nn 4 ++ [(some ⟨1, [], false, [2, 5, 30, 31], [(5, (.ints .u8 []), 1)]⟩), none, (some ⟨0, [], false, [2, 5], []⟩)] ++ nn 6), false, (some [(Sh.sl (Sh.sl (Sh.int .u8)))]), (some (Sh.ar .u8)), false⟩ 31 = some k190 := by kernel_rfl
theorem lk191 : compF Go.Proofs.Tryd.prog mF ⟨[0, 2, 3, 4, 5, 6, 7, 8, 9, 21, 25, 40], (nn 4 ++ [(some ⟨0, [], false, [2, 3, 4, 5], []⟩), none, (some ⟨0, [], false, [2, 4], []⟩), none, none, (some ⟨1, [], false, [2, 3, 4, 5, 6, 7], []⟩), none, (some ⟨0, [], false, [2, 3, 4, 5, 6], []⟩)] ++ nn 6 ++ [(some ⟨2, [], false, [2, 4, 8, 9], []⟩), none, (some ⟨0, [], false, [2, 8], []⟩)] ++ nn 4), false, (some [(Sh.sl (Sh.int .u8))]), (some (Sh.ar .u8)), false⟩ 50 = some k191 := by kernel_rfl
theorem lk192 : compF Go.Proofs.Tryd.prog mF ⟨[0, 1, 2, 3, 4, 5, 7, 8], (nn 3 ++ [(some ⟨0, [], false, [1, 2, 3, 7], []⟩), none, (some ⟨0, [], false, [2, 3], []⟩)] ++ nn 6), false, (some [(Sh.ar .u8)]), (some (Sh.ar .u32)), false⟩ 55 = some k192 := by kernel_rfl
theorem lk193 : compF Go.Proofs.Tryd.prog mF ⟨[0, 1, 3], (nn 5), false, none, none, false⟩ 56 = some k193 := by kernel_rfl
theorem lk194 : compF Go.Proofs.Tryd.prog mF ⟨[0, 1, 2, 3, 8, 9, 10, 19], (nn 10), false, (some [(Sh.int .i64), (Sh.int .u32), (Sh.int .u32), (Sh.int .u32)]), (some (Sh.int .u32)), false⟩ 57 = some k194 := by kernel_rfl
theorem lk195 : compF Go.Proofs.Tryd.prog mF ⟨[0, 1, 4, 5], (nn 4), false, (some [(Sh.int .u32), (Sh.int .i64)]), (some (Sh.int .u32)), false⟩ 58 = some k195 := by kernel_rfl
theorem lk196 : compF Go.Proofs.Tryd.prog mF ⟨[0, 2, 4, 5, 8], (nn 10), false, (some [(Sh.int .i64)]), (some (Sh.int .i64)), false⟩ 60 = some k196 := by kernel_rfl
theorem lk197 : compF Go.Proofs.Tryd.prog mF ⟨[0, 1, 4], (nn 3), false, (some [(Sh.int .u32), (Sh.int .i64)]), (some (Sh.int .u32)), false⟩ 61 = some k197 := by kernel_rfl
theorem lk198 : compF Go.Proofs.Tryd.prog mF ⟨[0, 1, 2, 3, 8, 9, 10, 20], (nn 10), false, (some [(Sh.int .i64), (Sh.int .u32), (Sh.int .u32), (Sh.int .u32)]), (some (Sh.int .u32)), false⟩ 62 = some k198 := by kernel_rfl
theorem lk199 : compF Go.Proofs.Tryd.prog mF ⟨[0, 1, 2, 3, 4, 5, 7, 8, 11], (nn 3 ++ [(some ⟨0, [], false, [1, 2, 3, 7], []⟩), none, (some ⟨0, [], false, [2, 3], []⟩)] ++ nn 4 ++ [(some ⟨0, [], false, [1, 2, 3, 7], []⟩)] ++ nn 4), false, (some [(Sh.ar .u8)]), (some (Sh.ar .u32)), false⟩ 63 = some k199 := by kernel_rfl
theorem lk200 : compF Go.Proofs.Tryd.prog mF ⟨[0, 1, 2, 3, 4, 6, 7, 8], (nn 3 ++ [(some ⟨0, [], false, [0, 1, 6, 7], []⟩), none, (some ⟨0, [], false, [0, 1], []⟩)] ++ nn 6), false, (some []), (some (Sh.ar .u32)), false⟩ 64 = some k200 := by kernel_rfl
theorem lk201 : compF Go.Proofs.Tryd.prog mF ⟨[0, 1, 2, 3, 8, 9, 10, 19], (nn 10), false, (some [(Sh.int .i64), (Sh.int .u32), (Sh.int .u32), (Sh.int .u32)]), (some (Sh.int .u32)), false⟩ 65 = some k201 := by kernel_rfl
theorem lk202 : compF Go.Proofs.Tryd.prog mF ⟨[0, 1, 4], (nn 3), false, (some [(Sh.int .u32), (Sh.int .i64)]), (some (Sh.int .u32)), false⟩ 79 = some k202 := by kernel_rfl
theorem lk203 : compF Go.Proofs.Tryd.prog mF ⟨[0, 1, 2, 3, 8, 10, 11, 22, 30], (nn 13), false, (some [(Sh.int .i64), (Sh.int .u32), (Sh.int .u32), (Sh.int .u32)]), (some (Sh.int .u32)), false⟩ 80 = some k203 := by kernel_rfl
theorem lk204 : compF Go.Proofs.Tryd.prog mF ⟨[0, 1, 2, 6], (nn 3), false, (some [(Sh.int .u32), (Sh.int .u32), (Sh.int .u32)]), (some (Sh.int .u32)), false⟩ 76 = some k204 := by kernel_rfl
theorem lk366 : compF Go.Proofs.Tryd.prog mF ⟨[0, 1, 2, 3, 4, 6, 7, 8], (nn 5), false, (some [(Sh.ar .u8), (Sh.ar .u8), Sh.bool]), (some Sh.bool), false⟩ 5 = some k366 := by kernel_rfl
theorem lk367 : compF Go.Proofs.Tryd.prog mF ⟨[0, 1, 2, 3, 4], (nn 4), false, (some [(Sh.ar .u8)]), (some Sh.bool), false⟩ 6 = some k367 := by kernel_rfl
theorem lk368 : compF Go.Proofs.Tryd.prog mF ⟨[0, 1, 2, 3, 4, 5, 6, 7, 8, 9, 10, 11, 27, 28, 69], (nn 4 ++ [(some ⟨0, [], false, [3, 4, 5, 7, 8, 9, 27], []⟩), none, (some ⟨0, [], false, [3, 4, 7], []⟩)] ++ nn 10), false, (some [(Sh.ar .u8), (Sh.ar .u8), (Sh.ar .u8)]), (some Sh.bool), false⟩ 7 = some k368 := by kernel_rfl
theorem lk370 : compF Go.Proofs.Tryd.prog mF ⟨[0, 2, 3, 4, 5, 12], (nn 7), false, (some [Sh.str]), (some (Sh.tu (Sh.pr (Sh.ar .u8) (Sh.int .i64)))), false⟩ 9 = some k370 := by kernel_rfl
theorem lk372 : compF Go.Proofs.Tryd.prog mF ⟨[0, 1, 2], (nn 3), false, (some [(Sh.ar .u8)]), (some (Sh.ar .u8)), false⟩ 11 = some k372 := by kernel_rfl
theorem lk373 : compF Go.Proofs.Tryd.prog mF ⟨[0, 1, 2], (nn 3), false, (some [(Sh.ar .u8)]), (some (Sh.ar .u8)), false⟩ 12 = some k373 := by kernel_rfl
theorem lk378 : compF Go.Proofs.Tryd.prog mF ⟨[0, 1, 2, 3, 4, 5, 6], ([none, none, (some ⟨0, [], true, [12], []⟩), none, none]), false, (some [(Sh.ar .u8), (Sh.ar .u8)]), (some (Sh.ar .u8)), false⟩ 18 = some k378 := by kernel_rfl
theorem lk379 : compF Go.Proofs.Tryd.prog mF ⟨[0, 1, 2, 4, 5, 11], (nn 6), false, (some [(Sh.ar .u8), Sh.bool]), (some (Sh.ar .u8)), false⟩ 19 = some k379 := by kernel_rfl
theorem lk380 : compF Go.Proofs.Tryd.prog mF ⟨[0, 1, 2, 3, 4, 5, 6], (nn 5), false, (some [(Sh.ar .u8), (Sh.ar .u8)]), (some (Sh.ar .u8)), false⟩ 20 = some k380 := by kernel_rfl
theorem lk381 : compF Go.Proofs.Tryd.prog mF ⟨[0, 1, 2, 4, 5, 6, 7, 8, 16], (nn 7 ++ [(some ⟨0, [], false, [4, 6, 7], []⟩), none, (some ⟨0, [], false, [4, 6], []⟩)] ++ nn 4), false, (some [(Sh.ar .u8), Sh.bool]), (some (Sh.ar .u8)), false⟩ 21 = some k381 := by kernel_rfl
theorem lk382 : compF Go.Proofs.Tryd.prog mF ⟨[0, 1, 3, 4], (nn 6), false, (some []), (some Sh.bool), false⟩ 22 = some k382 := by kernel_rfl
theorem lk383 : compF Go.Proofs.Tryd.prog mF ⟨[0, 1, 2, 4, 5], (nn 5), false, (some [(Sh.ar .u8), Sh.bool]), (some (Sh.ar .u8)), false⟩ 23 = some k383 := by kernel_rfl
theorem lk384 : compF Go.Proofs.Tryd.prog mF ⟨[0, 1, 2, 3, 4, 6], (nn 3), false, (some [(Sh.ar .u8), (Sh.ar .u8), Sh.bool]), (some (Sh.ar .u8)), false⟩ 24 = some k384 := by kernel_rfl
theorem lk385 : compF Go.Proofs.Tryd.prog mF ⟨[0, 3], ([none, none]), false, none, none, false⟩ 25 = some k385 := by kernel_rfl
theorem lk386 : compF Go.Proofs.Tryd.prog mF ⟨[0, 1, 2, 3, 4, 5, 6, 7, 8, 9, 18], (nn 4 ++ [(some ⟨0, [(7, Sh.bool)], true, [], []⟩), (some ⟨0, [], false, [4, 6, 7, 8, 9], []⟩), none, (some ⟨0, [], false, [4, 8], []⟩), (some ⟨0, [], true, [29], []⟩)] ++ nn 3), false, (some [(Sh.ar .u8), (Sh.ar .u8)]), (some (Sh.ar .u8)), false⟩ 26 = some k386 := by kernel_rfl
theorem lk387 : compF Go.Proofs.Tryd.prog mF ⟨[0, 2, 3, 4, 5, 7, 8, 13, 16, 17, 18, 19], (nn 7 ++ [(some ⟨0, [], false, [5, 16, 17, 18], [(5, (.ints .u8 []), 1)]⟩), none, (some ⟨0, [], false, [5], []⟩)] ++ nn 6), false, (some [Sh.str]), (some (Sh.tu (Sh.pr (Sh.sl (Sh.int .u8)) (Sh.int .i64)))), false⟩ 27 = some k387 := by kernel_rfl
theorem lk389 : compF Go.Proofs.Tryd.prog mF ⟨[0, 1, 2, 4, 5], (nn 4), false, (some [(Sh.ar .u8), Sh.str]), (some (Sh.ar .u8)), false⟩ 32 = some k389 := by kernel_rfl
theorem lk390 : compF Go.Proofs.Tryd.prog mF ⟨[0, 2, 3, 4, 5, 9], (nn 4 ++ [(some ⟨0, [], false, [2, 3, 4, 5], []⟩), none, (some ⟨0, [], false, [2, 4], []⟩)] ++ nn 4), false, (some [(Sh.sl (Sh.int .u8))]), (some (Sh.ar .u8)), false⟩ 33 = some k390 := by kernel_rfl
theorem lk391 : compF Go.Proofs.Tryd.prog mF ⟨[0, 2, 3, 7], (nn 9), false, (some [Sh.str]), (some (Sh.int .i64)), false⟩ 35 = some k391 := by kernel_rfl
theorem lk392 : compF Go.Proofs.Tryd.prog mF ⟨[0, 2, 3, 5, 8, 10, 11, 12, 15], (nn 6 ++ [(some ⟨0, [], false, [3, 10], [(3, (.ints .u16 []), 1)]⟩), none, (some ⟨0, [], false, [3], []⟩)] ++ nn 3 ++ [(some ⟨0, [], false, [3, 10], []⟩)] ++ nn 4), false, (some [Sh.str]), (some (Sh.sl (Sh.int .u16))), false⟩ 36 = some k392 := by kernel_rfl
theorem lk395 : compF Go.Proofs.Tryd.prog mF ⟨[0, 1, 4, 5, 6, 7, 8, 9, 10, 11, 13, 16, 32, 38, 42, 50, 63], (nn 3 ++ [(some ⟨0, [], true, [], [(4, (.ints .u8 []), 1)]⟩)] ++ nn 8 ++ [(some ⟨0, [], true, [], [(4, (.ints .u8 []), 1)]⟩)] ++ nn 7 ++ [(some ⟨0, [], false, [7, 8, 9, 10], []⟩), none, (some ⟨0, [], false, [9], []⟩)] ++ nn 3 ++ [(some ⟨0, [], true, [], [(4, (.ints .u8 []), 1)]⟩)]), false, (some [(Sh.sl (Sh.int .u8)), (Sh.int .i64)]), none, false⟩ 49 = some k395 := by kernel_rfl
theorem lk396 : compF Go.Proofs.Tryd.prog mF ⟨[0, 2, 3, 4, 5, 6, 9, 13, 24, 39, 62, 75, 76, 94, 97, 125, 128, 166], ([none, (some ⟨0, [], false, [0, 4, 6], []⟩), none, (some ⟨0, [], false, [], []⟩)] ++ nn 7 ++ [(some ⟨1, [], false, [0, 4, 6], []⟩), none, (some ⟨0, [], false, [0, 4, 6], []⟩), none, (some ⟨0, [], false, [0, 4, 6], []⟩)] ++ nn 23), false, (some [Sh.str]), (some Sh.bool), false⟩ 52 = some k396 := by kernel_rfl
theorem lk397 : compF Go.Proofs.Tryd.prog mF ⟨[0, 2, 4, 6], ([none, none, (some ⟨0, [], false, [2, 4], []⟩), none, (some ⟨0, [], false, [2], []⟩)] ++ nn 3), false, (some [Sh.str]), (some (Sh.int .i64)), false⟩ 53 = some k397 := by kernel_rfl
theorem lk399 : compF Go.Proofs.Tryd.prog mF ⟨[0, 1, 4, 5, 6, 7, 8, 9], (nn 7), false, (some [(Sh.int .u64), (Sh.int .u64)]), (some (Sh.tu (Sh.pr (Sh.int .u64) (Sh.int .u64)))), false⟩ 66 = some k399 := by kernel_rfl
theorem lk401 : compF Go.Proofs.Tryd.prog mF ⟨[0, 2], (nn 5), false, (some [Sh.str]), (some (Sh.int .u64)), false⟩ 72 = some k401 := by kernel_rfl
theorem lk403 : compF Go.Proofs.Tryd.prog mF ⟨[0, 1, 4, 5, 6], (nn 4), false, (some [(Sh.int .u32), (Sh.int .u32)]), (some (Sh.tu (Sh.pr (Sh.int .u32) (Sh.int .u32)))), false⟩ 77 = some k403 := by kernel_rfl
theorem mF_mem {f g : Nat} (h : mF f = some g) : (f, g) ∈ mT := by
  simp only [mF, Option.map_eq_some_iff] at h
  obtain ⟨p, h1, h2⟩ := h
  have h3 := List.mem_of_find?_eq_some h1
  have h4 := List.find?_some h1
  have h5 : p.1 = f := by simpa using h4
  rw [← h5, ← h2]; exact h3
theorem link : Link Go.Proofs.Tryd.prog mF FT := by
  intro f g fn hm hF
  have h := mF_mem hm
  simp only [mT, List.mem_cons, Prod.mk.injEq, List.not_mem_nil, or_false] at h
  rcases h with ⟨rfl, rfl⟩ | ⟨rfl, rfl⟩ | ⟨rfl, rfl⟩ | ⟨rfl, rfl⟩ | ⟨rfl, rfl⟩ | ⟨rfl, rfl⟩ | ⟨rfl, rfl⟩ | ⟨rfl, rfl⟩ | ⟨rfl, rfl⟩ | ⟨rfl, rfl⟩ | ⟨rfl, rfl⟩ | ⟨rfl, rfl⟩ | ⟨rfl, rfl⟩ | ⟨rfl, rfl⟩ | ⟨rfl, rfl⟩ | ⟨rfl, rfl⟩ | ⟨rfl, rfl⟩ | ⟨rfl, rfl⟩ | ⟨rfl, rfl⟩ | ⟨rfl, rfl⟩ | ⟨rfl, rfl⟩ | ⟨rfl, rfl⟩ | ⟨rfl, rfl⟩ | ⟨rfl, rfl⟩ | ⟨rfl, rfl⟩ | ⟨rfl, rfl⟩ | ⟨rfl, rfl⟩ | ⟨rfl, rfl⟩ | ⟨rfl, rfl⟩ | ⟨rfl, rfl⟩ | ⟨rfl, rfl⟩ | ⟨rfl, rfl⟩ | ⟨rfl, rfl⟩ | ⟨rfl, rfl⟩ | ⟨rfl, rfl⟩ | ⟨rfl, rfl⟩ | ⟨rfl, rfl⟩ | ⟨rfl, rfl⟩ | ⟨rfl, rfl⟩ | ⟨rfl, rfl⟩ | ⟨rfl, rfl⟩ | ⟨rfl, rfl⟩ | ⟨rfl, rfl⟩ | ⟨rfl, rfl⟩ | ⟨rfl, rfl⟩ | ⟨rfl, rfl⟩ | ⟨rfl, rfl⟩ | ⟨rfl, rfl⟩ | ⟨rfl, rfl⟩ | ⟨rfl, rfl⟩ | ⟨rfl, rfl⟩ | ⟨rfl, rfl⟩ | ⟨rfl, rfl⟩ | ⟨rfl, rfl⟩ | ⟨rfl, rfl⟩ | ⟨rfl, rfl⟩ | ⟨rfl, rfl⟩ | ⟨rfl, rfl⟩ | ⟨rfl, rfl⟩ | ⟨rfl, rfl⟩ | ⟨rfl, rfl⟩ | ⟨rfl, rfl⟩ | ⟨rfl, rfl⟩ | ⟨rfl, rfl⟩ | ⟨rfl, rfl⟩ | ⟨rfl, rfl⟩ | ⟨rfl, rfl⟩ | ⟨rfl, rfl⟩ | ⟨rfl, rfl⟩
  · injection hF with hF; subst hF; exact compF_ok lk1
  · injection hF with hF; subst hF; exact compF_ok lk19
  · injection hF with hF; subst hF; exact compF_ok lk21
  · injection hF with hF; subst hF; exact compF_ok lk46
  · injection hF with hF; subst hF; exact compF_ok lk48
  · injection hF with hF; subst hF; exact compF_ok lk64
  · injection hF with hF; subst hF; exact compF_ok lk75
  · injection hF with hF; subst hF; exact compF_ok lk100
  · injection hF with hF; subst hF; exact compF_ok lk101
  · injection hF with hF; subst hF; exact compF_ok lk114
  · injection hF with hF; subst hF; exact compF_ok lk115
  · injection hF with hF; subst hF; exact compF_ok lk116
  · injection hF with hF; subst hF; exact compF_ok lk120
  · injection hF with hF; subst hF; exact compF_ok lk174
  · injection hF with hF; subst hF; exact compF_ok lk175
  · injection hF with hF; subst hF; exact compF_ok lk176
  · injection hF with hF; subst hF; exact compF_ok lk177
  · injection hF with hF; subst hF; exact compF_ok lk178
  · injection hF with hF; subst hF; exact compF_ok lk179
  · injection hF with hF; subst hF; exact compF_ok lk181
  · injection hF with hF; subst hF; exact compF_ok lk182
  · injection hF with hF; subst hF; exact compF_ok lk183
  · injection hF with hF; subst hF; exact compF_ok lk184
  · injection hF with hF; subst hF; exact compF_ok lk185
  · injection hF with hF; subst hF; exact compF_ok lk186
  · injection hF with hF; subst hF; exact compF_ok lk187
  · injection hF with hF; subst hF; exact compF_ok lk188
  · injection hF with hF; subst hF; exact compF_ok lk190
  · injection hF with hF; subst hF; exact compF_ok lk191
  · injection hF with hF; subst hF; exact compF_ok lk192
  · injection hF with hF; subst hF; exact compF_ok lk193
  · injection hF with hF; subst hF; exact compF_ok lk194
  · injection hF with hF; subst hF; exact compF_ok lk195
  · injection hF with hF; subst hF; exact compF_ok lk196
  · injection hF with hF; subst hF; exact compF_ok lk197
  · injection hF with hF; subst hF; exact compF_ok lk198
  · injection hF with hF; subst hF; exact compF_ok lk199
  · injection hF with hF; subst hF; exact compF_ok lk200
  · injection hF with hF; subst hF; exact compF_ok lk201
  · injection hF with hF; subst hF; exact compF_ok lk202
  · injection hF with hF; subst hF; exact compF_ok lk203
  · injection hF with hF; subst hF; exact compF_ok lk204
  · injection hF with hF; subst hF; exact compF_ok lk366
  · injection hF with hF; subst hF; exact compF_ok lk367
  · injection hF with hF; subst hF; exact compF_ok lk368
  · injection hF with hF; subst hF; exact compF_ok lk370
  · injection hF with hF; subst hF; exact compF_ok lk372
  · injection hF with hF; subst hF; exact compF_ok lk373
  · injection hF with hF; subst hF; exact compF_ok lk378
  · injection hF with hF; subst hF; exact compF_ok lk379
  · injection hF with hF; subst hF; exact compF_ok lk380
  · injection hF with hF; subst hF; exact compF_ok lk381
  · injection hF with hF; subst hF; exact compF_ok lk382
  · injection hF with hF; subst hF; exact compF_ok lk383
  · injection hF with hF; subst hF; exact compF_ok lk384
  · injection hF with hF; subst hF; exact compF_ok lk385
  · injection hF with hF; subst hF; exact compF_ok lk386
  · injection hF with hF; subst hF; exact compF_ok lk387
  · injection hF with hF; subst hF; exact compF_ok lk389
  · injection hF with hF; subst hF; exact compF_ok lk390
  · injection hF with hF; subst hF; exact compF_ok lk391
  · injection hF with hF; subst hF; exact compF_ok lk392
  · injection hF with hF; subst hF; exact compF_ok lk395
  · injection hF with hF; subst hF; exact compF_ok lk396
  · injection hF with hF; subst hF; exact compF_ok lk397
  · injection hF with hF; subst hF; exact compF_ok lk399
  · cases hF
  · injection hF with hF; subst hF; exact compF_ok lk401
  · injection hF with hF; subst hF; exact compF_ok lk403
theorem lk400 : ((Go.Proofs.Tryd.prog.funcs[67]?).map fun f => (f.name, f.origin, f.body.isNone, f.resultTypes.toList)) = some ("internal/bytealg.MakeNoZero", "", true, [35]) := by kernel_rfl
theorem lt400 : (match Go.Proofs.Tryd.prog.underlying 35 with | some (.slice _) => true | _ => false) = true := by kernel_rfl
theorem ls400 : ∃ el, Go.Proofs.Tryd.prog.underlying 35 = some (.slice el) := by
  have h := lt400
  split at h
  · rename_i e he; exact ⟨e, he⟩
  · cases h
theorem lx400 : ∃ pf t el, Go.Proofs.Tryd.prog.funcs[67]? = some pf ∧ (pf.name == "runtime.NumGoroutine") = false ∧ pf.body.isNone = true ∧ Extern.findNext pf = none ∧ Extern.find pf = some (Extern.BytealgMakeNoZero.makeNoZero pf.params #[t]) ∧ Go.Proofs.Tryd.prog.underlying t = some (.slice el) := by
  obtain ⟨pf, h1, h2⟩ := Option.map_eq_some_iff.1 lk400
  simp only [Prod.mk.injEq] at h2
  obtain ⟨el, hel⟩ := ls400
  exact ⟨pf, 35, el, h1, by rw [h2.1]; rfl, h2.2.2.1, find_next0 h2.1 h2.2.1, find_extern0 h2.1 (by rw [← Array.toArray_toList (xs := pf.resultTypes), h2.2.2.2]), hel⟩
theorem xok : XOK Go.Proofs.Tryd.prog mF where
  c61 := fun f h => by
    have h := mF_mem h
    simp only [mT, List.mem_cons, Prod.mk.injEq, List.not_mem_nil, or_false] at h
    omega
  c108 := fun f h => by
    have h := mF_mem h
    simp only [mT, List.mem_cons, Prod.mk.injEq, List.not_mem_nil, or_false] at h
    omega
  c320 := fun f h => by
    have h := mF_mem h
    simp only [mT, List.mem_cons, Prod.mk.injEq, List.not_mem_nil, or_false] at h
    omega
  c66 := fun f h => by
    have h := mF_mem h
    simp only [mT, List.mem_cons, Prod.mk.injEq, List.not_mem_nil, or_false] at h
    omega
  c400 := fun f h => by
    have h := mF_mem h
    simp only [mT, List.mem_cons, Prod.mk.injEq, List.not_mem_nil, or_false] at h
    obtain rfl : f = 67 := by omega
    exact lx400
end Go.Proofs.YtdlmhclopdkhcaaDoorE
