/- The evaluator's functions are the program's. -/
import Derived.Test.YteagngpgghnlmaaEvFL1
import Derived.Test.YteagngpgghnlmaaChecked
import Derived.KernelRfl
namespace Go.Proofs.YteagngpgghnlmaaE
open Go
set_option linter.unusedVariables false
set_option linter.unusedSimpArgs false
def mT : List (Nat × Nat) := [(63, 1), (64, 19), (56, 21), (29, 23), (46, 46), (74, 48), (48, 50), (58, 51), (73, 64), (40, 108), (62, 139), (49, 141), (72, 142), (59, 143), (43, 144), (53, 145), (55, 146), (44, 160), (68, 161), (65, 162), (67, 163), (69, 164), (71, 165), (22, 302), (42, 313), (37, 316), (26, 317), (28, 319), (61, 320), (45, 321), (47, 322), (30, 323), (50, 324), (51, 325), (52, 326), (66, 327), (7, 328), (8, 329), (9, 330), (10, 331), (11, 332), (24, 337), (25, 338), (27, 339), (31, 340), (32, 341), (33, 342), (34, 343), (35, 344), (36, 345), (38, 346), (54, 358), (57, 359), (60, 360), (70, 363)]
def mF : Nat → Option Nat := fun f => (mT.find? (·.1 == f)).map (·.2)
theorem lk1 : compF Go.Proofs.Try.prog mF ⟨[0, 2, 3, 5, 6, 8, 9, 10, 11, 12, 20, 25, 26, 27, 28], [none, none, none, (some ⟨0, [], false, [0, 3, 9, 10, 11], []⟩), none, (some ⟨0, [], false, [0, 3], []⟩), none, none, none, none, none, none, none, (some ⟨1, [], false, [6, 25, 26, 27], []⟩), none, (some ⟨0, [], false, [6], []⟩), none, none, none, none, none], false, (some [(Sh.sl (Sh.sl (Sh.int .u8)))]), none, false⟩ 63 = some k1 := by kernel_rfl
theorem lk19 : compF Go.Proofs.Try.prog mF ⟨[0, 1, 2, 6, 7, 8, 9, 15, 19, 20, 21, 33], [none, none, none, none, none, none, (some ⟨0, [], false, [0, 2, 8, 19, 20], []⟩), none, (some ⟨0, [], false, [2, 8], []⟩), none, none, none, none, none, none, none], false, (some [(Sh.int .u64), (Sh.int .i64), Sh.bool]), (some (Sh.tu (Sh.pr (Sh.sl (Sh.int .u8)) (Sh.int .i64)))), false⟩ 64 = some k19 := by kernel_rfl
theorem lk21 : compF Go.Proofs.Try.prog mF ⟨[0, 1, 4, 5, 6, 7, 8, 16, 17, 18, 19, 20, 24], [none, none, none, none, none, none, (some ⟨0, [], false, [1, 6, 17, 18, 19], []⟩), none, (some ⟨0, [], false, [6], []⟩), none, none, none, none, none, none, none], false, (some [(Sh.sl (Sh.int .u8)), Sh.bool]), (some (Sh.tu (Sh.pr (Sh.int .u64) (Sh.int .i64)))), false⟩ 56 = some k21 := by kernel_rfl
theorem lk23 : compF Go.Proofs.Try.prog mF ⟨[0, 1, 4, 5, 10, 14, 25], [none, none, none, none, none, (some ⟨0, [], false, [0, 1, 5], []⟩), none, (some ⟨0, [], false, [], []⟩), none, none, none, none, none, none], false, (some [(Sh.sl (Sh.int .u8)), (Sh.sl (Sh.int .u8))]), (some Sh.bool), false⟩ 29 = some k23 := by kernel_rfl
theorem lk46 : compF Go.Proofs.Try.prog mF ⟨[0, 2], [none, none, none], false, (some [(Sh.sl (Sh.sl (Sh.int .u8)))]), none, false⟩ 46 = some k46 := by kernel_rfl
theorem lk48 : compF Go.Proofs.Try.prog mF ⟨[0, 2, 3, 9], [none, (some ⟨0, [], false, [0, 2, 3], []⟩), none, (some ⟨0, [], false, [], []⟩), none, none], true, none, none, false⟩ 74 = some k48 := by kernel_rfl
theorem lk50 : compF Go.Proofs.Try.prog mF ⟨[0, 1, 4, 5, 6, 12], [none, none, none, (some ⟨0, [], false, [0, 5, 6], []⟩), none, (some ⟨0, [], false, [5], []⟩), none, none, none, none, (some ⟨0, [], true, [], [(4, (.ints .u8 []), 1)]⟩)], false, (some [(Sh.int .u64), (Sh.int .i64)]), none, false⟩ 48 = some k50 := by kernel_rfl
theorem lk51 : compF Go.Proofs.Try.prog mF ⟨[0, 2, 3, 4, 8], [none, none, none, (some ⟨0, [], false, [0, 3, 4], []⟩), none, (some ⟨0, [], false, [3], []⟩), none, none, none, none], false, (some [(Sh.sl (Sh.int .u8))]), (some (Sh.int .u64)), false⟩ 58 = some k51 := by kernel_rfl
theorem lk64 : compF Go.Proofs.Try.prog mF ⟨[0, 1, 4, 6, 16], [none, none, none, none, none, none, none, (some ⟨0, [], true, [], [(4, (.ints .u8 []), 1)]⟩)], false, none, none, false⟩ 73 = some k64 := by kernel_rfl
theorem lk139 : compF Go.Proofs.Try.prog mF ⟨[0, 1, 2, 3, 4, 5, 11, 16], [none, none, none, none, none, none, none, none, none, none, none], false, (some [(Sh.st (Sh.pr (Sh.int .u8) (Sh.sl (Sh.int .u8))))]), (some (Sh.tu (Sh.pr (Sh.sl (Sh.int .u8)) (Sh.int .i64)))), false⟩ 62 = some k139 := by kernel_rfl
theorem lk141 : compF Go.Proofs.Try.prog mF ⟨[0, 1, 2, 3, 7, 11], [none, none, none, none, none, none, none, (some ⟨0, [(1, Sh.bool)], true, [23], []⟩), none], false, (some [(Sh.st (Sh.pr (Sh.int .u8) (Sh.sl (Sh.int .u8))))]), (some (Sh.tu (Sh.pr (Sh.sl (Sh.int .u8)) (Sh.int .i64)))), false⟩ 49 = some k141 := by kernel_rfl
theorem lk142 : compF Go.Proofs.Try.prog mF ⟨[0, 2, 3, 4, 5, 7, 10, 20, 34, 41], [none, none, none, none, none, none, none, none, none, none, none, none, none, none, none, none, none], false, (some [(Sh.sl (Sh.int .u8))]), (some (Sh.tu (Sh.pr (Sh.st (Sh.pr (Sh.int .u8) (Sh.sl (Sh.int .u8)))) (Sh.pr (Sh.int .i64) (Sh.int .i64))))), false⟩ 72 = some k142 := by kernel_rfl
theorem lk143 : compF Go.Proofs.Try.prog mF ⟨[0, 2, 3, 4, 5, 8, 25, 31, 36], [none, none, none, none, none, none, none, none, none, none, none, none, none, none, none, none], false, (some [(Sh.sl (Sh.int .u8))]), (some (Sh.tu (Sh.pr (Sh.st (Sh.pr (Sh.int .u8) (Sh.sl (Sh.int .u8)))) (Sh.pr (Sh.int .i64) (Sh.int .i64))))), false⟩ 59 = some k143 := by kernel_rfl
theorem lk144 : compF Go.Proofs.Try.prog mF ⟨[0, 1, 2, 3, 4], [none, none, none], false, (some [(Sh.st (Sh.pr (Sh.int .u8) (Sh.sl (Sh.int .u8)))), (Sh.st (Sh.pr (Sh.int .u8) (Sh.sl (Sh.int .u8))))]), (some Sh.bool), false⟩ 43 = some k144 := by kernel_rfl
theorem lk145 : compF Go.Proofs.Try.prog mF ⟨[0, 1, 2, 3, 4, 5, 6, 7, 16, 21, 27, 33, 55], [none, none, none, none, none, none, none, none, none, none, none, none, none, none, none, none, none, none, none, none], false, (some [(Sh.st (Sh.pr (Sh.int .u8) (Sh.sl (Sh.int .u8))))]), (some (Sh.int .i64)), false⟩ 53 = some k145 := by kernel_rfl
theorem lk146 : compF Go.Proofs.Try.prog mF ⟨[0, 1, 2, 3, 4, 5, 9, 26, 31, 34, 78], [none, none, none, none, none, none, none, none, none, none, none, none, none, none, none, none, none, none, none, none, none], false, (some [(Sh.st (Sh.pr (Sh.int .u8) (Sh.sl (Sh.int .u8))))]), (some (Sh.int .i64)), false⟩ 55 = some k146 := by kernel_rfl
theorem lk160 : compF Go.Proofs.Try.prog mF ⟨[0, 1, 4], [none, none, none], false, (some [(Sh.sl (Sh.int .u8)), (Sh.sl (Sh.int .u8))]), (some Sh.bool), false⟩ 44 = some k160 := by kernel_rfl
theorem lk161 : compF Go.Proofs.Try.prog mF ⟨[0, 2], [none, none, none], false, (some [(Sh.int .u8)]), (some Sh.bool), false⟩ 68 = some k161 := by kernel_rfl
theorem lk162 : compF Go.Proofs.Try.prog mF ⟨[0, 2], [none, none, none], false, (some [(Sh.int .u8)]), (some Sh.bool), false⟩ 65 = some k162 := by kernel_rfl
theorem lk163 : compF Go.Proofs.Try.prog mF ⟨[0, 2, 3, 4, 5, 6, 7, 9, 11], [none, none, none, none, none, none, none, none, none, none, none, none, none], false, (some [(Sh.int .u8)]), (some (Sh.tu (Sh.pr (Sh.int .i64) (Sh.pr (Sh.int .i64) (Sh.pr (Sh.int .u8) (Sh.int .u8)))))), false⟩ 67 = some k163 := by kernel_rfl
theorem lk164 : compF Go.Proofs.Try.prog mF ⟨[0, 1, 4], [none, none, none], false, (some [(Sh.sl (Sh.int .u8)), (Sh.sl (Sh.int .u8))]), (some Sh.bool), false⟩ 69 = some k164 := by kernel_rfl
theorem lk165 : compF Go.Proofs.Try.prog mF ⟨[0, 2, 3, 7, 14], [none, none, (some ⟨0, [], false, [0, 3], []⟩), none, (some ⟨0, [], false, [], []⟩), none, none, none, none, none, none], false, (some [(Sh.sl (Sh.int .u8))]), (some Sh.bool), false⟩ 71 = some k165 := by kernel_rfl
theorem lk302 : compF Go.Proofs.Try.prog mF ⟨[0, 1, 2, 3, 4], [none, none, none], false, (some [(Sh.st (Sh.pr Sh.bool (Sh.pr (Sh.int .u16) (Sh.pr (Sh.sl (Sh.pr (Sh.int .u8) (Sh.sl (Sh.int .u8)))) (Sh.sl (Sh.int .u8)))))), (Sh.st (Sh.pr Sh.bool (Sh.pr (Sh.int .u16) (Sh.pr (Sh.sl (Sh.pr (Sh.int .u8) (Sh.sl (Sh.int .u8)))) (Sh.sl (Sh.int .u8))))))]), (some Sh.bool), false⟩ 22 = some k302 := by kernel_rfl
theorem lk313 : compF Go.Proofs.Try.prog mF ⟨[0, 1, 2, 6, 7, 8, 9, 14, 15, 16, 17, 18, 30], [none, none, none, none, none, (some ⟨0, [], false, [1, 2, 15, 16, 17], []⟩), none, (some ⟨0, [], false, [], []⟩), none, none, none, none, none, none, none, none], false, none, none, false⟩ 42 = some k313 := by kernel_rfl
theorem lk316 : compF Go.Proofs.Try.prog mF ⟨[0, 1, 4], [none, none, none], false, (some [(Sh.int .u16), (Sh.sl (Sh.pr (Sh.int .u8) (Sh.sl (Sh.int .u8))))]), (some (Sh.st (Sh.pr Sh.bool (Sh.pr (Sh.int .u16) (Sh.pr (Sh.sl (Sh.pr (Sh.int .u8) (Sh.sl (Sh.int .u8)))) (Sh.sl (Sh.int .u8))))))), false⟩ 37 = some k316 := by kernel_rfl
theorem lk317 : compF Go.Proofs.Try.prog mF ⟨[0, 1, 2, 3, 4, 5, 6, 12, 16, 22], [none, none, none, none, none, none, none, none, none, none, none, none, none], false, (some [(Sh.st (Sh.pr Sh.bool (Sh.pr (Sh.int .u16) (Sh.pr (Sh.sl (Sh.pr (Sh.int .u8) (Sh.sl (Sh.int .u8)))) (Sh.sl (Sh.int .u8))))))]), (some (Sh.tu (Sh.pr (Sh.sl (Sh.int .u8)) (Sh.int .i64)))), false⟩ 26 = some k317 := by kernel_rfl
theorem lk319 : compF Go.Proofs.Try.prog mF ⟨[0, 1, 2, 3, 4, 5, 6, 7, 8, 12, 16, 31, 44, 51, 55], [none, none, none, none, none, none, none, none, none, none, (some ⟨0, [], false, [1, 4, 5, 6], []⟩), none, (some ⟨0, [], false, [4, 5], []⟩), none, none, none, none, none, none, none, none, none, none, none, none, none, none], false, (some [(Sh.st (Sh.pr Sh.bool (Sh.pr (Sh.int .u16) (Sh.pr (Sh.sl (Sh.pr (Sh.int .u8) (Sh.sl (Sh.int .u8)))) (Sh.sl (Sh.int .u8))))))]), (some (Sh.tu (Sh.pr (Sh.sl (Sh.int .u8)) (Sh.int .i64)))), false⟩ 28 = some k319 := by kernel_rfl
theorem lk321 : compF Go.Proofs.Try.prog mF ⟨[0, 1, 2, 3, 4, 6, 7, 8, 9, 19, 25, 41, 42, 43, 44, 53], [none, none, none, none, none, none, none, none, none, none, none, none, (some ⟨0, [], false, [4, 41, 42, 43], []⟩), none, (some ⟨0, [], false, [4], []⟩), none, none, none, none, none, none, none, none, none], false, (some [(Sh.st (Sh.pr Sh.bool (Sh.pr (Sh.int .u16) (Sh.pr (Sh.sl (Sh.pr (Sh.int .u8) (Sh.sl (Sh.int .u8)))) (Sh.sl (Sh.int .u8))))))]), (some (Sh.tu (Sh.pr (Sh.sl (Sh.int .u8)) (Sh.int .i64)))), false⟩ 45 = some k321 := by kernel_rfl
theorem lk322 : compF Go.Proofs.Try.prog mF ⟨[0, 2, 3], [none, none, none, none], false, (some [(Sh.int .i64)]), (some (Sh.sl (Sh.int .u8))), false⟩ 47 = some k322 := by kernel_rfl
theorem lk323 : compF Go.Proofs.Try.prog mF ⟨[0, 1, 2, 3, 4, 5, 6, 8, 9, 20, 24, 33, 49, 50, 51, 52, 58], [none, none, none, none, none, none, none, none, none, none, none, none, none, (some ⟨0, [], false, [49, 50, 51], []⟩), none, (some ⟨0, [], false, [], []⟩), none, none, none, none, none, none, none, none], false, (some [(Sh.st (Sh.pr Sh.bool (Sh.pr (Sh.int .u16) (Sh.pr (Sh.sl (Sh.pr (Sh.int .u8) (Sh.sl (Sh.int .u8)))) (Sh.sl (Sh.int .u8))))))]), (some (Sh.int .i64)), false⟩ 30 = some k323 := by kernel_rfl
theorem lk324 : compF Go.Proofs.Try.prog mF ⟨[0, 2, 3, 4, 5, 6, 8, 10, 12, 14], [none, none, none, none, none, none, none, none, none, none, none, none, none, none, none, none, none, none, none, none], false, (some [(Sh.int .u16)]), (some (Sh.tu (Sh.pr (Sh.int .u8) (Sh.pr (Sh.int .i64) (Sh.int .i64))))), false⟩ 50 = some k324 := by kernel_rfl
theorem lk325 : compF Go.Proofs.Try.prog mF ⟨[0, 1, 4], [none, none, none], false, none, none, false⟩ 51 = some k325 := by kernel_rfl
theorem lk326 : compF Go.Proofs.Try.prog mF ⟨[0, 1, 2, 3], [none, none, none], false, none, none, false⟩ 52 = some k326 := by kernel_rfl
theorem lk327 : compF Go.Proofs.Try.prog mF ⟨[0, 1, 4, 5, 7, 8, 9, 16], [none, none, (some ⟨0, [], false, [0, 1, 7, 8], []⟩), none, (some ⟨0, [], false, [], []⟩), none, none, none, none, none, none, none], false, none, none, false⟩ 66 = some k327 := by kernel_rfl
theorem lk328 : compF Go.Proofs.Try.prog mF ⟨[0, 1, 2, 3, 4, 5, 6, 8], [none, none, none, none, none, none, none, none], false, (some [(Sh.st (Sh.pr Sh.bool (Sh.pr (Sh.int .u16) (Sh.pr (Sh.sl (Sh.pr (Sh.int .u8) (Sh.sl (Sh.int .u8)))) (Sh.sl (Sh.int .u8))))))]), (some Sh.bool), false⟩ 7 = some k328 := by kernel_rfl
theorem lk329 : compF Go.Proofs.Try.prog mF ⟨[0, 2, 3, 4, 5, 6, 7, 8, 9, 10, 13], [none, none, none, none, none, none, none, none, none, none], false, (some [(Sh.sl (Sh.int .u8))]), (some Sh.bool), false⟩ 8 = some k329 := by kernel_rfl
theorem lk330 : compF Go.Proofs.Try.prog mF ⟨[0, 1, 2, 3, 4, 6, 7, 8, 9, 10, 11, 12, 13, 14, 15, 26, 36, 40, 51, 64, 71], [none, none, none, none, none, none, none, none, none, none, none, none, none, none, none, none, none, none, none, none, none, none, none, none], false, (some [(Sh.st (Sh.pr Sh.bool (Sh.pr (Sh.int .u16) (Sh.pr (Sh.sl (Sh.pr (Sh.int .u8) (Sh.sl (Sh.int .u8)))) (Sh.sl (Sh.int .u8)))))), (Sh.st (Sh.pr Sh.bool (Sh.pr (Sh.int .u16) (Sh.pr (Sh.sl (Sh.pr (Sh.int .u8) (Sh.sl (Sh.int .u8)))) (Sh.sl (Sh.int .u8)))))), (Sh.sl (Sh.int .u8))]), (some Sh.bool), false⟩ 9 = some k330 := by kernel_rfl
theorem lk331 : compF Go.Proofs.Try.prog mF ⟨[0, 1, 3, 4, 5, 6, 7, 9], [none, none, none, none, none, none, none, none, none], false, (some [(Sh.int .u16), (Sh.st (Sh.pr Sh.bool (Sh.pr (Sh.int .u16) (Sh.pr (Sh.sl (Sh.pr (Sh.int .u8) (Sh.sl (Sh.int .u8)))) (Sh.sl (Sh.int .u8))))))]), (some Sh.bool), false⟩ 10 = some k331 := by kernel_rfl
theorem lk332 : compF Go.Proofs.Try.prog mF ⟨[0, 1, 2, 4, 5, 6, 7, 8, 9, 11, 13, 27], [none, none, none, none, none, none, none, none, none, none, none, none, none], false, (some [(Sh.st (Sh.pr Sh.bool (Sh.pr (Sh.int .u16) (Sh.pr (Sh.sl (Sh.pr (Sh.int .u8) (Sh.sl (Sh.int .u8)))) (Sh.sl (Sh.int .u8)))))), (Sh.int .u16)]), (some Sh.bool), false⟩ 11 = some k332 := by kernel_rfl
theorem lk337 : compF Go.Proofs.Try.prog mF ⟨[0, 1, 2, 4, 11, 12, 13, 14, 20], [none, none, (some ⟨0, [], false, [1, 11, 12, 13], []⟩), none, (some ⟨0, [], false, [1], []⟩), none, none, none, none, none, none, none], false, (some [(Sh.st (Sh.pr Sh.bool (Sh.pr (Sh.int .u16) (Sh.pr (Sh.sl (Sh.pr (Sh.int .u8) (Sh.sl (Sh.int .u8)))) (Sh.sl (Sh.int .u8))))))]), (some Sh.bool), false⟩ 24 = some k337 := by kernel_rfl
theorem lk338 : compF Go.Proofs.Try.prog mF ⟨[0, 1, 2, 3, 4, 5, 6, 7, 8, 9], [none, none, none, none, none, none, none, none], false, (some []), (some Sh.bool), false⟩ 25 = some k338 := by kernel_rfl
theorem lk339 : compF Go.Proofs.Try.prog mF ⟨[0, 1, 2, 3, 5, 14, 15, 16, 17], [none, none, none, (some ⟨0, [], false, [2, 3, 14, 15, 16], [(3, (.imm []), 2002)]⟩), none, (some ⟨0, [], false, [2, 3], []⟩), none, none, none, none, none], false, (some [(Sh.st (Sh.pr Sh.bool (Sh.pr (Sh.int .u16) (Sh.pr (Sh.sl (Sh.pr (Sh.int .u8) (Sh.sl (Sh.int .u8)))) (Sh.sl (Sh.int .u8))))))]), (some (Sh.st (Sh.pr Sh.bool (Sh.pr (Sh.int .u16) (Sh.pr (Sh.sl (Sh.pr (Sh.int .u8) (Sh.sl (Sh.int .u8)))) (Sh.sl (Sh.int .u8))))))), false⟩ 27 = some k339 := by kernel_rfl
theorem lk340 : compF Go.Proofs.Try.prog mF ⟨[0, 1, 2, 3, 4, 7, 15, 18, 23, 33], [none, none, none, none, none, none, none, none, none, none, none, (some ⟨0, [], false, [1, 3], []⟩), none, (some ⟨0, [], false, [], []⟩), none, none, none, none, none, none, none], false, (some [(Sh.st (Sh.pr Sh.bool (Sh.pr (Sh.int .u16) (Sh.pr (Sh.sl (Sh.pr (Sh.int .u8) (Sh.sl (Sh.int .u8)))) (Sh.sl (Sh.int .u8))))))]), (some (Sh.int .i64)), false⟩ 31 = some k340 := by kernel_rfl
theorem lk341 : compF Go.Proofs.Try.prog mF ⟨[0, 2, 3, 4, 5, 6, 8, 10, 16, 21, 27, 33, 61], [none, none, none, none, none, none, none, none, none, none, none, none, none, none, none, none, none, none, none, none, none, none], false, (some [(Sh.sl (Sh.int .u8))]), (some (Sh.tu (Sh.pr (Sh.st (Sh.pr Sh.bool (Sh.pr (Sh.int .u16) (Sh.pr (Sh.sl (Sh.pr (Sh.int .u8) (Sh.sl (Sh.int .u8)))) (Sh.sl (Sh.int .u8)))))) (Sh.int .i64)))), false⟩ 32 = some k341 := by kernel_rfl
theorem lk342 : compF Go.Proofs.Try.prog mF ⟨[0, 2, 3, 4, 5, 6, 7, 8, 9, 10, 11, 12, 19, 25, 30, 35, 44, 55, 65, 79], [none, none, none, none, none, none, none, none, none, none, none, none, none, none, none, none, none, none, none, none, none, (some ⟨0, [], false, [2, 6, 7, 8, 9], [(7, (.imm []), 2002)]⟩), none, (some ⟨0, [], false, [2, 7, 8], []⟩), none, none, none, none, none, none, none, none, none, none, none, none], false, (some [(Sh.sl (Sh.int .u8))]), (some (Sh.tu (Sh.pr (Sh.st (Sh.pr Sh.bool (Sh.pr (Sh.int .u16) (Sh.pr (Sh.sl (Sh.pr (Sh.int .u8) (Sh.sl (Sh.int .u8)))) (Sh.sl (Sh.int .u8)))))) (Sh.int .i64)))), false⟩ 33 = some k342 := by kernel_rfl
theorem lk343 : compF Go.Proofs.Try.prog mF ⟨[0, 2, 3, 4, 6, 7, 11, 25, 39], [none, none, none, none, none, none, none, none, none, none, none, none, none, none, none, none], false, (some [(Sh.sl (Sh.int .u8))]), (some (Sh.tu (Sh.pr (Sh.int .i64) (Sh.int .i64)))), false⟩ 34 = some k343 := by kernel_rfl
theorem lk344 : compF Go.Proofs.Try.prog mF ⟨[0, 2, 3, 4, 7, 11, 37], [none, none, none, none, none, none, none, none, none, none, none, none, none], false, (some [(Sh.sl (Sh.int .u8))]), (some (Sh.tu (Sh.pr (Sh.int .i64) (Sh.int .i64)))), false⟩ 35 = some k344 := by kernel_rfl
theorem lk345 : compF Go.Proofs.Try.prog mF ⟨[0, 1, 2, 3, 4, 5, 12, 17, 31], [none, none, none, none, none, (some ⟨0, [], false, [2, 3, 5], []⟩), none, (some ⟨0, [], false, [2, 3], []⟩), none, none, none, none, none, none], false, (some [(Sh.st (Sh.pr Sh.bool (Sh.pr (Sh.int .u16) (Sh.pr (Sh.sl (Sh.pr (Sh.int .u8) (Sh.sl (Sh.int .u8)))) (Sh.sl (Sh.int .u8)))))), (Sh.st (Sh.pr Sh.bool (Sh.pr (Sh.int .u16) (Sh.pr (Sh.sl (Sh.pr (Sh.int .u8) (Sh.sl (Sh.int .u8)))) (Sh.sl (Sh.int .u8))))))]), (some Sh.bool), false⟩ 36 = some k345 := by kernel_rfl
theorem lk346 : compF Go.Proofs.Try.prog mF ⟨[0, 2], [none, none, none], false, (some [(Sh.sl (Sh.int .u8))]), (some (Sh.st (Sh.pr Sh.bool (Sh.pr (Sh.int .u16) (Sh.pr (Sh.sl (Sh.pr (Sh.int .u8) (Sh.sl (Sh.int .u8)))) (Sh.sl (Sh.int .u8))))))), false⟩ 38 = some k346 := by kernel_rfl
theorem lk358 : compF Go.Proofs.Try.prog mF ⟨[0, 1, 2, 4, 5, 11, 17, 35, 41], [none, none, none, none, none, none, none, none, none, none, none, none, none, none, none, none, none, none, none, none], false, (some [(Sh.st (Sh.pr Sh.bool (Sh.pr (Sh.int .u16) (Sh.pr (Sh.sl (Sh.pr (Sh.int .u8) (Sh.sl (Sh.int .u8)))) (Sh.sl (Sh.int .u8))))))]), (some Sh.bool), false⟩ 54 = some k358 := by kernel_rfl
theorem lk359 : compF Go.Proofs.Try.prog mF ⟨[0, 1, 4, 5, 6, 7, 8, 9, 11, 12, 13, 14, 22, 34], [none, none, none, none, none, none, (some ⟨0, [], false, [0, 6, 12, 13], [(6, (.imm []), 2)]⟩), none, (some ⟨0, [], false, [0, 6], []⟩), none, none, none, none, none, none, none, none, none, none, none, none], false, (some [(Sh.sl (Sh.int .u8)), (Sh.int .u64)]), (some (Sh.tu (Sh.pr (Sh.sl (Sh.pr (Sh.int .u8) (Sh.sl (Sh.int .u8)))) (Sh.int .i64)))), false⟩ 57 = some k359 := by kernel_rfl
theorem lk360 : compF Go.Proofs.Try.prog mF ⟨[0, 1, 2, 3, 4], [none, none, none], false, (some [(Sh.st (Sh.pr (Sh.int .u8) (Sh.sl (Sh.int .u8)))), (Sh.st (Sh.pr (Sh.int .u8) (Sh.sl (Sh.int .u8))))]), (some Sh.bool), false⟩ 60 = some k360 := by kernel_rfl
theorem lk363 : compF Go.Proofs.Try.prog mF ⟨[0, 1, 4, 5, 10, 14, 26], [none, none, none, none, none, (some ⟨0, [], false, [0, 1, 5], []⟩), none, (some ⟨0, [], false, [], []⟩), none, none, none, none, none, none], false, (some [(Sh.sl (Sh.pr (Sh.int .u8) (Sh.sl (Sh.int .u8)))), (Sh.sl (Sh.int .u8))]), (some Sh.bool), false⟩ 70 = some k363 := by kernel_rfl
theorem mF_mem {f g : Nat} (h : mF f = some g) : (f, g) ∈ mT := by
  simp only [mF, Option.map_eq_some_iff] at h
  obtain ⟨p, h1, h2⟩ := h
  have h3 := List.mem_of_find?_eq_some h1
  have h4 := List.find?_some h1
  have h5 : p.1 = f := by simpa using h4
  rw [← h5, ← h2]; exact h3
theorem link : Link Go.Proofs.Try.prog mF FT := by
  intro f g fn hm hF
  have h := mF_mem hm
  simp only [mT, List.mem_cons, Prod.mk.injEq, List.not_mem_nil, or_false] at h
  rcases h with ⟨rfl, rfl⟩ | ⟨rfl, rfl⟩ | ⟨rfl, rfl⟩ | ⟨rfl, rfl⟩ | ⟨rfl, rfl⟩ | ⟨rfl, rfl⟩ | ⟨rfl, rfl⟩ | ⟨rfl, rfl⟩ | ⟨rfl, rfl⟩ | ⟨rfl, rfl⟩ | ⟨rfl, rfl⟩ | ⟨rfl, rfl⟩ | ⟨rfl, rfl⟩ | ⟨rfl, rfl⟩ | ⟨rfl, rfl⟩ | ⟨rfl, rfl⟩ | ⟨rfl, rfl⟩ | ⟨rfl, rfl⟩ | ⟨rfl, rfl⟩ | ⟨rfl, rfl⟩ | ⟨rfl, rfl⟩ | ⟨rfl, rfl⟩ | ⟨rfl, rfl⟩ | ⟨rfl, rfl⟩ | ⟨rfl, rfl⟩ | ⟨rfl, rfl⟩ | ⟨rfl, rfl⟩ | ⟨rfl, rfl⟩ | ⟨rfl, rfl⟩ | ⟨rfl, rfl⟩ | ⟨rfl, rfl⟩ | ⟨rfl, rfl⟩ | ⟨rfl, rfl⟩ | ⟨rfl, rfl⟩ | ⟨rfl, rfl⟩ | ⟨rfl, rfl⟩ | ⟨rfl, rfl⟩ | ⟨rfl, rfl⟩ | ⟨rfl, rfl⟩ | ⟨rfl, rfl⟩ | ⟨rfl, rfl⟩ | ⟨rfl, rfl⟩ | ⟨rfl, rfl⟩ | ⟨rfl, rfl⟩ | ⟨rfl, rfl⟩ | ⟨rfl, rfl⟩ | ⟨rfl, rfl⟩ | ⟨rfl, rfl⟩ | ⟨rfl, rfl⟩ | ⟨rfl, rfl⟩ | ⟨rfl, rfl⟩ | ⟨rfl, rfl⟩ | ⟨rfl, rfl⟩ | ⟨rfl, rfl⟩ | ⟨rfl, rfl⟩
  · injection hF with hF; subst hF; exact compF_ok lk1
  · injection hF with hF; subst hF; exact compF_ok lk19
  · injection hF with hF; subst hF; exact compF_ok lk21
  · injection hF with hF; subst hF; exact compF_ok lk23
  · injection hF with hF; subst hF; exact compF_ok lk46
  · injection hF with hF; subst hF; exact compF_ok lk48
  · injection hF with hF; subst hF; exact compF_ok lk50
  · injection hF with hF; subst hF; exact compF_ok lk51
  · injection hF with hF; subst hF; exact compF_ok lk64
  · cases hF
  · injection hF with hF; subst hF; exact compF_ok lk139
  · injection hF with hF; subst hF; exact compF_ok lk141
  · injection hF with hF; subst hF; exact compF_ok lk142
  · injection hF with hF; subst hF; exact compF_ok lk143
  · injection hF with hF; subst hF; exact compF_ok lk144
  · injection hF with hF; subst hF; exact compF_ok lk145
  · injection hF with hF; subst hF; exact compF_ok lk146
  · injection hF with hF; subst hF; exact compF_ok lk160
  · injection hF with hF; subst hF; exact compF_ok lk161
  · injection hF with hF; subst hF; exact compF_ok lk162
  · injection hF with hF; subst hF; exact compF_ok lk163
  · injection hF with hF; subst hF; exact compF_ok lk164
  · injection hF with hF; subst hF; exact compF_ok lk165
  · injection hF with hF; subst hF; exact compF_ok lk302
  · injection hF with hF; subst hF; exact compF_ok lk313
  · injection hF with hF; subst hF; exact compF_ok lk316
  · injection hF with hF; subst hF; exact compF_ok lk317
  · injection hF with hF; subst hF; exact compF_ok lk319
  · cases hF
  · injection hF with hF; subst hF; exact compF_ok lk321
  · injection hF with hF; subst hF; exact compF_ok lk322
  · injection hF with hF; subst hF; exact compF_ok lk323
  · injection hF with hF; subst hF; exact compF_ok lk324
  · injection hF with hF; subst hF; exact compF_ok lk325
  · injection hF with hF; subst hF; exact compF_ok lk326
  · injection hF with hF; subst hF; exact compF_ok lk327
  · injection hF with hF; subst hF; exact compF_ok lk328
  · injection hF with hF; subst hF; exact compF_ok lk329
  · injection hF with hF; subst hF; exact compF_ok lk330
  · injection hF with hF; subst hF; exact compF_ok lk331
  · injection hF with hF; subst hF; exact compF_ok lk332
  · injection hF with hF; subst hF; exact compF_ok lk337
  · injection hF with hF; subst hF; exact compF_ok lk338
  · injection hF with hF; subst hF; exact compF_ok lk339
  · injection hF with hF; subst hF; exact compF_ok lk340
  · injection hF with hF; subst hF; exact compF_ok lk341
  · injection hF with hF; subst hF; exact compF_ok lk342
  · injection hF with hF; subst hF; exact compF_ok lk343
  · injection hF with hF; subst hF; exact compF_ok lk344
  · injection hF with hF; subst hF; exact compF_ok lk345
  · injection hF with hF; subst hF; exact compF_ok lk346
  · injection hF with hF; subst hF; exact compF_ok lk358
  · injection hF with hF; subst hF; exact compF_ok lk359
  · injection hF with hF; subst hF; exact compF_ok lk360
  · injection hF with hF; subst hF; exact compF_ok lk363
theorem lk320 : compF Go.Proofs.Try.prog mF ⟨[0, 2, 4], [none, none, none, none, none, none], false, (some [.sl shA]), (some (.sl shA)), false⟩ 61 = some kclone2 := by kernel_rfl
theorem lk108 : compF Go.Proofs.Try.prog mF ⟨[0, 2, 4], [none, none, none, none, none, none], false, (some [(Sh.sl (Sh.int .u8))]), none, false⟩ 40 = some kclone := by kernel_rfl
theorem xok : XOK Go.Proofs.Try.prog mF where
  c61 := fun f h => by
    have h := mF_mem h
    simp only [mT, List.mem_cons, Prod.mk.injEq, List.not_mem_nil, or_false] at h
    omega
  c108 := fun f h => by
    have h := mF_mem h
    simp only [mT, List.mem_cons, Prod.mk.injEq, List.not_mem_nil, or_false] at h
    obtain rfl : f = 40 := by omega
    exact compF_ok lk108
  c320 := fun f h => by
    have h := mF_mem h
    simp only [mT, List.mem_cons, Prod.mk.injEq, List.not_mem_nil, or_false] at h
    obtain rfl : f = 61 := by omega
    exact compF_ok lk320
  c66 := fun f h => by
    have h := mF_mem h
    simp only [mT, List.mem_cons, Prod.mk.injEq, List.not_mem_nil, or_false] at h
    omega
end Go.Proofs.YteagngpgghnlmaaE
