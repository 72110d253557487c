/- The evaluator's functions are the program's. -/
import Derived.Test.YteagngpgghnlmaaEvFL2
import Derived.Test.YteagngpgghnlmaaChecked
import Derived.KernelRfl
namespace Go.Proofs.YteagngpgghnlmaaE
open Go
set_option linter.unusedVariables false
set_option linter.unusedSimpArgs false
def mT : List (Nat × Nat) := [(63, 1), (64, 19), (56, 21), (46, 46), (74, 48), (58, 51), (73, 64), (40, 108), (62, 139), (72, 142), (59, 143), (43, 144), (44, 160), (68, 161), (65, 162), (22, 302), (42, 313), (37, 316), (26, 317), (61, 320), (45, 321), (47, 322), (3, 333), (4, 334), (5, 335), (6, 336), (32, 341), (33, 342), (34, 343), (35, 344), (38, 346), (12, 347), (13, 348), (14, 349), (15, 350), (16, 351), (17, 352), (18, 353), (19, 354), (20, 355), (21, 356), (23, 357), (57, 359), (39, 361), (41, 362)]
def mF : Nat → Option Nat := fun f => (mT.find? (·.1 == f)).map (·.2)
theorem lk1 : compF Go.Proofs.Try.prog mF ⟨[0, 2, 3, 5, 6, 8, 9, 10, 11, 12, 20, 25, 26, 27, 28], [none, none, none, (some ⟨0, [], false, [0, 3, 9, 10, 11], []⟩), none, (some ⟨0, [], false, [0, 3], []⟩), none, none, none, none, none, none, none, (some ⟨1, [], false, [6, 25, 26, 27], []⟩), none, (some ⟨0, [], false, [6], []⟩), none, none, none, none, none], false, (some [(Sh.sl (Sh.sl (Sh.int .u8)))]), none, false⟩ 63 = some k1 := by kernel_rfl
theorem lk19 : compF Go.Proofs.Try.prog mF ⟨[0, 1, 2, 6, 7, 8, 9, 15, 19, 20, 21, 33], [none, none, none, none, none, none, (some ⟨0, [], false, [0, 2, 8, 19, 20], []⟩), none, (some ⟨0, [], false, [2, 8], []⟩), none, none, none, none, none, none, none], false, (some [(Sh.int .u64), (Sh.int .i64), Sh.bool]), (some (Sh.tu (Sh.pr (Sh.sl (Sh.int .u8)) (Sh.int .i64)))), false⟩ 64 = some k19 := by kernel_rfl
theorem lk21 : compF Go.Proofs.Try.prog mF ⟨[0, 1, 4, 5, 6, 7, 8, 16, 17, 18, 19, 20, 24], [none, none, none, none, none, none, (some ⟨0, [], false, [1, 6, 17, 18, 19], []⟩), none, (some ⟨0, [], false, [6], []⟩), none, none, none, none, none, none, none], false, (some [(Sh.sl (Sh.int .u8)), Sh.bool]), (some (Sh.tu (Sh.pr (Sh.int .u64) (Sh.int .i64)))), false⟩ 56 = some k21 := by kernel_rfl
theorem lk46 : compF Go.Proofs.Try.prog mF ⟨[0, 2], [none, none, none], false, (some [(Sh.sl (Sh.sl (Sh.int .u8)))]), none, false⟩ 46 = some k46 := by kernel_rfl
theorem lk48 : compF Go.Proofs.Try.prog mF ⟨[0, 2, 3, 9], [none, (some ⟨0, [], false, [0, 2, 3], []⟩), none, (some ⟨0, [], false, [], []⟩), none, none], true, none, none, false⟩ 74 = some k48 := by kernel_rfl
theorem lk51 : compF Go.Proofs.Try.prog mF ⟨[0, 2, 3, 4, 8], [none, none, none, (some ⟨0, [], false, [0, 3, 4], []⟩), none, (some ⟨0, [], false, [3], []⟩), none, none, none, none], false, (some [(Sh.sl (Sh.int .u8))]), (some (Sh.int .u64)), false⟩ 58 = some k51 := by kernel_rfl
theorem lk64 : compF Go.Proofs.Try.prog mF ⟨[0, 1, 4, 6, 16], [none, none, none, none, none, none, none, (some ⟨0, [], true, [], [(4, (.ints .u8 []), 1)]⟩)], false, none, none, false⟩ 73 = some k64 := by kernel_rfl
theorem lk139 : compF Go.Proofs.Try.prog mF ⟨[0, 1, 2, 3, 4, 5, 11, 16], [none, none, none, none, none, none, none, none, none, none, none], false, (some [(Sh.st (Sh.pr (Sh.int .u8) (Sh.sl (Sh.int .u8))))]), (some (Sh.tu (Sh.pr (Sh.sl (Sh.int .u8)) (Sh.int .i64)))), false⟩ 62 = some k139 := by kernel_rfl
theorem lk142 : compF Go.Proofs.Try.prog mF ⟨[0, 2, 3, 4, 5, 7, 10, 20, 34, 41], [none, none, none, none, none, none, none, none, none, none, none, none, none, none, none, none, none], false, (some [(Sh.sl (Sh.int .u8))]), (some (Sh.tu (Sh.pr (Sh.st (Sh.pr (Sh.int .u8) (Sh.sl (Sh.int .u8)))) (Sh.pr (Sh.int .i64) (Sh.int .i64))))), false⟩ 72 = some k142 := by kernel_rfl
theorem lk143 : compF Go.Proofs.Try.prog mF ⟨[0, 2, 3, 4, 5, 8, 25, 31, 36], [none, none, none, none, none, none, none, none, none, none, none, none, none, none, none, none], false, (some [(Sh.sl (Sh.int .u8))]), (some (Sh.tu (Sh.pr (Sh.st (Sh.pr (Sh.int .u8) (Sh.sl (Sh.int .u8)))) (Sh.pr (Sh.int .i64) (Sh.int .i64))))), false⟩ 59 = some k143 := by kernel_rfl
theorem lk144 : compF Go.Proofs.Try.prog mF ⟨[0, 1, 2, 3, 4], [none, none, none], false, (some [(Sh.st (Sh.pr (Sh.int .u8) (Sh.sl (Sh.int .u8)))), (Sh.st (Sh.pr (Sh.int .u8) (Sh.sl (Sh.int .u8))))]), (some Sh.bool), false⟩ 43 = some k144 := by kernel_rfl
theorem lk160 : compF Go.Proofs.Try.prog mF ⟨[0, 1, 4], [none, none, none], false, (some [(Sh.sl (Sh.int .u8)), (Sh.sl (Sh.int .u8))]), (some Sh.bool), false⟩ 44 = some k160 := by kernel_rfl
theorem lk161 : compF Go.Proofs.Try.prog mF ⟨[0, 2], [none, none, none], false, (some [(Sh.int .u8)]), (some Sh.bool), false⟩ 68 = some k161 := by kernel_rfl
theorem lk162 : compF Go.Proofs.Try.prog mF ⟨[0, 2], [none, none, none], false, (some [(Sh.int .u8)]), (some Sh.bool), false⟩ 65 = some k162 := by kernel_rfl
theorem lk302 : compF Go.Proofs.Try.prog mF ⟨[0, 1, 2, 3, 4], [none, none, none], false, (some [(Sh.st (Sh.pr Sh.bool (Sh.pr (Sh.int .u16) (Sh.pr (Sh.sl (Sh.pr (Sh.int .u8) (Sh.sl (Sh.int .u8)))) (Sh.sl (Sh.int .u8)))))), (Sh.st (Sh.pr Sh.bool (Sh.pr (Sh.int .u16) (Sh.pr (Sh.sl (Sh.pr (Sh.int .u8) (Sh.sl (Sh.int .u8)))) (Sh.sl (Sh.int .u8))))))]), (some Sh.bool), false⟩ 22 = some k302 := by kernel_rfl
theorem lk313 : compF Go.Proofs.Try.prog mF ⟨[0, 1, 2, 6, 7, 8, 9, 14, 15, 16, 17, 18, 30], [none, none, none, none, none, (some ⟨0, [], false, [1, 2, 15, 16, 17], []⟩), none, (some ⟨0, [], false, [], []⟩), none, none, none, none, none, none, none, none], false, none, none, false⟩ 42 = some k313 := by kernel_rfl
theorem lk316 : compF Go.Proofs.Try.prog mF ⟨[0, 1, 4], [none, none, none], false, (some [(Sh.int .u16), (Sh.sl (Sh.pr (Sh.int .u8) (Sh.sl (Sh.int .u8))))]), (some (Sh.st (Sh.pr Sh.bool (Sh.pr (Sh.int .u16) (Sh.pr (Sh.sl (Sh.pr (Sh.int .u8) (Sh.sl (Sh.int .u8)))) (Sh.sl (Sh.int .u8))))))), false⟩ 37 = some k316 := by kernel_rfl
theorem lk317 : compF Go.Proofs.Try.prog mF ⟨[0, 1, 2, 3, 4, 5, 6, 12, 16, 22], [none, none, none, none, none, none, none, none, none, none, none, none, none], false, (some [(Sh.st (Sh.pr Sh.bool (Sh.pr (Sh.int .u16) (Sh.pr (Sh.sl (Sh.pr (Sh.int .u8) (Sh.sl (Sh.int .u8)))) (Sh.sl (Sh.int .u8))))))]), (some (Sh.tu (Sh.pr (Sh.sl (Sh.int .u8)) (Sh.int .i64)))), false⟩ 26 = some k317 := by kernel_rfl
theorem lk321 : compF Go.Proofs.Try.prog mF ⟨[0, 1, 2, 3, 4, 6, 7, 8, 9, 19, 25, 41, 42, 43, 44, 53], [none, none, none, none, none, none, none, none, none, none, none, none, (some ⟨0, [], false, [4, 41, 42, 43], []⟩), none, (some ⟨0, [], false, [4], []⟩), none, none, none, none, none, none, none, none, none], false, (some [(Sh.st (Sh.pr Sh.bool (Sh.pr (Sh.int .u16) (Sh.pr (Sh.sl (Sh.pr (Sh.int .u8) (Sh.sl (Sh.int .u8)))) (Sh.sl (Sh.int .u8))))))]), (some (Sh.tu (Sh.pr (Sh.sl (Sh.int .u8)) (Sh.int .i64)))), false⟩ 45 = some k321 := by kernel_rfl
theorem lk322 : compF Go.Proofs.Try.prog mF ⟨[0, 2, 3], [none, none, none, none], false, (some [(Sh.int .i64)]), (some (Sh.sl (Sh.int .u8))), false⟩ 47 = some k322 := by kernel_rfl
theorem lk333 : compF Go.Proofs.Try.prog mF ⟨[0, 1, 4, 6, 7, 8, 9, 11, 12, 13, 14, 22, 26, 27, 28, 29, 58], [none, none, none, none, none, (some ⟨0, [], false, [0, 1, 26, 27, 28], []⟩), none, (some ⟨0, [], false, [0, 1], []⟩), none, none, none, none, none, none, none, none, none, none, none, none], false, (some [(Sh.sl (Sh.int .u8)), (Sh.sl (Sh.int .u8))]), (some Sh.bool), false⟩ 3 = some k333 := by kernel_rfl
theorem lk334 : compF Go.Proofs.Try.prog mF ⟨[0, 1, 4, 5, 6, 8, 10, 13, 18, 19, 20, 21, 35, 66], [none, none, none, none, none, none, none, (some ⟨0, [], false, [5, 6, 18, 19, 20], []⟩), none, (some ⟨0, [], false, [], []⟩), none, none, none, none, none, none, none, none, none, none, none, none], false, (some [(Sh.sl (Sh.int .u8)), (Sh.sl (Sh.int .u16))]), (some Sh.bool), false⟩ 4 = some k334 := by kernel_rfl
theorem lk335 : compF Go.Proofs.Try.prog mF ⟨[0, 1, 4, 5, 6, 7, 8, 10, 11, 12, 13, 14, 15, 16, 17, 18, 21, 25, 28, 29, 30, 31, 53, 61, 72, 109, 111, 112, 113, 127], [none, none, none, none, none, none, none, none, none, none, (some ⟨0, [], false, [0, 5, 6, 7, 8, 28, 29, 30], []⟩), none, (some ⟨0, [], false, [], []⟩), none, none, none, none, none, none, none, none, (some ⟨0, [], false, [0, 5, 6, 7, 8, 28, 29, 30], []⟩), none, none, none, none, none, none, none, none, (some ⟨1, [], false, [0, 5, 6, 7, 8, 11, 14, 28, 29, 30, 111, 112], []⟩), none, (some ⟨0, [], false, [0, 5, 6, 8, 11, 28, 29, 30], []⟩), none, none, none, none, none, none, none, none, none], false, (some [(Sh.sl (Sh.int .u8)), (Sh.sl (Sh.int .u16))]), (some Sh.bool), false⟩ 5 = some k335 := by kernel_rfl
theorem lk336 : compF Go.Proofs.Try.prog mF ⟨[0, 1, 4, 5, 6, 7, 8, 10, 11, 13, 14, 17, 19, 20, 23, 29, 30, 31, 32, 51, 54, 55, 56, 112, 114, 115, 116, 127], [none, none, none, none, none, none, none, (some ⟨0, [], false, [0, 5, 6, 7, 8, 29, 30, 31], [(7, (.imm []), 4)]⟩), none, (some ⟨0, [], false, [0, 5, 6, 7, 8], []⟩), none, none, none, none, none, none, none, none, (some ⟨1, [], false, [0, 5, 6, 7, 8, 54, 55], [(8, (.imm []), 4)]⟩), none, (some ⟨0, [], false, [5, 6, 7, 8], []⟩), none, none, none, none, none, none, none, none, none, none, (some ⟨2, [(7, (Sh.sl (Sh.pr Sh.bool (Sh.pr (Sh.int .u16) (Sh.pr (Sh.sl (Sh.pr (Sh.int .u8) (Sh.sl (Sh.int .u8)))) (Sh.sl (Sh.int .u8))))))), (8, (Sh.sl (Sh.pr Sh.bool (Sh.pr (Sh.int .u16) (Sh.pr (Sh.sl (Sh.pr (Sh.int .u8) (Sh.sl (Sh.int .u8)))) (Sh.sl (Sh.int .u8)))))))], false, [7, 8, 114, 115], []⟩), none, (some ⟨0, [], false, [], []⟩), none, none, none, none, none, none, none], false, (some [(Sh.sl (Sh.int .u8)), (Sh.sl (Sh.int .u16))]), (some Sh.bool), false⟩ 6 = some k336 := by kernel_rfl
theorem lk341 : compF Go.Proofs.Try.prog mF ⟨[0, 2, 3, 4, 5, 6, 8, 10, 16, 21, 27, 33, 61], [none, none, none, none, none, none, none, none, none, none, none, none, none, none, none, none, none, none, none, none, none, none], false, (some [(Sh.sl (Sh.int .u8))]), (some (Sh.tu (Sh.pr (Sh.st (Sh.pr Sh.bool (Sh.pr (Sh.int .u16) (Sh.pr (Sh.sl (Sh.pr (Sh.int .u8) (Sh.sl (Sh.int .u8)))) (Sh.sl (Sh.int .u8)))))) (Sh.int .i64)))), false⟩ 32 = some k341 := by kernel_rfl
theorem lk342 : compF Go.Proofs.Try.prog mF ⟨[0, 2, 3, 4, 5, 6, 7, 8, 9, 10, 11, 12, 19, 25, 30, 35, 44, 55, 65, 79], [none, none, none, none, none, none, none, none, none, none, none, none, none, none, none, none, none, none, none, none, none, (some ⟨0, [], false, [2, 6, 7, 8, 9], [(7, (.imm []), 2002)]⟩), none, (some ⟨0, [], false, [2, 7, 8], []⟩), none, none, none, none, none, none, none, none, none, none, none, none], false, (some [(Sh.sl (Sh.int .u8))]), (some (Sh.tu (Sh.pr (Sh.st (Sh.pr Sh.bool (Sh.pr (Sh.int .u16) (Sh.pr (Sh.sl (Sh.pr (Sh.int .u8) (Sh.sl (Sh.int .u8)))) (Sh.sl (Sh.int .u8)))))) (Sh.int .i64)))), false⟩ 33 = some k342 := by kernel_rfl
theorem lk343 : compF Go.Proofs.Try.prog mF ⟨[0, 2, 3, 4, 6, 7, 11, 25, 39], [none, none, none, none, none, none, none, none, none, none, none, none, none, none, none, none], false, (some [(Sh.sl (Sh.int .u8))]), (some (Sh.tu (Sh.pr (Sh.int .i64) (Sh.int .i64)))), false⟩ 34 = some k343 := by kernel_rfl
theorem lk344 : compF Go.Proofs.Try.prog mF ⟨[0, 2, 3, 4, 7, 11, 37], [none, none, none, none, none, none, none, none, none, none, none, none, none], false, (some [(Sh.sl (Sh.int .u8))]), (some (Sh.tu (Sh.pr (Sh.int .i64) (Sh.int .i64)))), false⟩ 35 = some k344 := by kernel_rfl
theorem lk346 : compF Go.Proofs.Try.prog mF ⟨[0, 2], [none, none, none], false, (some [(Sh.sl (Sh.int .u8))]), (some (Sh.st (Sh.pr Sh.bool (Sh.pr (Sh.int .u16) (Sh.pr (Sh.sl (Sh.pr (Sh.int .u8) (Sh.sl (Sh.int .u8)))) (Sh.sl (Sh.int .u8))))))), false⟩ 38 = some k346 := by kernel_rfl
theorem lk347 : compF Go.Proofs.Try.prog mF ⟨[0, 1, 2, 3, 4, 5, 6, 7, 8, 25], [none, none, none, none, none, none, none, none, none, none, none], false, (some []), (some Sh.bool), false⟩ 12 = some k347 := by kernel_rfl
theorem lk348 : compF Go.Proofs.Try.prog mF ⟨[0, 1, 4, 5, 6, 7, 8, 9, 12, 17, 38, 48], [none, none, none, (some ⟨0, [(0, (Sh.st (Sh.pr Sh.bool (Sh.pr (Sh.sl (Sh.int .u8)) (Sh.pr (Sh.int .i64) (Sh.pr (Sh.int .i64) (Sh.int .i64))))))), (4, (Sh.sl (Sh.pr Sh.bool (Sh.pr (Sh.int .u16) (Sh.pr (Sh.sl (Sh.pr (Sh.int .u8) (Sh.sl (Sh.int .u8)))) (Sh.sl (Sh.int .u8)))))))], true, [], []⟩), none, none, (some ⟨0, [(0, (Sh.st (Sh.pr Sh.bool (Sh.pr (Sh.sl (Sh.int .u8)) (Sh.pr (Sh.int .i64) (Sh.pr (Sh.int .i64) (Sh.int .i64))))))), (4, (Sh.sl (Sh.pr Sh.bool (Sh.pr (Sh.int .u16) (Sh.pr (Sh.sl (Sh.pr (Sh.int .u8) (Sh.sl (Sh.int .u8)))) (Sh.sl (Sh.int .u8)))))))], true, [], []⟩), none, none, (some ⟨0, [(0, (Sh.st (Sh.pr Sh.bool (Sh.pr (Sh.sl (Sh.int .u8)) (Sh.pr Sh.bool (Sh.pr Sh.bool Sh.bool))))))], false, [0, 6], [(6, (.imm []), 4)]⟩), none, none, none, (some ⟨0, [(0, (Sh.st (Sh.pr Sh.bool (Sh.pr (Sh.sl (Sh.int .u8)) (Sh.pr (Sh.int .i64) (Sh.pr (Sh.int .i64) (Sh.int .i64)))))))], false, [0, 6], []⟩), none, (some ⟨0, [(0, (Sh.st (Sh.pr Sh.bool (Sh.pr (Sh.sl (Sh.int .u8)) (Sh.pr (Sh.int .i64) (Sh.pr (Sh.int .i64) (Sh.int .i64)))))))], false, [0, 6], []⟩), none, none, (some ⟨0, [(0, (Sh.st (Sh.pr Sh.bool (Sh.pr (Sh.sl (Sh.int .u8)) (Sh.pr (Sh.int .i64) (Sh.pr (Sh.int .i64) (Sh.int .i64))))))), (4, (Sh.sl (Sh.pr Sh.bool (Sh.pr (Sh.int .u16) (Sh.pr (Sh.sl (Sh.pr (Sh.int .u8) (Sh.sl (Sh.int .u8)))) (Sh.sl (Sh.int .u8)))))))], true, [], []⟩)], false, none, none, false⟩ 13 = some k348 := by kernel_rfl
theorem lk349 : compF Go.Proofs.Try.prog mF ⟨[0, 2, 5], [none, none, none, none, none, none], false, none, none, false⟩ 14 = some k349 := by kernel_rfl
theorem lk350 : compF Go.Proofs.Try.prog mF ⟨[0, 2, 5], [none, none, none, none, none, none], false, none, none, false⟩ 15 = some k350 := by kernel_rfl
theorem lk351 : compF Go.Proofs.Try.prog mF ⟨[0, 2, 5], [none, none, none, none, none, none], false, none, none, false⟩ 16 = some k351 := by kernel_rfl
theorem lk352 : compF Go.Proofs.Try.prog mF ⟨[0, 2, 3, 4, 14, 24], [none, none, none, none, none, none, none, none, none], false, none, none, false⟩ 17 = some k352 := by kernel_rfl
theorem lk353 : compF Go.Proofs.Try.prog mF ⟨[0], [none, none, (some ⟨0, [(0, (Sh.st (Sh.pr Sh.bool (Sh.pr (Sh.sl (Sh.int .u8)) (Sh.pr (Sh.int .i64) (Sh.pr (Sh.int .i64) (Sh.int .i64)))))))], true, [], []⟩)], false, none, none, false⟩ 18 = some k353 := by kernel_rfl
theorem lk354 : compF Go.Proofs.Try.prog mF ⟨[0, 1, 4, 5, 7, 8, 13, 14, 15, 16], [none, none, none, (some ⟨0, [], false, [0, 5, 13, 14, 15], [(5, (.imm []), 1)]⟩), none, (some ⟨0, [], false, [0, 5], []⟩), none, none, none, none, none, none, none], false, (some [(Sh.sl (Sh.int .u8)), (Sh.sl (Sh.int .u16))]), (some (Sh.sl (Sh.sl (Sh.int .u8)))), false⟩ 19 = some k354 := by kernel_rfl
theorem lk355 : compF Go.Proofs.Try.prog mF ⟨[0, 2, 3, 4, 5, 6, 7, 8, 9, 14, 23, 32, 46], [none, none, none, (some ⟨0, [], false, [0, 5, 6], [(5, (.imm []), 4)]⟩), none, (some ⟨0, [], false, [5, 6], []⟩), none, none, none, none, none, none, none, none, none, none, none, none, none, none, none], false, (some [(Sh.sl (Sh.int .u8))]), (some (Sh.tu (Sh.pr (Sh.sl (Sh.pr Sh.bool (Sh.pr (Sh.int .u16) (Sh.pr (Sh.sl (Sh.pr (Sh.int .u8) (Sh.sl (Sh.int .u8)))) (Sh.sl (Sh.int .u8)))))) (Sh.pr (Sh.int .i64) (Sh.int .i64))))), false⟩ 20 = some k355 := by kernel_rfl
theorem lk356 : compF Go.Proofs.Try.prog mF ⟨[0, 2, 3, 7], [none, none, none, none, none, none, none], false, (some [(Sh.sl (Sh.int .u8))]), (some (Sh.int .i64)), false⟩ 21 = some k356 := by kernel_rfl
theorem lk357 : compF Go.Proofs.Try.prog mF ⟨[0, 1, 2, 3, 5, 14, 15, 16, 17], [none, none, none, (some ⟨0, [], false, [2, 3, 14, 15, 16], [(3, (.imm []), 2002)]⟩), none, (some ⟨0, [], false, [2, 3], []⟩), none, none, none, none, none], false, (some [(Sh.st (Sh.pr Sh.bool (Sh.pr (Sh.int .u16) (Sh.pr (Sh.sl (Sh.pr (Sh.int .u8) (Sh.sl (Sh.int .u8)))) (Sh.sl (Sh.int .u8))))))]), (some (Sh.st (Sh.pr Sh.bool (Sh.pr (Sh.int .u16) (Sh.pr (Sh.sl (Sh.pr (Sh.int .u8) (Sh.sl (Sh.int .u8)))) (Sh.sl (Sh.int .u8))))))), false⟩ 23 = some k357 := by kernel_rfl
theorem lk359 : compF Go.Proofs.Try.prog mF ⟨[0, 1, 4, 5, 6, 7, 8, 9, 11, 12, 13, 14, 22, 34], [none, none, none, none, none, none, (some ⟨0, [], false, [0, 6, 12, 13], [(6, (.imm []), 2)]⟩), none, (some ⟨0, [], false, [0, 6], []⟩), none, none, none, none, none, none, none, none, none, none, none, none], false, (some [(Sh.sl (Sh.int .u8)), (Sh.int .u64)]), (some (Sh.tu (Sh.pr (Sh.sl (Sh.pr (Sh.int .u8) (Sh.sl (Sh.int .u8)))) (Sh.int .i64)))), false⟩ 57 = some k359 := by kernel_rfl
theorem lk361 : compF Go.Proofs.Try.prog mF ⟨[0, 2], [none, none, none], false, none, none, true⟩ 39 = some k361 := by kernel_rfl
theorem lk362 : compF Go.Proofs.Try.prog mF ⟨[0, 2, 3, 4, 5, 6, 7, 16, 20, 45], [none, none, none, none, (some ⟨0, [(0, (Sh.st (Sh.pr Sh.bool (Sh.pr (Sh.sl (Sh.int .u8)) (Sh.pr (Sh.int .i64) (Sh.pr (Sh.int .i64) (Sh.int .i64)))))))], true, [], []⟩), none, none, (some ⟨0, [(0, (Sh.st (Sh.pr Sh.bool (Sh.pr (Sh.sl (Sh.int .u8)) (Sh.pr (Sh.int .i64) (Sh.pr (Sh.int .i64) (Sh.int .i64)))))))], true, [], []⟩), none, none, none, (some ⟨0, [(0, (Sh.st (Sh.pr Sh.bool (Sh.pr (Sh.sl (Sh.int .u8)) (Sh.pr (Sh.int .i64) (Sh.pr (Sh.int .i64) (Sh.int .i64)))))))], true, [], []⟩), none, none, none, none, (some ⟨0, [(0, (Sh.st (Sh.pr Sh.bool (Sh.pr (Sh.sl (Sh.int .u8)) (Sh.pr (Sh.int .i64) (Sh.pr (Sh.int .i64) (Sh.int .i64)))))))], true, [], []⟩)], false, none, none, false⟩ 41 = some k362 := by kernel_rfl
theorem mF_mem {f g : Nat} (h : mF f = some g) : (f, g) ∈ mT := by
  simp only [mF, Option.map_eq_some_iff] at h
  obtain ⟨p, h1, h2⟩ := h
  have h3 := List.mem_of_find?_eq_some h1
  have h4 := List.find?_some h1
  have h5 : p.1 = f := by simpa using h4
  rw [← h5, ← h2]; exact h3
theorem link : Link Go.Proofs.Try.prog mF FT := by
  intro f g fn hm hF
  have h := mF_mem hm
  simp only [mT, List.mem_cons, Prod.mk.injEq, List.not_mem_nil, or_false] at h
  rcases h with ⟨rfl, rfl⟩ | ⟨rfl, rfl⟩ | ⟨rfl, rfl⟩ | ⟨rfl, rfl⟩ | ⟨rfl, rfl⟩ | ⟨rfl, rfl⟩ | ⟨rfl, rfl⟩ | ⟨rfl, rfl⟩ | ⟨rfl, rfl⟩ | ⟨rfl, rfl⟩ | ⟨rfl, rfl⟩ | ⟨rfl, rfl⟩ | ⟨rfl, rfl⟩ | ⟨rfl, rfl⟩ | ⟨rfl, rfl⟩ | ⟨rfl, rfl⟩ | ⟨rfl, rfl⟩ | ⟨rfl, rfl⟩ | ⟨rfl, rfl⟩ | ⟨rfl, rfl⟩ | ⟨rfl, rfl⟩ | ⟨rfl, rfl⟩ | ⟨rfl, rfl⟩ | ⟨rfl, rfl⟩ | ⟨rfl, rfl⟩ | ⟨rfl, rfl⟩ | ⟨rfl, rfl⟩ | ⟨rfl, rfl⟩ | ⟨rfl, rfl⟩ | ⟨rfl, rfl⟩ | ⟨rfl, rfl⟩ | ⟨rfl, rfl⟩ | ⟨rfl, rfl⟩ | ⟨rfl, rfl⟩ | ⟨rfl, rfl⟩ | ⟨rfl, rfl⟩ | ⟨rfl, rfl⟩ | ⟨rfl, rfl⟩ | ⟨rfl, rfl⟩ | ⟨rfl, rfl⟩ | ⟨rfl, rfl⟩ | ⟨rfl, rfl⟩ | ⟨rfl, rfl⟩ | ⟨rfl, rfl⟩ | ⟨rfl, rfl⟩
  · injection hF with hF; subst hF; exact compF_ok lk1
  · injection hF with hF; subst hF; exact compF_ok lk19
  · injection hF with hF; subst hF; exact compF_ok lk21
  · injection hF with hF; subst hF; exact compF_ok lk46
  · injection hF with hF; subst hF; exact compF_ok lk48
  · injection hF with hF; subst hF; exact compF_ok lk51
  · injection hF with hF; subst hF; exact compF_ok lk64
  · cases hF
  · injection hF with hF; subst hF; exact compF_ok lk139
  · injection hF with hF; subst hF; exact compF_ok lk142
  · injection hF with hF; subst hF; exact compF_ok lk143
  · injection hF with hF; subst hF; exact compF_ok lk144
  · injection hF with hF; subst hF; exact compF_ok lk160
  · injection hF with hF; subst hF; exact compF_ok lk161
  · injection hF with hF; subst hF; exact compF_ok lk162
  · injection hF with hF; subst hF; exact compF_ok lk302
  · injection hF with hF; subst hF; exact compF_ok lk313
  · injection hF with hF; subst hF; exact compF_ok lk316
  · injection hF with hF; subst hF; exact compF_ok lk317
  · cases hF
  · injection hF with hF; subst hF; exact compF_ok lk321
  · injection hF with hF; subst hF; exact compF_ok lk322
  · injection hF with hF; subst hF; exact compF_ok lk333
  · injection hF with hF; subst hF; exact compF_ok lk334
  · injection hF with hF; subst hF; exact compF_ok lk335
  · injection hF with hF; subst hF; exact compF_ok lk336
  · injection hF with hF; subst hF; exact compF_ok lk341
  · injection hF with hF; subst hF; exact compF_ok lk342
  · injection hF with hF; subst hF; exact compF_ok lk343
  · injection hF with hF; subst hF; exact compF_ok lk344
  · injection hF with hF; subst hF; exact compF_ok lk346
  · injection hF with hF; subst hF; exact compF_ok lk347
  · injection hF with hF; subst hF; exact compF_ok lk348
  · injection hF with hF; subst hF; exact compF_ok lk349
  · injection hF with hF; subst hF; exact compF_ok lk350
  · injection hF with hF; subst hF; exact compF_ok lk351
  · injection hF with hF; subst hF; exact compF_ok lk352
  · injection hF with hF; subst hF; exact compF_ok lk353
  · injection hF with hF; subst hF; exact compF_ok lk354
  · injection hF with hF; subst hF; exact compF_ok lk355
  · injection hF with hF; subst hF; exact compF_ok lk356
  · injection hF with hF; subst hF; exact compF_ok lk357
  · injection hF with hF; subst hF; exact compF_ok lk359
  · injection hF with hF; subst hF; exact compF_ok lk361
  · injection hF with hF; subst hF; exact compF_ok lk362
theorem lk320 : compF Go.Proofs.Try.prog mF ⟨[0, 2, 4], [none, none, none, none, none, none], false, (some [.sl shA]), (some (.sl shA)), false⟩ 61 = some kclone2 := by kernel_rfl
theorem lk108 : compF Go.Proofs.Try.prog mF ⟨[0, 2, 4], [none, none, none, none, none, none], false, (some [(Sh.sl (Sh.int .u8))]), none, false⟩ 40 = some kclone := by kernel_rfl
theorem xok : XOK Go.Proofs.Try.prog mF where
  c61 := fun f h => by
    have h := mF_mem h
    simp only [mT, List.mem_cons, Prod.mk.injEq, List.not_mem_nil, or_false] at h
    omega
  c108 := fun f h => by
    have h := mF_mem h
    simp only [mT, List.mem_cons, Prod.mk.injEq, List.not_mem_nil, or_false] at h
    obtain rfl : f = 40 := by omega
    exact compF_ok lk108
  c320 := fun f h => by
    have h := mF_mem h
    simp only [mT, List.mem_cons, Prod.mk.injEq, List.not_mem_nil, or_false] at h
    obtain rfl : f = 61 := by omega
    exact compF_ok lk320
  c66 := fun f h => by
    have h := mF_mem h
    simp only [mT, List.mem_cons, Prod.mk.injEq, List.not_mem_nil, or_false] at h
    omega
end Go.Proofs.YteagngpgghnlmaaE
