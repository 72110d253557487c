/- The evaluator's functions are the program's. -/
import Derived.Test.YtjkdflcccoeggaaEvFJ2
import Derived.Test.YtjkdflcccoeggaaChecked
import Derived.KernelRfl
namespace Go.Proofs.YtjkdflcccoeggaaE
open Go
set_option linter.unusedVariables false
set_option linter.unusedSimpArgs false
def mT : List (Nat × Nat) := [(59, 1), (22, 19), (23, 21), (17, 23), (20, 46), (60, 48), (66, 50), (67, 51), (74, 64), (62, 108), (9, 124), (10, 125), (11, 126), (35, 138), (36, 139), (37, 140), (38, 141), (39, 142), (40, 143), (41, 144), (42, 145), (43, 146), (44, 147), (45, 148), (46, 149), (47, 150), (48, 151), (49, 152), (50, 153), (51, 154), (52, 155), (53, 156), (54, 157), (55, 158), (63, 160), (64, 161), (65, 162), (68, 163), (69, 164), (70, 165), (71, 166), (72, 167)]
def mF : Nat → Option Nat := fun f => (mT.find? (·.1 == f)).map (·.2)
theorem lk1 : compF Go.Proofs.Try.prog mF ⟨[0, 2, 3, 5, 6, 8, 9, 10, 11, 12, 20, 25, 26, 27, 28], [none, none, none, (some ⟨0, [], false, [0, 3, 9, 10, 11], []⟩), none, (some ⟨0, [], false, [0, 3], []⟩), none, none, none, none, none, none, none, (some ⟨1, [], false, [6, 25, 26, 27], []⟩), none, (some ⟨0, [], false, [6], []⟩), none, none, none, none, none], false, (some [(Sh.sl (Sh.sl (Sh.int .u8)))]), none, false⟩ 59 = some k1 := by kernel_rfl
theorem lk19 : compF Go.Proofs.Try.prog mF ⟨[0, 1, 2, 6, 7, 8, 9, 15, 19, 20, 21, 33], [none, none, none, none, none, none, (some ⟨0, [], false, [0, 2, 8, 19, 20], []⟩), none, (some ⟨0, [], false, [2, 8], []⟩), none, none, none, none, none, none, none], false, (some [(Sh.int .u64), (Sh.int .i64), Sh.bool]), (some (Sh.tu (Sh.pr (Sh.sl (Sh.int .u8)) (Sh.int .i64)))), false⟩ 22 = some k19 := by kernel_rfl
theorem lk21 : compF Go.Proofs.Try.prog mF ⟨[0, 1, 4, 5, 6, 7, 8, 16, 17, 18, 19, 20, 24], [none, none, none, none, none, none, (some ⟨0, [], false, [1, 6, 17, 18, 19], []⟩), none, (some ⟨0, [], false, [6], []⟩), none, none, none, none, none, none, none], false, (some [(Sh.sl (Sh.int .u8)), Sh.bool]), (some (Sh.tu (Sh.pr (Sh.int .u64) (Sh.int .i64)))), false⟩ 23 = some k21 := by kernel_rfl
theorem lk23 : compF Go.Proofs.Try.prog mF ⟨[0, 1, 4, 5, 10, 14, 25], [none, none, none, none, none, (some ⟨0, [], false, [0, 1, 5], []⟩), none, (some ⟨0, [], false, [], []⟩), none, none, none, none, none, none], false, (some [(Sh.sl (Sh.int .u8)), (Sh.sl (Sh.int .u8))]), (some Sh.bool), false⟩ 17 = some k23 := by kernel_rfl
theorem lk46 : compF Go.Proofs.Try.prog mF ⟨[0, 2], [none, none, none], false, (some [(Sh.sl (Sh.sl (Sh.int .u8)))]), none, false⟩ 20 = some k46 := by kernel_rfl
theorem lk48 : compF Go.Proofs.Try.prog mF ⟨[0, 2, 3, 9], [none, (some ⟨0, [], false, [0, 2, 3], []⟩), none, (some ⟨0, [], false, [], []⟩), none, none], true, none, none, false⟩ 60 = some k48 := by kernel_rfl
theorem lk50 : compF Go.Proofs.Try.prog mF ⟨[0, 1, 4, 5, 6, 12], [none, none, none, (some ⟨0, [], false, [0, 5, 6], []⟩), none, (some ⟨0, [], false, [5], []⟩), none, none, none, none, (some ⟨0, [], true, [], [(4, (.ints .u8 []), 1)]⟩)], false, (some [(Sh.int .u64), (Sh.int .i64)]), none, false⟩ 66 = some k50 := by kernel_rfl
theorem lk51 : compF Go.Proofs.Try.prog mF ⟨[0, 2, 3, 4, 8], [none, none, none, (some ⟨0, [], false, [0, 3, 4], []⟩), none, (some ⟨0, [], false, [3], []⟩), none, none, none, none], false, (some [(Sh.sl (Sh.int .u8))]), (some (Sh.int .u64)), false⟩ 67 = some k51 := by kernel_rfl
theorem lk64 : compF Go.Proofs.Try.prog mF ⟨[0, 1, 4, 6, 16], [none, none, none, none, none, none, none, (some ⟨0, [], true, [], [(4, (.ints .u8 []), 1)]⟩)], false, none, none, false⟩ 74 = some k64 := by kernel_rfl
theorem lk124 : compF Go.Proofs.Try.prog mF ⟨[0, 1, 2, 4, 5, 6, 7, 8, 9, 10, 11, 12, 13, 14, 15, 16, 17, 26], [none, none, none, none, none, none, none, none, none, none, none], false, (some [(Sh.st (Sh.pr (Sh.int .u8) (Sh.sl (Sh.int .u8)))), (Sh.sl (Sh.int .u8))]), (some Sh.bool), false⟩ 9 = some k124 := by kernel_rfl
theorem lk125 : compF Go.Proofs.Try.prog mF ⟨[0, 1, 2, 3, 4, 5, 6, 7, 8, 9, 10, 11, 12, 13, 14, 15, 16, 17, 21, 65, 112], [none, none, none, none, none, none, none, none, none, none, none, none, none, none, none, none, none], false, (some [(Sh.st (Sh.pr (Sh.int .u8) (Sh.pr (Sh.int .u32) (Sh.sl (Sh.int .u8))))), (Sh.ar .u8), (Sh.ar .u8)]), (some Sh.bool), false⟩ 10 = some k125 := by kernel_rfl
theorem lk126 : compF Go.Proofs.Try.prog mF ⟨[0, 1, 2, 3, 4, 5, 6, 7, 8, 9, 10, 14, 61], [none, none, none, none, none, none, none, none, none, none, none, none, none], false, (some [(Sh.st (Sh.pr (Sh.int .u8) (Sh.sl (Sh.int .u8))))]), (some Sh.bool), false⟩ 11 = some k126 := by kernel_rfl
theorem lk138 : compF Go.Proofs.Try.prog mF ⟨[0, 1, 2, 3, 4, 5, 6, 7, 8, 9], [none, none, none, none, none, none, none], false, (some []), (some Sh.bool), false⟩ 35 = some k138 := by kernel_rfl
theorem lk139 : compF Go.Proofs.Try.prog mF ⟨[0, 1, 2, 3, 4, 5, 11, 16], [none, none, none, none, none, none, none, none, none, none, none], false, (some [(Sh.st (Sh.pr (Sh.int .u8) (Sh.sl (Sh.int .u8))))]), (some (Sh.tu (Sh.pr (Sh.sl (Sh.int .u8)) (Sh.int .i64)))), false⟩ 36 = some k139 := by kernel_rfl
theorem lk140 : compF Go.Proofs.Try.prog mF ⟨[0, 1, 2], [none, none, none], false, (some [(Sh.st (Sh.pr (Sh.int .u8) (Sh.sl (Sh.int .u8))))]), (some (Sh.st (Sh.pr (Sh.int .u8) (Sh.sl (Sh.int .u8))))), false⟩ 37 = some k140 := by kernel_rfl
theorem lk141 : compF Go.Proofs.Try.prog mF ⟨[0, 1, 2, 3, 7, 11], [none, none, none, none, none, none, none, (some ⟨0, [(1, Sh.bool)], true, [23], []⟩), none], false, (some [(Sh.st (Sh.pr (Sh.int .u8) (Sh.sl (Sh.int .u8))))]), (some (Sh.tu (Sh.pr (Sh.sl (Sh.int .u8)) (Sh.int .i64)))), false⟩ 38 = some k141 := by kernel_rfl
theorem lk142 : compF Go.Proofs.Try.prog mF ⟨[0, 2, 3, 4, 5, 7, 10, 20, 34, 41], [none, none, none, none, none, none, none, none, none, none, none, none, none, none, none, none, none], false, (some [(Sh.sl (Sh.int .u8))]), (some (Sh.tu (Sh.pr (Sh.st (Sh.pr (Sh.int .u8) (Sh.sl (Sh.int .u8)))) (Sh.pr (Sh.int .i64) (Sh.int .i64))))), false⟩ 39 = some k142 := by kernel_rfl
theorem lk143 : compF Go.Proofs.Try.prog mF ⟨[0, 2, 3, 4, 5, 8, 25, 31, 36], [none, none, none, none, none, none, none, none, none, none, none, none, none, none, none, none], false, (some [(Sh.sl (Sh.int .u8))]), (some (Sh.tu (Sh.pr (Sh.st (Sh.pr (Sh.int .u8) (Sh.sl (Sh.int .u8)))) (Sh.pr (Sh.int .i64) (Sh.int .i64))))), false⟩ 40 = some k143 := by kernel_rfl
theorem lk144 : compF Go.Proofs.Try.prog mF ⟨[0, 1, 2, 3, 4], [none, none, none], false, (some [(Sh.st (Sh.pr (Sh.int .u8) (Sh.sl (Sh.int .u8)))), (Sh.st (Sh.pr (Sh.int .u8) (Sh.sl (Sh.int .u8))))]), (some Sh.bool), false⟩ 41 = some k144 := by kernel_rfl
theorem lk145 : compF Go.Proofs.Try.prog mF ⟨[0, 1, 2, 3, 4, 5, 6, 7, 16, 21, 27, 33, 55], [none, none, none, none, none, none, none, none, none, none, none, none, none, none, none, none, none, none, none, none], false, (some [(Sh.st (Sh.pr (Sh.int .u8) (Sh.sl (Sh.int .u8))))]), (some (Sh.int .i64)), false⟩ 42 = some k145 := by kernel_rfl
theorem lk146 : compF Go.Proofs.Try.prog mF ⟨[0, 1, 2, 3, 4, 5, 9, 26, 31, 34, 78], [none, none, none, none, none, none, none, none, none, none, none, none, none, none, none, none, none, none, none, none, none], false, (some [(Sh.st (Sh.pr (Sh.int .u8) (Sh.sl (Sh.int .u8))))]), (some (Sh.int .i64)), false⟩ 43 = some k146 := by kernel_rfl
theorem lk147 : compF Go.Proofs.Try.prog mF ⟨[0, 1, 2, 3], [none, none, none, none], false, (some [(Sh.st (Sh.pr (Sh.int .u8) (Sh.pr (Sh.int .u32) (Sh.sl (Sh.int .u8)))))]), (some (Sh.st (Sh.pr (Sh.int .u8) (Sh.sl (Sh.int .u8))))), false⟩ 44 = some k147 := by kernel_rfl
theorem lk148 : compF Go.Proofs.Try.prog mF ⟨[0, 1, 2], [none, none, none], false, (some [(Sh.ar .u8)]), (some (Sh.st (Sh.pr (Sh.int .u8) (Sh.sl (Sh.int .u8))))), false⟩ 45 = some k148 := by kernel_rfl
theorem lk149 : compF Go.Proofs.Try.prog mF ⟨[0, 1, 2], [none, none, none], false, (some [(Sh.ar .u8)]), (some (Sh.st (Sh.pr (Sh.int .u8) (Sh.sl (Sh.int .u8))))), false⟩ 46 = some k149 := by kernel_rfl
theorem lk150 : compF Go.Proofs.Try.prog mF ⟨[0, 1, 2, 6, 7], [none, none, none, none], false, (some [(Sh.int .u8), (Sh.int .u32), (Sh.sl (Sh.int .u8))]), (some (Sh.st (Sh.pr (Sh.int .u8) (Sh.sl (Sh.int .u8))))), false⟩ 47 = some k150 := by kernel_rfl
theorem lk151 : compF Go.Proofs.Try.prog mF ⟨[0, 1, 2, 3, 5, 6, 7, 8, 9], [none, none, (some ⟨0, [(7, Sh.bool)], true, [17], []⟩), none], false, (some [(Sh.int .u8), (Sh.ar .u8), (Sh.ar .u8), (Sh.ar .u8)]), (some (Sh.st (Sh.pr (Sh.int .u8) (Sh.sl (Sh.int .u8))))), false⟩ 48 = some k151 := by kernel_rfl
theorem lk152 : compF Go.Proofs.Try.prog mF ⟨[0, 1, 3, 4], [none, none, none], false, (some [(Sh.int .u8), (Sh.ar .u8)]), (some (Sh.st (Sh.pr (Sh.int .u8) (Sh.sl (Sh.int .u8))))), false⟩ 49 = some k152 := by kernel_rfl
theorem lk153 : compF Go.Proofs.Try.prog mF ⟨[0, 1, 2, 3, 4, 5, 10], [none, none, none, none, none, none, none, none], false, (some [(Sh.st (Sh.pr (Sh.int .u8) (Sh.sl (Sh.int .u8))))]), (some (Sh.tu (Sh.pr (Sh.st (Sh.pr (Sh.int .u8) (Sh.pr (Sh.int .u32) (Sh.sl (Sh.int .u8))))) (Sh.int .i64)))), false⟩ 50 = some k153 := by kernel_rfl
theorem lk154 : compF Go.Proofs.Try.prog mF ⟨[0, 1, 2, 3, 4, 5, 9], [none, none, none, none, none, none, none, none], false, (some [(Sh.st (Sh.pr (Sh.int .u8) (Sh.sl (Sh.int .u8))))]), (some (Sh.tu (Sh.pr (Sh.ar .u8) (Sh.int .i64)))), false⟩ 51 = some k154 := by kernel_rfl
theorem lk155 : compF Go.Proofs.Try.prog mF ⟨[0, 1, 2, 3, 4, 8], [none, none, none, none, none, none, none], false, (some [(Sh.st (Sh.pr (Sh.int .u8) (Sh.sl (Sh.int .u8))))]), (some (Sh.tu (Sh.pr (Sh.ar .u8) (Sh.int .i64)))), false⟩ 52 = some k155 := by kernel_rfl
theorem lk156 : compF Go.Proofs.Try.prog mF ⟨[0, 1, 2, 3, 4, 5, 10], [none, none, none, none, none, none, none, none], false, (some [(Sh.st (Sh.pr (Sh.int .u8) (Sh.sl (Sh.int .u8))))]), (some (Sh.tu (Sh.pr (Sh.int .u16) (Sh.int .i64)))), false⟩ 53 = some k156 := by kernel_rfl
theorem lk157 : compF Go.Proofs.Try.prog mF ⟨[0, 2, 3], [none, none, none, none], false, (some [(Sh.int .u16)]), (some (Sh.st (Sh.pr (Sh.int .u8) (Sh.sl (Sh.int .u8))))), false⟩ 54 = some k157 := by kernel_rfl
theorem lk158 : compF Go.Proofs.Try.prog mF ⟨[0, 1, 2, 4, 8], [none, none, none, none, none, none], false, (some [(Sh.st (Sh.pr (Sh.int .u8) (Sh.sl (Sh.int .u8)))), (Sh.int .u8)]), (some (Sh.int .i64)), false⟩ 55 = some k158 := by kernel_rfl
theorem lk160 : compF Go.Proofs.Try.prog mF ⟨[0, 1, 4], [none, none, none], false, (some [(Sh.sl (Sh.int .u8)), (Sh.sl (Sh.int .u8))]), (some Sh.bool), false⟩ 63 = some k160 := by kernel_rfl
theorem lk161 : compF Go.Proofs.Try.prog mF ⟨[0, 2], [none, none, none], false, (some [(Sh.int .u8)]), (some Sh.bool), false⟩ 64 = some k161 := by kernel_rfl
theorem lk162 : compF Go.Proofs.Try.prog mF ⟨[0, 2], [none, none, none], false, (some [(Sh.int .u8)]), (some Sh.bool), false⟩ 65 = some k162 := by kernel_rfl
theorem lk163 : compF Go.Proofs.Try.prog mF ⟨[0, 2, 3, 4, 5, 6, 7, 9, 11], [none, none, none, none, none, none, none, none, none, none, none, none, none], false, (some [(Sh.int .u8)]), (some (Sh.tu (Sh.pr (Sh.int .i64) (Sh.pr (Sh.int .i64) (Sh.pr (Sh.int .u8) (Sh.int .u8)))))), false⟩ 68 = some k163 := by kernel_rfl
theorem lk164 : compF Go.Proofs.Try.prog mF ⟨[0, 1, 4], [none, none, none], false, (some [(Sh.sl (Sh.int .u8)), (Sh.sl (Sh.int .u8))]), (some Sh.bool), false⟩ 69 = some k164 := by kernel_rfl
theorem lk165 : compF Go.Proofs.Try.prog mF ⟨[0, 2, 3, 7, 14], [none, none, (some ⟨0, [], false, [0, 3], []⟩), none, (some ⟨0, [], false, [], []⟩), none, none, none, none, none, none], false, (some [(Sh.sl (Sh.int .u8))]), (some Sh.bool), false⟩ 70 = some k165 := by kernel_rfl
theorem lk166 : compF Go.Proofs.Try.prog mF ⟨[0, 2], [none, none, none], false, (some [(Sh.int .u8)]), (some (Sh.sl (Sh.int .u8))), false⟩ 71 = some k166 := by kernel_rfl
theorem lk167 : compF Go.Proofs.Try.prog mF ⟨[0, 1, 2, 4, 8], [none, none, none, none, none, none], false, (some [(Sh.st (Sh.pr (Sh.int .u8) (Sh.sl (Sh.int .u8)))), (Sh.int .u8)]), (some (Sh.int .i64)), false⟩ 72 = some k167 := by kernel_rfl
theorem mF_mem {f g : Nat} (h : mF f = some g) : (f, g) ∈ mT := by
  simp only [mF, Option.map_eq_some_iff] at h
  obtain ⟨p, h1, h2⟩ := h
  have h3 := List.mem_of_find?_eq_some h1
  have h4 := List.find?_some h1
  have h5 : p.1 = f := by simpa using h4
  rw [← h5, ← h2]; exact h3
theorem link : Link Go.Proofs.Try.prog mF FT := by
  intro f g fn hm hF
  have h := mF_mem hm
  simp only [mT, List.mem_cons, Prod.mk.injEq, List.not_mem_nil, or_false] at h
  rcases h with ⟨rfl, rfl⟩ | ⟨rfl, rfl⟩ | ⟨rfl, rfl⟩ | ⟨rfl, rfl⟩ | ⟨rfl, rfl⟩ | ⟨rfl, rfl⟩ | ⟨rfl, rfl⟩ | ⟨rfl, rfl⟩ | ⟨rfl, rfl⟩ | ⟨rfl, rfl⟩ | ⟨rfl, rfl⟩ | ⟨rfl, rfl⟩ | ⟨rfl, rfl⟩ | ⟨rfl, rfl⟩ | ⟨rfl, rfl⟩ | ⟨rfl, rfl⟩ | ⟨rfl, rfl⟩ | ⟨rfl, rfl⟩ | ⟨rfl, rfl⟩ | ⟨rfl, rfl⟩ | ⟨rfl, rfl⟩ | ⟨rfl, rfl⟩ | ⟨rfl, rfl⟩ | ⟨rfl, rfl⟩ | ⟨rfl, rfl⟩ | ⟨rfl, rfl⟩ | ⟨rfl, rfl⟩ | ⟨rfl, rfl⟩ | ⟨rfl, rfl⟩ | ⟨rfl, rfl⟩ | ⟨rfl, rfl⟩ | ⟨rfl, rfl⟩ | ⟨rfl, rfl⟩ | ⟨rfl, rfl⟩ | ⟨rfl, rfl⟩ | ⟨rfl, rfl⟩ | ⟨rfl, rfl⟩ | ⟨rfl, rfl⟩ | ⟨rfl, rfl⟩ | ⟨rfl, rfl⟩ | ⟨rfl, rfl⟩ | ⟨rfl, rfl⟩
  · injection hF with hF; subst hF; exact compF_ok lk1
  · injection hF with hF; subst hF; exact compF_ok lk19
  · injection hF with hF; subst hF; exact compF_ok lk21
  · injection hF with hF; subst hF; exact compF_ok lk23
  · injection hF with hF; subst hF; exact compF_ok lk46
  · injection hF with hF; subst hF; exact compF_ok lk48
  · injection hF with hF; subst hF; exact compF_ok lk50
  · injection hF with hF; subst hF; exact compF_ok lk51
  · injection hF with hF; subst hF; exact compF_ok lk64
  · cases hF
  · injection hF with hF; subst hF; exact compF_ok lk124
  · injection hF with hF; subst hF; exact compF_ok lk125
  · injection hF with hF; subst hF; exact compF_ok lk126
  · injection hF with hF; subst hF; exact compF_ok lk138
  · injection hF with hF; subst hF; exact compF_ok lk139
  · injection hF with hF; subst hF; exact compF_ok lk140
  · injection hF with hF; subst hF; exact compF_ok lk141
  · injection hF with hF; subst hF; exact compF_ok lk142
  · injection hF with hF; subst hF; exact compF_ok lk143
  · injection hF with hF; subst hF; exact compF_ok lk144
  · injection hF with hF; subst hF; exact compF_ok lk145
  · injection hF with hF; subst hF; exact compF_ok lk146
  · injection hF with hF; subst hF; exact compF_ok lk147
  · injection hF with hF; subst hF; exact compF_ok lk148
  · injection hF with hF; subst hF; exact compF_ok lk149
  · injection hF with hF; subst hF; exact compF_ok lk150
  · injection hF with hF; subst hF; exact compF_ok lk151
  · injection hF with hF; subst hF; exact compF_ok lk152
  · injection hF with hF; subst hF; exact compF_ok lk153
  · injection hF with hF; subst hF; exact compF_ok lk154
  · injection hF with hF; subst hF; exact compF_ok lk155
  · injection hF with hF; subst hF; exact compF_ok lk156
  · injection hF with hF; subst hF; exact compF_ok lk157
  · injection hF with hF; subst hF; exact compF_ok lk158
  · injection hF with hF; subst hF; exact compF_ok lk160
  · injection hF with hF; subst hF; exact compF_ok lk161
  · injection hF with hF; subst hF; exact compF_ok lk162
  · injection hF with hF; subst hF; exact compF_ok lk163
  · injection hF with hF; subst hF; exact compF_ok lk164
  · injection hF with hF; subst hF; exact compF_ok lk165
  · injection hF with hF; subst hF; exact compF_ok lk166
  · injection hF with hF; subst hF; exact compF_ok lk167
theorem lk108 : compF Go.Proofs.Try.prog mF ⟨[0, 2, 4], [none, none, none, none, none, none], false, (some [(Sh.sl (Sh.int .u8))]), none, false⟩ 62 = some kclone := by kernel_rfl
theorem xok : XOK Go.Proofs.Try.prog mF where
  c61 := fun f h => by
    have h := mF_mem h
    simp only [mT, List.mem_cons, Prod.mk.injEq, List.not_mem_nil, or_false] at h
    omega
  c108 := fun f h => by
    have h := mF_mem h
    simp only [mT, List.mem_cons, Prod.mk.injEq, List.not_mem_nil, or_false] at h
    obtain rfl : f = 62 := by omega
    exact compF_ok lk108
  c320 := fun f h => by
    have h := mF_mem h
    simp only [mT, List.mem_cons, Prod.mk.injEq, List.not_mem_nil, or_false] at h
    omega
  c66 := fun f h => by
    have h := mF_mem h
    simp only [mT, List.mem_cons, Prod.mk.injEq, List.not_mem_nil, or_false] at h
    omega
end Go.Proofs.YtjkdflcccoeggaaE
