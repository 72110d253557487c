/- The evaluator's functions are the program's. -/
import Derived.Test.YtgjbkgajkcgdfaaEvFA
import Derived.Test.YtgjbkgajkcgdfaaChecked
import Derived.KernelRfl
namespace Go.Proofs.YtgjbkgajkcgdfaaE
open Go
set_option linter.unusedVariables false
def mT : List (Nat × Nat) := [(3, 10), (4, 11), (5, 12), (6, 13), (7, 14), (8, 15), (9, 16), (10, 17), (11, 18), (12, 19), (13, 20), (14, 21), (15, 22), (16, 23), (17, 24), (18, 25), (19, 26), (20, 27), (21, 28), (22, 29), (23, 30), (24, 31), (25, 32), (26, 33), (27, 34), (28, 35), (29, 36), (30, 37), (31, 38), (32, 39), (33, 40), (34, 41), (35, 42), (36, 43), (37, 44), (38, 45), (39, 46), (40, 47), (41, 48), (42, 49), (43, 50), (44, 51), (45, 52), (46, 53), (47, 54), (48, 55), (49, 56), (50, 57), (51, 58), (52, 59), (53, 60), (54, 61), (55, 62), (56, 63), (57, 64), (58, 65), (59, 66)]
def mF : Nat → Option Nat := fun f => (mT.find? (·.1 == f)).map (·.2)
theorem l10 : compF Go.Proofs.Try.prog mF ⟨[0, 1, 2, 6, 8, 9, 10, 11, 12, 13, 14, 15, 16, 19, 21, 22, 23, 24, 71], [[0, 1, 2, 21, 22, 23]], false⟩ 3 = some k10 := by kernel_rfl
theorem l11 : compF Go.Proofs.Try.prog mF ⟨[0, 1, 2, 4, 5, 6, 8, 9, 10, 20, 21, 22, 23, 26, 27, 39], [[1, 5, 6, 20, 21, 22], [1, 5, 6, 8, 9, 20, 21, 22, 26]], false⟩ 4 = some k11 := by kernel_rfl
theorem l12 : compF Go.Proofs.Try.prog mF ⟨[0, 1, 2, 4, 6, 7, 8, 9, 10, 11, 12, 13, 14, 15, 16, 17, 18, 19, 20, 21, 22, 23, 26], [], false⟩ 5 = some k12 := by kernel_rfl
theorem l13 : compF Go.Proofs.Try.prog mF ⟨[0, 1, 2, 5, 6, 7, 8, 9, 10, 11, 12, 13, 14, 15, 16, 49], [], false⟩ 6 = some k13 := by kernel_rfl
theorem l14 : compF Go.Proofs.Try.prog mF ⟨[0, 1, 4, 5, 6, 7, 8, 9, 10, 11, 12, 13, 14, 17], [], false⟩ 7 = some k14 := by kernel_rfl
theorem l15 : compF Go.Proofs.Try.prog mF ⟨[0, 1, 4, 5, 6, 7, 8, 16], [], false⟩ 8 = some k15 := by kernel_rfl
theorem l16 : compF Go.Proofs.Try.prog mF ⟨[0, 1, 4, 5, 6, 7, 8, 9, 17], [], false⟩ 9 = some k16 := by kernel_rfl
theorem l17 : compF Go.Proofs.Try.prog mF ⟨[0, 1, 2, 5, 6, 7, 8, 9, 10, 11, 12, 13, 14, 15, 16, 17, 18, 30, 76], [], false⟩ 10 = some k17 := by kernel_rfl
theorem l18 : compF Go.Proofs.Try.prog mF ⟨[0, 1, 2, 3, 4, 5, 6], [], false⟩ 11 = some k18 := by kernel_rfl
theorem l19 : compF Go.Proofs.Try.prog mF ⟨[0, 1, 2, 6, 7, 8, 9, 15, 19, 20, 21, 33], [[0, 2, 8, 19, 20]], false⟩ 12 = some k19 := by kernel_rfl
theorem l20 : compF Go.Proofs.Try.prog mF ⟨[0, 1, 2, 6, 7, 13, 14], [], false⟩ 13 = some k20 := by kernel_rfl
theorem l21 : compF Go.Proofs.Try.prog mF ⟨[0, 1, 4, 5, 6, 7, 8, 16, 17, 18, 19, 20, 24], [[1, 6, 17, 18, 19]], false⟩ 14 = some k21 := by kernel_rfl
theorem l22 : compF Go.Proofs.Try.prog mF ⟨[0, 1, 4, 5, 13, 14], [], false⟩ 15 = some k22 := by kernel_rfl
theorem l23 : compF Go.Proofs.Try.prog mF ⟨[0, 1, 4, 5, 10, 14, 25], [[0, 1, 5]], false⟩ 16 = some k23 := by kernel_rfl
theorem l24 : compF Go.Proofs.Try.prog mF ⟨[0, 2, 3, 4, 6, 7, 8, 11, 12, 13, 14, 15, 26, 27, 28], [[4, 12, 13, 14], [4, 7, 26, 27]], false⟩ 17 = some k24 := by kernel_rfl
theorem l25 : compF Go.Proofs.Try.prog mF ⟨[0, 2], [], false⟩ 18 = some k25 := by kernel_rfl
theorem l26 : compF Go.Proofs.Try.prog mF ⟨[0, 1, 2, 3, 4, 5, 6], [], false⟩ 19 = some k26 := by kernel_rfl
theorem l27 : compF Go.Proofs.Try.prog mF ⟨[0, 1, 2, 3, 4, 6, 7, 8, 9, 10, 12, 20, 22, 23, 24, 25, 32], [[8, 9, 10, 22, 23, 24]], false⟩ 20 = some k27 := by kernel_rfl
theorem l28 : compF Go.Proofs.Try.prog mF ⟨[0, 1, 2, 6, 7, 8, 9, 10, 18, 25, 40], [[1, 2, 8, 9, 10]], false⟩ 21 = some k28 := by kernel_rfl
theorem l29 : compF Go.Proofs.Try.prog mF ⟨[0, 1, 2, 6, 7, 10, 15], [], false⟩ 22 = some k29 := by kernel_rfl
theorem l30 : compF Go.Proofs.Try.prog mF ⟨[0, 1, 2, 6, 7, 8, 9, 12], [], false⟩ 23 = some k30 := by kernel_rfl
theorem l31 : compF Go.Proofs.Try.prog mF ⟨[0, 1, 2, 6, 7, 8, 9, 21], [], false⟩ 24 = some k31 := by kernel_rfl
theorem l32 : compF Go.Proofs.Try.prog mF ⟨[0, 1, 2, 6, 7, 8, 9, 21], [], false⟩ 25 = some k32 := by kernel_rfl
theorem l33 : compF Go.Proofs.Try.prog mF ⟨[0, 1, 2, 6, 18], [], false⟩ 26 = some k33 := by kernel_rfl
theorem l34 : compF Go.Proofs.Try.prog mF ⟨[0, 1, 2, 6, 18], [], false⟩ 27 = some k34 := by kernel_rfl
theorem l35 : compF Go.Proofs.Try.prog mF ⟨[0, 1, 4, 6], [], false⟩ 28 = some k35 := by kernel_rfl
theorem l36 : compF Go.Proofs.Try.prog mF ⟨[0, 2, 3, 4, 5, 6, 7, 10, 12, 24], [[0, 4, 5, 6], [4, 5, 7]], false⟩ 29 = some k36 := by kernel_rfl
theorem l37 : compF Go.Proofs.Try.prog mF ⟨[0, 2, 3, 4, 6, 7, 8, 11, 12, 13, 14, 15, 27, 28, 29], [[4, 12, 13, 14], [4, 7, 27, 28]], false⟩ 30 = some k37 := by kernel_rfl
theorem l38 : compF Go.Proofs.Try.prog mF ⟨[0, 2, 3, 4, 5, 6, 7, 10, 12, 25], [[0, 4, 5, 6], [4, 5, 7]], false⟩ 31 = some k38 := by kernel_rfl
theorem l39 : compF Go.Proofs.Try.prog mF ⟨[0, 2, 3, 4, 6], [[0, 3, 4]], false⟩ 32 = some k39 := by kernel_rfl
theorem l40 : compF Go.Proofs.Try.prog mF ⟨[0, 2, 3, 4, 5, 9, 11, 22], [], false⟩ 33 = some k40 := by kernel_rfl
theorem l41 : compF Go.Proofs.Try.prog mF ⟨[0, 2, 3, 4, 5, 6, 7, 11, 15, 32], [[0, 4, 5]], false⟩ 34 = some k41 := by kernel_rfl
theorem l42 : compF Go.Proofs.Try.prog mF ⟨[0, 2, 3, 5, 10, 11, 12, 13], [[3, 10, 11, 12]], false⟩ 35 = some k42 := by kernel_rfl
theorem l43 : compF Go.Proofs.Try.prog mF ⟨[0, 2, 3, 4, 5, 6, 7, 11], [[0, 3, 4, 5]], false⟩ 36 = some k43 := by kernel_rfl
theorem l44 : compF Go.Proofs.Try.prog mF ⟨[0, 1, 4, 5, 6, 7, 8, 13, 16, 17, 18, 19], [[6, 16, 17, 18]], false⟩ 37 = some k44 := by kernel_rfl
theorem l45 : compF Go.Proofs.Try.prog mF ⟨[0, 1, 4, 5, 6, 7, 12, 19], [[0, 1, 6, 7]], false⟩ 38 = some k45 := by kernel_rfl
theorem l46 : compF Go.Proofs.Try.prog mF ⟨[0, 2], [], false⟩ 39 = some k46 := by kernel_rfl
theorem l47 : compF Go.Proofs.Try.prog mF ⟨[0, 1, 4, 5, 6, 7, 12, 13, 14, 15, 16], [[1, 5, 13, 14, 15]], false⟩ 40 = some k47 := by kernel_rfl
theorem l48 : compF Go.Proofs.Try.prog mF ⟨[0, 2, 3, 9], [[0, 2, 3]], true⟩ 41 = some k48 := by kernel_rfl
theorem l49 : compF Go.Proofs.Try.prog mF ⟨[0, 2, 3, 4, 11], [[0, 3, 4]], false⟩ 42 = some k49 := by kernel_rfl
theorem l50 : compF Go.Proofs.Try.prog mF ⟨[0, 1, 4, 5, 6, 12], [[0, 5, 6]], false⟩ 43 = some k50 := by kernel_rfl
theorem l51 : compF Go.Proofs.Try.prog mF ⟨[0, 2, 3, 4, 8], [[0, 3, 4]], false⟩ 44 = some k51 := by kernel_rfl
theorem l52 : compF Go.Proofs.Try.prog mF ⟨[0, 2], [], false⟩ 45 = some k52 := by kernel_rfl
theorem l53 : compF Go.Proofs.Try.prog mF ⟨[0, 2], [], false⟩ 46 = some k53 := by kernel_rfl
theorem l54 : compF Go.Proofs.Try.prog mF ⟨[0, 1, 2, 3, 4], [], false⟩ 47 = some k54 := by kernel_rfl
theorem l55 : compF Go.Proofs.Try.prog mF ⟨[0, 2], [], false⟩ 48 = some k55 := by kernel_rfl
theorem l56 : compF Go.Proofs.Try.prog mF ⟨[0, 1, 4, 5, 6, 12], [[0, 5, 6]], false⟩ 49 = some k56 := by kernel_rfl
theorem l57 : compF Go.Proofs.Try.prog mF ⟨[0, 2, 3, 4, 8], [[0, 3, 4]], false⟩ 50 = some k57 := by kernel_rfl
theorem l58 : compF Go.Proofs.Try.prog mF ⟨[0, 2], [], false⟩ 51 = some k58 := by kernel_rfl
theorem l59 : compF Go.Proofs.Try.prog mF ⟨[0, 2, 8], [], false⟩ 52 = some k59 := by kernel_rfl
theorem l60 : compF Go.Proofs.Try.prog mF ⟨[0, 2, 3, 12, 22], [], false⟩ 53 = some k60 := by kernel_rfl
theorem l61 : compF Go.Proofs.Try.prog mF ⟨[0, 2, 4], [], false⟩ 54 = some k61 := by kernel_rfl
theorem l63 : compF Go.Proofs.Try.prog mF ⟨[0, 1, 4], [], false⟩ 56 = some k63 := by kernel_rfl
theorem l65 : compF Go.Proofs.Try.prog mF ⟨[0, 1, 4], [], false⟩ 58 = some k65 := by kernel_rfl
theorem mF_mem {f g : Nat} (h : mF f = some g) : (f, g) ∈ mT := by
  simp only [mF, Option.map_eq_some_iff] at h
  obtain ⟨p, h1, h2⟩ := h
  have h3 := List.mem_of_find?_eq_some h1
  have h4 := List.find?_some h1
  have h5 : p.1 = f := by simpa using h4
  rw [← h5, ← h2]; exact h3
theorem link : Link Go.Proofs.Try.prog mF FT := by
  intro f g fn hm hF
  have h := mF_mem hm
  simp only [mT, List.mem_cons, Prod.mk.injEq, List.not_mem_nil, or_false] at h
  rcases h with ⟨rfl, rfl⟩ | ⟨rfl, rfl⟩ | ⟨rfl, rfl⟩ | ⟨rfl, rfl⟩ | ⟨rfl, rfl⟩ | ⟨rfl, rfl⟩ | ⟨rfl, rfl⟩ | ⟨rfl, rfl⟩ | ⟨rfl, rfl⟩ | ⟨rfl, rfl⟩ | ⟨rfl, rfl⟩ | ⟨rfl, rfl⟩ | ⟨rfl, rfl⟩ | ⟨rfl, rfl⟩ | ⟨rfl, rfl⟩ | ⟨rfl, rfl⟩ | ⟨rfl, rfl⟩ | ⟨rfl, rfl⟩ | ⟨rfl, rfl⟩ | ⟨rfl, rfl⟩ | ⟨rfl, rfl⟩ | ⟨rfl, rfl⟩ | ⟨rfl, rfl⟩ | ⟨rfl, rfl⟩ | ⟨rfl, rfl⟩ | ⟨rfl, rfl⟩ | ⟨rfl, rfl⟩ | ⟨rfl, rfl⟩ | ⟨rfl, rfl⟩ | ⟨rfl, rfl⟩ | ⟨rfl, rfl⟩ | ⟨rfl, rfl⟩ | ⟨rfl, rfl⟩ | ⟨rfl, rfl⟩ | ⟨rfl, rfl⟩ | ⟨rfl, rfl⟩ | ⟨rfl, rfl⟩ | ⟨rfl, rfl⟩ | ⟨rfl, rfl⟩ | ⟨rfl, rfl⟩ | ⟨rfl, rfl⟩ | ⟨rfl, rfl⟩ | ⟨rfl, rfl⟩ | ⟨rfl, rfl⟩ | ⟨rfl, rfl⟩ | ⟨rfl, rfl⟩ | ⟨rfl, rfl⟩ | ⟨rfl, rfl⟩ | ⟨rfl, rfl⟩ | ⟨rfl, rfl⟩ | ⟨rfl, rfl⟩ | ⟨rfl, rfl⟩ | ⟨rfl, rfl⟩ | ⟨rfl, rfl⟩ | ⟨rfl, rfl⟩ | ⟨rfl, rfl⟩ | ⟨rfl, rfl⟩
  · injection hF with hF; subst hF; exact compF_ok l10
  · injection hF with hF; subst hF; exact compF_ok l11
  · injection hF with hF; subst hF; exact compF_ok l12
  · injection hF with hF; subst hF; exact compF_ok l13
  · injection hF with hF; subst hF; exact compF_ok l14
  · injection hF with hF; subst hF; exact compF_ok l15
  · injection hF with hF; subst hF; exact compF_ok l16
  · injection hF with hF; subst hF; exact compF_ok l17
  · injection hF with hF; subst hF; exact compF_ok l18
  · injection hF with hF; subst hF; exact compF_ok l19
  · injection hF with hF; subst hF; exact compF_ok l20
  · injection hF with hF; subst hF; exact compF_ok l21
  · injection hF with hF; subst hF; exact compF_ok l22
  · injection hF with hF; subst hF; exact compF_ok l23
  · injection hF with hF; subst hF; exact compF_ok l24
  · injection hF with hF; subst hF; exact compF_ok l25
  · injection hF with hF; subst hF; exact compF_ok l26
  · injection hF with hF; subst hF; exact compF_ok l27
  · injection hF with hF; subst hF; exact compF_ok l28
  · injection hF with hF; subst hF; exact compF_ok l29
  · injection hF with hF; subst hF; exact compF_ok l30
  · injection hF with hF; subst hF; exact compF_ok l31
  · injection hF with hF; subst hF; exact compF_ok l32
  · injection hF with hF; subst hF; exact compF_ok l33
  · injection hF with hF; subst hF; exact compF_ok l34
  · injection hF with hF; subst hF; exact compF_ok l35
  · injection hF with hF; subst hF; exact compF_ok l36
  · injection hF with hF; subst hF; exact compF_ok l37
  · injection hF with hF; subst hF; exact compF_ok l38
  · injection hF with hF; subst hF; exact compF_ok l39
  · injection hF with hF; subst hF; exact compF_ok l40
  · injection hF with hF; subst hF; exact compF_ok l41
  · injection hF with hF; subst hF; exact compF_ok l42
  · injection hF with hF; subst hF; exact compF_ok l43
  · injection hF with hF; subst hF; exact compF_ok l44
  · injection hF with hF; subst hF; exact compF_ok l45
  · injection hF with hF; subst hF; exact compF_ok l46
  · injection hF with hF; subst hF; exact compF_ok l47
  · injection hF with hF; subst hF; exact compF_ok l48
  · injection hF with hF; subst hF; exact compF_ok l49
  · injection hF with hF; subst hF; exact compF_ok l50
  · injection hF with hF; subst hF; exact compF_ok l51
  · injection hF with hF; subst hF; exact compF_ok l52
  · injection hF with hF; subst hF; exact compF_ok l53
  · injection hF with hF; subst hF; exact compF_ok l54
  · injection hF with hF; subst hF; exact compF_ok l55
  · injection hF with hF; subst hF; exact compF_ok l56
  · injection hF with hF; subst hF; exact compF_ok l57
  · injection hF with hF; subst hF; exact compF_ok l58
  · injection hF with hF; subst hF; exact compF_ok l59
  · injection hF with hF; subst hF; exact compF_ok l60
  · injection hF with hF; subst hF; exact compF_ok l61
  · cases hF
  · injection hF with hF; subst hF; exact compF_ok l63
  · cases hF
  · injection hF with hF; subst hF; exact compF_ok l65
  · cases hF
end Go.Proofs.YtgjbkgajkcgdfaaE
