/- The evaluator's functions are the program's. -/
import Derived.Test.YtjkdflcccoeggaaEvFJ1
import Derived.Test.YtjkdflcccoeggaaChecked
import Derived.KernelRfl
namespace Go.Proofs.YtjkdflcccoeggaaE
open Go
set_option linter.unusedVariables false
set_option linter.unusedSimpArgs false
def mT : List (Nat × Nat) := [(59, 1), (3, 15), (4, 16), (5, 17), (12, 18), (22, 19), (23, 21), (17, 23), (13, 40), (14, 41), (15, 42), (16, 43), (18, 44), (19, 45), (20, 46), (21, 47), (60, 48), (56, 59), (57, 60), (58, 61), (73, 63), (74, 64), (75, 65), (76, 66)]
def mF : Nat → Option Nat := fun f => (mT.find? (·.1 == f)).map (·.2)
theorem lk1 : compF Go.Proofs.Try.prog mF ⟨[0, 2, 3, 5, 6, 8, 9, 10, 11, 12, 20, 25, 26, 27, 28], [none, none, none, (some ⟨0, [], false, [0, 3, 9, 10, 11], []⟩), none, (some ⟨0, [], false, [0, 3], []⟩), none, none, none, none, none, none, none, (some ⟨1, [], false, [6, 25, 26, 27], []⟩), none, (some ⟨0, [], false, [6], []⟩), none, none, none, none, none], false, (some [(Sh.sl (Sh.sl (Sh.int .u8)))]), none, false⟩ 59 = some k1 := by kernel_rfl
theorem lk15 : compF Go.Proofs.Try.prog mF ⟨[0, 1, 4, 5, 6, 7, 8, 16], [none, none, none, none, none, none, none, none], false, (some [(Sh.sl (Sh.int .u8)), Sh.str]), (some Sh.bool), false⟩ 3 = some k15 := by kernel_rfl
theorem lk16 : compF Go.Proofs.Try.prog mF ⟨[0, 1, 4, 5, 6, 7, 8, 9, 17], [none, none, none, none, none, none, none, none, none], false, (some [(Sh.sl (Sh.int .u8)), (Sh.sl (Sh.int .u8))]), (some Sh.bool), false⟩ 4 = some k16 := by kernel_rfl
theorem lk17 : compF Go.Proofs.Try.prog mF ⟨[0, 1, 2, 5, 6, 7, 8, 9, 10, 11, 12, 13, 14, 15, 16, 17, 18, 30, 76], [none, none, none, none, none, none, none, none, none, none, none, none, none, none, none], false, (some [(Sh.int .u64), (Sh.int .i64), (Sh.st (Sh.pr (Sh.sl (Sh.int .u8)) (Sh.sl (Sh.int .u8))))]), (some Sh.bool), false⟩ 5 = some k17 := by kernel_rfl
theorem lk18 : compF Go.Proofs.Try.prog mF ⟨[0, 1, 2, 3, 4, 5, 6], [none, none, none, none, none, none], false, (some []), (some Sh.bool), false⟩ 12 = some k18 := by kernel_rfl
theorem lk19 : compF Go.Proofs.Try.prog mF ⟨[0, 1, 2, 6, 7, 8, 9, 15, 19, 20, 21, 33], [none, none, none, none, none, none, (some ⟨0, [], false, [0, 2, 8, 19, 20], []⟩), none, (some ⟨0, [], false, [2, 8], []⟩), none, none, none, none, none, none, none], false, (some [(Sh.int .u64), (Sh.int .i64), Sh.bool]), (some (Sh.tu (Sh.pr (Sh.sl (Sh.int .u8)) (Sh.int .i64)))), false⟩ 22 = some k19 := by kernel_rfl
theorem lk21 : compF Go.Proofs.Try.prog mF ⟨[0, 1, 4, 5, 6, 7, 8, 16, 17, 18, 19, 20, 24], [none, none, none, none, none, none, (some ⟨0, [], false, [1, 6, 17, 18, 19], []⟩), none, (some ⟨0, [], false, [6], []⟩), none, none, none, none, none, none, none], false, (some [(Sh.sl (Sh.int .u8)), Sh.bool]), (some (Sh.tu (Sh.pr (Sh.int .u64) (Sh.int .i64)))), false⟩ 23 = some k21 := by kernel_rfl
theorem lk23 : compF Go.Proofs.Try.prog mF ⟨[0, 1, 4, 5, 10, 14, 25], [none, none, none, none, none, (some ⟨0, [], false, [0, 1, 5], []⟩), none, (some ⟨0, [], false, [], []⟩), none, none, none, none, none, none], false, (some [(Sh.sl (Sh.int .u8)), (Sh.sl (Sh.int .u8))]), (some Sh.bool), false⟩ 17 = some k23 := by kernel_rfl
theorem lk40 : compF Go.Proofs.Try.prog mF ⟨[0, 2, 3, 4, 5, 9, 11, 22], [none, none, none, none, none, none, none, none, none, none, none, none, none, none, (some ⟨0, [], false, [0, 4], []⟩)], false, (some [Sh.str]), (some (Sh.tu (Sh.pr (Sh.sl (Sh.int .u8)) (Sh.int .i64)))), false⟩ 13 = some k40 := by kernel_rfl
theorem lk41 : compF Go.Proofs.Try.prog mF ⟨[0, 2, 3, 4, 5, 6, 7, 11, 15, 32], [none, none, none, none, none, none, (some ⟨0, [], false, [0, 4, 5], [(4, (.ints .u8 []), 1)]⟩), none, (some ⟨0, [], false, [4], []⟩), none, none, none, none, none, none, none, none], false, (some [Sh.str]), (some (Sh.tu (Sh.pr (Sh.sl (Sh.int .u8)) (Sh.int .i64)))), false⟩ 14 = some k41 := by kernel_rfl
theorem lk42 : compF Go.Proofs.Try.prog mF ⟨[0, 2, 3, 5, 10, 11, 12, 13], [none, none, none, (some ⟨0, [], false, [3, 10, 11, 12], [(3, (.imm []), 1)]⟩), none, (some ⟨0, [], false, [3], []⟩), none, none, none, none, none], false, (some [(Sh.sl (Sh.int .u8))]), (some Sh.str), false⟩ 15 = some k42 := by kernel_rfl
theorem lk43 : compF Go.Proofs.Try.prog mF ⟨[0, 2, 3, 4, 5, 6, 7, 11], [none, none, none, none, (some ⟨0, [], false, [0, 3, 4, 5], []⟩), none, (some ⟨0, [], false, [4], []⟩), none, none, none, none, none], false, (some [(Sh.sl (Sh.int .u8))]), (some Sh.str), false⟩ 16 = some k43 := by kernel_rfl
theorem lk44 : compF Go.Proofs.Try.prog mF ⟨[0, 1, 4, 5, 6, 7, 8, 13, 16, 17, 18, 19], [none, none, none, none, none, none, (some ⟨0, [], false, [6, 16, 17, 18], []⟩), none, (some ⟨0, [], false, [6], []⟩), none, none, none, none, none], false, (some [(Sh.sl (Sh.int .u8)), (Sh.sl (Sh.int .u8))]), (some (Sh.tu (Sh.pr (Sh.sl (Sh.int .u8)) (Sh.int .i64)))), false⟩ 18 = some k44 := by kernel_rfl
theorem lk45 : compF Go.Proofs.Try.prog mF ⟨[0, 1, 4, 5, 6, 7, 12, 19], [none, none, none, none, none, none, (some ⟨0, [], false, [0, 1, 6, 7], []⟩), none, (some ⟨0, [], false, [6], []⟩), none, none, none, none], false, (some [(Sh.sl (Sh.int .u8)), (Sh.sl (Sh.int .u8))]), (some (Sh.tu (Sh.pr (Sh.sl (Sh.int .u8)) (Sh.int .i64)))), false⟩ 19 = some k45 := by kernel_rfl
theorem lk46 : compF Go.Proofs.Try.prog mF ⟨[0, 2], [none, none, none], false, (some [(Sh.sl (Sh.sl (Sh.int .u8)))]), none, false⟩ 20 = some k46 := by kernel_rfl
theorem lk47 : compF Go.Proofs.Try.prog mF ⟨[0, 1, 4, 5, 6, 7, 12, 13, 14, 15, 16], [none, none, none, none, none, none, (some ⟨0, [], false, [1, 5, 13, 14, 15], []⟩), none, (some ⟨0, [], false, [5], []⟩), none, none, none, none, none], false, (some [(Sh.sl (Sh.int .u8)), (Sh.sl (Sh.int .u8))]), (some Sh.bool), false⟩ 21 = some k47 := by kernel_rfl
theorem lk48 : compF Go.Proofs.Try.prog mF ⟨[0, 2, 3, 9], [none, (some ⟨0, [], false, [0, 2, 3], []⟩), none, (some ⟨0, [], false, [], []⟩), none, none], true, none, none, false⟩ 60 = some k48 := by kernel_rfl
theorem lk59 : compF Go.Proofs.Try.prog mF ⟨[0, 2, 8], [none, none, none, none, none], false, (some [(Sh.int .u8)]), (some (Sh.int .i64)), false⟩ 56 = some k59 := by kernel_rfl
theorem lk60 : compF Go.Proofs.Try.prog mF ⟨[0, 2, 3, 12, 22], [none, none, none, none, none, none, none, none, none, none, none, none], false, (some [(Sh.int .u8)]), (some (Sh.int .u8)), false⟩ 57 = some k60 := by kernel_rfl
theorem lk63 : compF Go.Proofs.Try.prog mF ⟨[0, 1, 4], [none, none, none], false, (some [Sh.str, (Sh.int .u8)]), (some (Sh.int .i64)), false⟩ 73 = some k63 := by kernel_rfl
theorem lk64 : compF Go.Proofs.Try.prog mF ⟨[0, 1, 4, 6, 16], [none, none, none, none, none, none, none, (some ⟨0, [], true, [], [(4, (.ints .u8 []), 1)]⟩)], false, none, none, false⟩ 74 = some k64 := by kernel_rfl
theorem lk65 : compF Go.Proofs.Try.prog mF ⟨[0, 1, 4], [none, none, none], false, (some [Sh.str, (Sh.int .u8)]), (some (Sh.int .i64)), false⟩ 75 = some k65 := by kernel_rfl
theorem mF_mem {f g : Nat} (h : mF f = some g) : (f, g) ∈ mT := by
  simp only [mF, Option.map_eq_some_iff] at h
  obtain ⟨p, h1, h2⟩ := h
  have h3 := List.mem_of_find?_eq_some h1
  have h4 := List.find?_some h1
  have h5 : p.1 = f := by simpa using h4
  rw [← h5, ← h2]; exact h3
theorem link : Link Go.Proofs.Try.prog mF FT := by
  intro f g fn hm hF
  have h := mF_mem hm
  simp only [mT, List.mem_cons, Prod.mk.injEq, List.not_mem_nil, or_false] at h
  rcases h with ⟨rfl, rfl⟩ | ⟨rfl, rfl⟩ | ⟨rfl, rfl⟩ | ⟨rfl, rfl⟩ | ⟨rfl, rfl⟩ | ⟨rfl, rfl⟩ | ⟨rfl, rfl⟩ | ⟨rfl, rfl⟩ | ⟨rfl, rfl⟩ | ⟨rfl, rfl⟩ | ⟨rfl, rfl⟩ | ⟨rfl, rfl⟩ | ⟨rfl, rfl⟩ | ⟨rfl, rfl⟩ | ⟨rfl, rfl⟩ | ⟨rfl, rfl⟩ | ⟨rfl, rfl⟩ | ⟨rfl, rfl⟩ | ⟨rfl, rfl⟩ | ⟨rfl, rfl⟩ | ⟨rfl, rfl⟩ | ⟨rfl, rfl⟩ | ⟨rfl, rfl⟩ | ⟨rfl, rfl⟩
  · injection hF with hF; subst hF; exact compF_ok lk1
  · injection hF with hF; subst hF; exact compF_ok lk15
  · injection hF with hF; subst hF; exact compF_ok lk16
  · injection hF with hF; subst hF; exact compF_ok lk17
  · injection hF with hF; subst hF; exact compF_ok lk18
  · injection hF with hF; subst hF; exact compF_ok lk19
  · injection hF with hF; subst hF; exact compF_ok lk21
  · injection hF with hF; subst hF; exact compF_ok lk23
  · injection hF with hF; subst hF; exact compF_ok lk40
  · injection hF with hF; subst hF; exact compF_ok lk41
  · injection hF with hF; subst hF; exact compF_ok lk42
  · injection hF with hF; subst hF; exact compF_ok lk43
  · injection hF with hF; subst hF; exact compF_ok lk44
  · injection hF with hF; subst hF; exact compF_ok lk45
  · injection hF with hF; subst hF; exact compF_ok lk46
  · injection hF with hF; subst hF; exact compF_ok lk47
  · injection hF with hF; subst hF; exact compF_ok lk48
  · injection hF with hF; subst hF; exact compF_ok lk59
  · injection hF with hF; subst hF; exact compF_ok lk60
  · cases hF
  · injection hF with hF; subst hF; exact compF_ok lk63
  · injection hF with hF; subst hF; exact compF_ok lk64
  · injection hF with hF; subst hF; exact compF_ok lk65
  · cases hF
theorem lk61 : compF Go.Proofs.Try.prog mF ⟨[0, 2, 4], [none, none, none, none, none, none], false, (some [(Sh.sl (Sh.int .u8))]), none, false⟩ 58 = some kclone := by kernel_rfl
theorem lk66 : ((Go.Proofs.Try.prog.funcs[76]?).map fun f => (f.name, f.origin, f.body.isNone)) = some ("internal/bytealg.IndexByteString", "", true) := by kernel_rfl
theorem lx66 : ∃ pf, Go.Proofs.Try.prog.funcs[76]? = some pf ∧ (pf.name == "runtime.NumGoroutine") = false ∧ pf.body.isNone = true ∧ Extern.findNext pf = none ∧ Extern.find pf = some Extern.BytealgIndexByte.indexByte := by
  obtain ⟨pf, h1, h2⟩ := Option.map_eq_some_iff.1 lk66
  simp only [Prod.mk.injEq] at h2
  exact ⟨pf, h1, by rw [h2.1]; rfl, h2.2.2, find_next h2.1 h2.2.1, find_extern h2.1⟩
theorem xok : XOK Go.Proofs.Try.prog mF where
  c61 := fun f h => by
    have h := mF_mem h
    simp only [mT, List.mem_cons, Prod.mk.injEq, List.not_mem_nil, or_false] at h
    obtain rfl : f = 58 := by omega
    exact compF_ok lk61
  c108 := fun f h => by
    have h := mF_mem h
    simp only [mT, List.mem_cons, Prod.mk.injEq, List.not_mem_nil, or_false] at h
    omega
  c320 := fun f h => by
    have h := mF_mem h
    simp only [mT, List.mem_cons, Prod.mk.injEq, List.not_mem_nil, or_false] at h
    omega
  c66 := fun f h => by
    have h := mF_mem h
    simp only [mT, List.mem_cons, Prod.mk.injEq, List.not_mem_nil, or_false] at h
    obtain rfl : f = 76 := by omega
    exact lx66
end Go.Proofs.YtjkdflcccoeggaaE
