/- The evaluator's functions are the program's. -/
import Derived.Test.YtcnkihdjenjdgaaEvFK4
import Derived.Test.YtcnkihdjenjdgaaChecked
import Derived.KernelRfl
namespace Go.Proofs.YtcnkihdjenjdgaaE
open Go
set_option linter.unusedVariables false
set_option linter.unusedSimpArgs false
def mT : List (Nat × Nat) := [(6, 74), (7, 84), (8, 85), (9, 86), (10, 87), (11, 88), (12, 89), (14, 90), (15, 91), (16, 92), (21, 97), (22, 98), (23, 99), (24, 106), (25, 107), (26, 108), (27, 109), (28, 110), (29, 111)]
def mF : Nat → Option Nat := fun f => (mT.find? (·.1 == f)).map (·.2)
theorem lk74 : compF Go.Proofs.Try.prog mF ⟨[0, 1, 2, 6, 7, 9, 10, 11, 12, 13, 14, 15, 16, 17, 18, 19, 20, 23, 29, 30, 31, 32, 130], [none, none, none, none, none, none, (some ⟨0, [], false, [0, 1, 2, 7, 29, 30, 31], []⟩), none, (some ⟨0, [], false, [2, 7], []⟩), none, none, none, none, none, none, none, none, none, none, none, none, none, none], false, (some [(Sh.int .i64), (Sh.int .i64), (Sh.sl (Sh.int .u8))]), (some Sh.bool), false⟩ 6 = some k74 := by kernel_rfl
theorem lk84 : compF Go.Proofs.Try.prog mF ⟨[0, 1, 2, 3, 14], [none, none, none, none, none, none, none, none], false, (some []), (some Sh.bool), false⟩ 7 = some k84 := by kernel_rfl
theorem lk85 : compF Go.Proofs.Try.prog mF ⟨[0, 1, 2], [none, none, (some ⟨0, [(2, (Sh.st (Sh.pr Sh.bool (Sh.pr (Sh.int .u8) (Sh.pr (Sh.int .u8) (Sh.pr (Sh.int .u8) (Sh.pr (Sh.int .u8) (Sh.pr (Sh.int .u8) (Sh.pr (Sh.int .u8) (Sh.pr (Sh.int .u8) (Sh.pr (Sh.int .u8) (Sh.pr (Sh.int .u8) (Sh.pr (Sh.int .u8) (Sh.pr (Sh.int .u8) (Sh.pr (Sh.int .u8) (Sh.pr (Sh.int .u8) (Sh.pr (Sh.int .u8) (Sh.pr (Sh.int .u8) (Sh.pr (Sh.int .u8) (Sh.pr (Sh.int .u8) (Sh.pr (Sh.int .u8) (Sh.pr (Sh.int .u8) (Sh.pr (Sh.int .u8) (Sh.pr (Sh.int .u8) (Sh.pr (Sh.int .u8) (Sh.pr (Sh.int .u8) (Sh.pr (Sh.int .u8) (Sh.pr (Sh.int .u8) (Sh.pr (Sh.int .u8) (Sh.pr (Sh.int .u8) (Sh.pr (Sh.int .u8) (Sh.pr (Sh.int .u8) (Sh.pr (Sh.int .u8) (Sh.pr (Sh.int .u8) (Sh.pr (Sh.int .u8) (Sh.pr (Sh.sl (Sh.int .u8)) (Sh.pr (Sh.int .i64) (Sh.pr (Sh.int .i64) (Sh.pr (Sh.int .i64) (Sh.pr (Sh.sl (Sh.int .u8)) (Sh.pr (Sh.int .i64) (Sh.pr (Sh.int .i64) (Sh.pr (Sh.int .i64) Sh.bool)))))))))))))))))))))))))))))))))))))))))))], true, [], []⟩)], false, none, none, false⟩ 8 = some k85 := by kernel_rfl
theorem lk86 : compF Go.Proofs.Try.prog mF ⟨[0, 1, 2, 6, 7, 8, 9, 14, 22], [none, none, none, none, (some ⟨0, [(0, (Sh.st (Sh.pr Sh.bool (Sh.pr (Sh.int .u8) (Sh.pr (Sh.int .u8) (Sh.pr (Sh.int .u8) (Sh.pr (Sh.int .u8) (Sh.pr (Sh.int .u8) (Sh.pr (Sh.int .u8) (Sh.pr (Sh.int .u8) (Sh.pr (Sh.int .u8) (Sh.pr (Sh.int .u8) (Sh.pr (Sh.int .u8) (Sh.pr (Sh.int .u8) (Sh.pr (Sh.int .u8) (Sh.pr (Sh.int .u8) (Sh.pr (Sh.int .u8) (Sh.pr (Sh.int .u8) (Sh.pr (Sh.int .u8) (Sh.pr (Sh.int .u8) (Sh.pr (Sh.int .u8) (Sh.pr (Sh.int .u8) (Sh.pr (Sh.int .u8) (Sh.pr (Sh.int .u8) (Sh.pr (Sh.int .u8) (Sh.pr (Sh.int .u8) (Sh.pr (Sh.int .u8) (Sh.pr (Sh.int .u8) (Sh.pr (Sh.int .u8) (Sh.pr (Sh.int .u8) (Sh.pr (Sh.int .u8) (Sh.pr (Sh.int .u8) (Sh.pr (Sh.int .u8) (Sh.pr (Sh.int .u8) (Sh.pr (Sh.int .u8) (Sh.pr (Sh.sl (Sh.int .u8)) (Sh.pr (Sh.int .i64) (Sh.pr (Sh.int .i64) (Sh.pr (Sh.int .i64) (Sh.pr (Sh.sl (Sh.int .u8)) (Sh.pr (Sh.int .i64) (Sh.pr (Sh.int .i64) (Sh.pr (Sh.int .i64) Sh.bool)))))))))))))))))))))))))))))))))))))))))))], true, [], []⟩), none, none, none, (some ⟨0, [(0, (Sh.st (Sh.pr Sh.bool (Sh.pr (Sh.int .u8) (Sh.pr (Sh.int .u8) (Sh.pr (Sh.int .u8) (Sh.pr (Sh.int .u8) (Sh.pr (Sh.int .u8) (Sh.pr (Sh.int .u8) (Sh.pr (Sh.int .u8) (Sh.pr (Sh.int .u8) (Sh.pr (Sh.int .u8) (Sh.pr (Sh.int .u8) (Sh.pr (Sh.int .u8) (Sh.pr (Sh.int .u8) (Sh.pr (Sh.int .u8) (Sh.pr (Sh.int .u8) (Sh.pr (Sh.int .u8) (Sh.pr (Sh.int .u8) (Sh.pr (Sh.int .u8) (Sh.pr (Sh.int .u8) (Sh.pr (Sh.int .u8) (Sh.pr (Sh.int .u8) (Sh.pr (Sh.int .u8) (Sh.pr (Sh.int .u8) (Sh.pr (Sh.int .u8) (Sh.pr (Sh.int .u8) (Sh.pr (Sh.int .u8) (Sh.pr (Sh.int .u8) (Sh.pr (Sh.int .u8) (Sh.pr (Sh.int .u8) (Sh.pr (Sh.int .u8) (Sh.pr (Sh.int .u8) (Sh.pr (Sh.int .u8) (Sh.pr (Sh.int .u8) (Sh.pr (Sh.sl (Sh.int .u8)) (Sh.pr (Sh.int .i64) (Sh.pr (Sh.int .i64) (Sh.pr (Sh.int .i64) (Sh.pr (Sh.sl (Sh.int .u8)) (Sh.pr (Sh.int .i64) (Sh.pr (Sh.int .i64) (Sh.pr (Sh.int .i64) Sh.bool)))))))))))))))))))))))))))))))))))))))))))], true, [], []⟩), none, none, none, none, (some ⟨0, [(0, (Sh.st (Sh.pr Sh.bool (Sh.pr (Sh.int .u8) (Sh.pr (Sh.int .u8) (Sh.pr (Sh.int .u8) (Sh.pr (Sh.int .u8) (Sh.pr (Sh.int .u8) (Sh.pr (Sh.int .u8) (Sh.pr (Sh.int .u8) (Sh.pr (Sh.int .u8) (Sh.pr (Sh.int .u8) (Sh.pr (Sh.int .u8) (Sh.pr (Sh.int .u8) (Sh.pr (Sh.int .u8) (Sh.pr (Sh.int .u8) (Sh.pr (Sh.int .u8) (Sh.pr (Sh.int .u8) (Sh.pr (Sh.int .u8) (Sh.pr (Sh.int .u8) (Sh.pr (Sh.int .u8) (Sh.pr (Sh.int .u8) (Sh.pr (Sh.int .u8) (Sh.pr (Sh.int .u8) (Sh.pr (Sh.int .u8) (Sh.pr (Sh.int .u8) (Sh.pr (Sh.int .u8) (Sh.pr (Sh.int .u8) (Sh.pr (Sh.int .u8) (Sh.pr (Sh.int .u8) (Sh.pr (Sh.int .u8) (Sh.pr (Sh.int .u8) (Sh.pr (Sh.int .u8) (Sh.pr (Sh.int .u8) (Sh.pr (Sh.int .u8) (Sh.pr (Sh.sl (Sh.int .u8)) (Sh.pr (Sh.int .i64) (Sh.pr (Sh.int .i64) (Sh.pr (Sh.int .i64) (Sh.pr (Sh.sl (Sh.int .u8)) (Sh.pr (Sh.int .i64) (Sh.pr (Sh.int .i64) (Sh.pr (Sh.int .i64) Sh.bool)))))))))))))))))))))))))))))))))))))))))))], true, [], []⟩)], false, none, none, false⟩ 9 = some k86 := by kernel_rfl
theorem lk87 : compF Go.Proofs.Try.prog mF ⟨[0, 1, 2, 6, 7, 8, 9, 15], [none, none, none, none, none, none, none, none, none], false, none, none, false⟩ 10 = some k87 := by kernel_rfl
theorem lk88 : compF Go.Proofs.Try.prog mF ⟨[0, 1, 2, 6, 7, 8, 9, 15], [none, none, none, none, (some ⟨0, [(6, (Sh.sl (Sh.int .u8)))], true, [], []⟩), none, none, none, (some ⟨0, [(6, (Sh.sl (Sh.int .u8)))], true, [], []⟩)], false, none, none, false⟩ 11 = some k88 := by kernel_rfl
theorem lk89 : compF Go.Proofs.Try.prog mF ⟨[0, 1, 4, 5, 6, 7, 11], [none, none, none, none, none, none, none], false, none, none, false⟩ 12 = some k89 := by kernel_rfl
theorem lk90 : compF Go.Proofs.Try.prog mF ⟨[0, 1, 4, 8], [none, none, none, (some ⟨0, [(4, (Sh.sl (Sh.int .u8)))], true, [], []⟩), none, (some ⟨0, [(4, (Sh.sl (Sh.int .u8)))], true, [], []⟩)], false, none, none, false⟩ 14 = some k90 := by kernel_rfl
theorem lk91 : compF Go.Proofs.Try.prog mF ⟨[0, 1, 4], [none, none, none], false, none, none, false⟩ 15 = some k91 := by kernel_rfl
theorem lk92 : compF Go.Proofs.Try.prog mF ⟨[0, 1, 2, 3, 4, 10, 11, 12, 13, 14, 15, 24, 56, 66], [none, none, none, (some ⟨0, [(2, (Sh.st (Sh.pr Sh.bool (Sh.pr (Sh.int .u8) (Sh.pr (Sh.int .u8) (Sh.pr (Sh.int .u8) (Sh.pr (Sh.int .u8) (Sh.pr (Sh.int .u8) (Sh.pr (Sh.int .u8) (Sh.pr (Sh.int .u8) (Sh.pr (Sh.int .u8) (Sh.pr (Sh.int .u8) (Sh.pr (Sh.int .u8) (Sh.pr (Sh.int .u8) (Sh.pr (Sh.int .u8) (Sh.pr (Sh.int .u8) (Sh.pr (Sh.int .u8) (Sh.pr (Sh.int .u8) (Sh.pr (Sh.int .u8) (Sh.pr (Sh.int .u8) (Sh.pr (Sh.int .u8) (Sh.pr (Sh.int .u8) (Sh.pr (Sh.int .u8) (Sh.pr (Sh.int .u8) (Sh.pr (Sh.int .u8) (Sh.pr (Sh.int .u8) (Sh.pr (Sh.int .u8) (Sh.pr (Sh.int .u8) (Sh.pr (Sh.int .u8) (Sh.pr (Sh.int .u8) (Sh.pr (Sh.int .u8) (Sh.pr (Sh.int .u8) (Sh.pr (Sh.int .u8) (Sh.pr (Sh.int .u8) (Sh.pr (Sh.int .u8) (Sh.pr (Sh.sl (Sh.int .u8)) (Sh.pr (Sh.int .i64) (Sh.pr (Sh.int .i64) (Sh.pr (Sh.int .i64) (Sh.pr (Sh.sl (Sh.int .u8)) (Sh.pr (Sh.int .i64) (Sh.pr (Sh.int .i64) (Sh.pr (Sh.int .i64) Sh.bool)))))))))))))))))))))))))))))))))))))))))))], true, [], []⟩), none, none, (some ⟨0, [(2, (Sh.st (Sh.pr Sh.bool (Sh.pr (Sh.int .u8) (Sh.pr (Sh.int .u8) (Sh.pr (Sh.int .u8) (Sh.pr (Sh.int .u8) (Sh.pr (Sh.int .u8) (Sh.pr (Sh.int .u8) (Sh.pr (Sh.int .u8) (Sh.pr (Sh.int .u8) (Sh.pr (Sh.int .u8) (Sh.pr (Sh.int .u8) (Sh.pr (Sh.int .u8) (Sh.pr (Sh.int .u8) (Sh.pr (Sh.int .u8) (Sh.pr (Sh.int .u8) (Sh.pr (Sh.int .u8) (Sh.pr (Sh.int .u8) (Sh.pr (Sh.int .u8) (Sh.pr (Sh.int .u8) (Sh.pr (Sh.int .u8) (Sh.pr (Sh.int .u8) (Sh.pr (Sh.int .u8) (Sh.pr (Sh.int .u8) (Sh.pr (Sh.int .u8) (Sh.pr (Sh.int .u8) (Sh.pr (Sh.int .u8) (Sh.pr (Sh.int .u8) (Sh.pr (Sh.int .u8) (Sh.pr (Sh.int .u8) (Sh.pr (Sh.int .u8) (Sh.pr (Sh.int .u8) (Sh.pr (Sh.int .u8) (Sh.pr (Sh.int .u8) (Sh.pr (Sh.sl (Sh.int .u8)) (Sh.pr (Sh.int .i64) (Sh.pr (Sh.int .i64) (Sh.pr (Sh.int .i64) (Sh.pr (Sh.sl (Sh.int .u8)) (Sh.pr (Sh.int .i64) (Sh.pr (Sh.int .i64) (Sh.pr (Sh.int .i64) Sh.bool)))))))))))))))))))))))))))))))))))))))))))], true, [], []⟩), none, none, none, (some ⟨0, [(2, (Sh.st (Sh.pr Sh.bool (Sh.pr (Sh.int .u8) (Sh.pr (Sh.int .u8) (Sh.pr (Sh.int .u8) (Sh.pr (Sh.int .u8) (Sh.pr (Sh.int .u8) (Sh.pr (Sh.int .u8) (Sh.pr (Sh.int .u8) (Sh.pr (Sh.int .u8) (Sh.pr (Sh.int .u8) (Sh.pr (Sh.int .u8) (Sh.pr (Sh.int .u8) (Sh.pr (Sh.int .u8) (Sh.pr (Sh.int .u8) (Sh.pr (Sh.int .u8) (Sh.pr (Sh.int .u8) (Sh.pr (Sh.int .u8) (Sh.pr (Sh.int .u8) (Sh.pr (Sh.int .u8) (Sh.pr (Sh.int .u8) (Sh.pr (Sh.int .u8) (Sh.pr (Sh.int .u8) (Sh.pr (Sh.int .u8) (Sh.pr (Sh.int .u8) (Sh.pr (Sh.int .u8) (Sh.pr (Sh.int .u8) (Sh.pr (Sh.int .u8) (Sh.pr (Sh.int .u8) (Sh.pr (Sh.int .u8) (Sh.pr (Sh.int .u8) (Sh.pr (Sh.int .u8) (Sh.pr (Sh.int .u8) (Sh.pr (Sh.int .u8) (Sh.pr (Sh.sl (Sh.int .u8)) (Sh.pr (Sh.int .i64) (Sh.pr (Sh.int .i64) (Sh.pr (Sh.int .i64) (Sh.pr (Sh.sl (Sh.int .u8)) (Sh.pr (Sh.int .i64) (Sh.pr (Sh.int .i64) (Sh.pr (Sh.int .i64) Sh.bool)))))))))))))))))))))))))))))))))))))))))))], true, [], []⟩), none, none, none, (some ⟨0, [(2, (Sh.st (Sh.pr Sh.bool (Sh.pr (Sh.int .u8) (Sh.pr (Sh.int .u8) (Sh.pr (Sh.int .u8) (Sh.pr (Sh.int .u8) (Sh.pr (Sh.int .u8) (Sh.pr (Sh.int .u8) (Sh.pr (Sh.int .u8) (Sh.pr (Sh.int .u8) (Sh.pr (Sh.int .u8) (Sh.pr (Sh.int .u8) (Sh.pr (Sh.int .u8) (Sh.pr (Sh.int .u8) (Sh.pr (Sh.int .u8) (Sh.pr (Sh.int .u8) (Sh.pr (Sh.int .u8) (Sh.pr (Sh.int .u8) (Sh.pr (Sh.int .u8) (Sh.pr (Sh.int .u8) (Sh.pr (Sh.int .u8) (Sh.pr (Sh.int .u8) (Sh.pr (Sh.int .u8) (Sh.pr (Sh.int .u8) (Sh.pr (Sh.int .u8) (Sh.pr (Sh.int .u8) (Sh.pr (Sh.int .u8) (Sh.pr (Sh.int .u8) (Sh.pr (Sh.int .u8) (Sh.pr (Sh.int .u8) (Sh.pr (Sh.int .u8) (Sh.pr (Sh.int .u8) (Sh.pr (Sh.int .u8) (Sh.pr (Sh.int .u8) (Sh.pr (Sh.sl (Sh.int .u8)) (Sh.pr (Sh.int .i64) (Sh.pr (Sh.int .i64) (Sh.pr (Sh.int .i64) (Sh.pr (Sh.sl (Sh.int .u8)) (Sh.pr (Sh.int .i64) (Sh.pr (Sh.int .i64) (Sh.pr (Sh.int .i64) Sh.bool)))))))))))))))))))))))))))))))))))))))))))], true, [], []⟩), none, (some ⟨0, [(2, (Sh.st (Sh.pr Sh.bool (Sh.pr (Sh.int .u8) (Sh.pr (Sh.int .u8) (Sh.pr (Sh.int .u8) (Sh.pr (Sh.int .u8) (Sh.pr (Sh.int .u8) (Sh.pr (Sh.int .u8) (Sh.pr (Sh.int .u8) (Sh.pr (Sh.int .u8) (Sh.pr (Sh.int .u8) (Sh.pr (Sh.int .u8) (Sh.pr (Sh.int .u8) (Sh.pr (Sh.int .u8) (Sh.pr (Sh.int .u8) (Sh.pr (Sh.int .u8) (Sh.pr (Sh.int .u8) (Sh.pr (Sh.int .u8) (Sh.pr (Sh.int .u8) (Sh.pr (Sh.int .u8) (Sh.pr (Sh.int .u8) (Sh.pr (Sh.int .u8) (Sh.pr (Sh.int .u8) (Sh.pr (Sh.int .u8) (Sh.pr (Sh.int .u8) (Sh.pr (Sh.int .u8) (Sh.pr (Sh.int .u8) (Sh.pr (Sh.int .u8) (Sh.pr (Sh.int .u8) (Sh.pr (Sh.int .u8) (Sh.pr (Sh.int .u8) (Sh.pr (Sh.int .u8) (Sh.pr (Sh.int .u8) (Sh.pr (Sh.int .u8) (Sh.pr (Sh.sl (Sh.int .u8)) (Sh.pr (Sh.int .i64) (Sh.pr (Sh.int .i64) (Sh.pr (Sh.int .i64) (Sh.pr (Sh.sl (Sh.int .u8)) (Sh.pr (Sh.int .i64) (Sh.pr (Sh.int .i64) (Sh.pr (Sh.int .i64) Sh.bool)))))))))))))))))))))))))))))))))))))))))))], true, [], []⟩)], false, none, none, false⟩ 16 = some k92 := by kernel_rfl
theorem lk97 : compF Go.Proofs.Try.prog mF ⟨[0, 3], [none, none], false, none, none, false⟩ 21 = some k97 := by kernel_rfl
theorem lk98 : compF Go.Proofs.Try.prog mF ⟨[0, 2], [none, none, none], false, none, none, true⟩ 22 = some k98 := by kernel_rfl
theorem lk99 : compF Go.Proofs.Try.prog mF ⟨[0, 2, 5], [none, none, none, none, none, none], false, none, none, false⟩ 23 = some k99 := by kernel_rfl
theorem lk106 : compF Go.Proofs.Try.prog mF ⟨[0, 1, 2, 6, 7, 11], [none, none, none, none, none, none, none, none, none], false, none, none, true⟩ 24 = some k106 := by kernel_rfl
theorem lk107 : compF Go.Proofs.Try.prog mF ⟨[0, 1, 2, 6, 7, 12], [none, none, none, none, none, none, none, none, none], false, none, none, true⟩ 25 = some k107 := by kernel_rfl
theorem lk109 : compF Go.Proofs.Try.prog mF ⟨[0, 1, 4, 5], [none, none, none, none, none, none], false, none, none, false⟩ 27 = some k109 := by kernel_rfl
theorem lk110 : compF Go.Proofs.Try.prog mF ⟨[0, 2], [none, none, none], false, none, none, true⟩ 28 = some k110 := by kernel_rfl
theorem lk111 : compF Go.Proofs.Try.prog mF ⟨[0, 2], [none, none, none], false, (some [(Sh.int .i64)]), (some Sh.bool), false⟩ 29 = some k111 := by kernel_rfl
theorem mF_mem {f g : Nat} (h : mF f = some g) : (f, g) ∈ mT := by
  simp only [mF, Option.map_eq_some_iff] at h
  obtain ⟨p, h1, h2⟩ := h
  have h3 := List.mem_of_find?_eq_some h1
  have h4 := List.find?_some h1
  have h5 : p.1 = f := by simpa using h4
  rw [← h5, ← h2]; exact h3
theorem link : Link Go.Proofs.Try.prog mF FT := by
  intro f g fn hm hF
  have h := mF_mem hm
  simp only [mT, List.mem_cons, Prod.mk.injEq, List.not_mem_nil, or_false] at h
  rcases h with ⟨rfl, rfl⟩ | ⟨rfl, rfl⟩ | ⟨rfl, rfl⟩ | ⟨rfl, rfl⟩ | ⟨rfl, rfl⟩ | ⟨rfl, rfl⟩ | ⟨rfl, rfl⟩ | ⟨rfl, rfl⟩ | ⟨rfl, rfl⟩ | ⟨rfl, rfl⟩ | ⟨rfl, rfl⟩ | ⟨rfl, rfl⟩ | ⟨rfl, rfl⟩ | ⟨rfl, rfl⟩ | ⟨rfl, rfl⟩ | ⟨rfl, rfl⟩ | ⟨rfl, rfl⟩ | ⟨rfl, rfl⟩ | ⟨rfl, rfl⟩
  · injection hF with hF; subst hF; exact compF_ok lk74
  · injection hF with hF; subst hF; exact compF_ok lk84
  · injection hF with hF; subst hF; exact compF_ok lk85
  · injection hF with hF; subst hF; exact compF_ok lk86
  · injection hF with hF; subst hF; exact compF_ok lk87
  · injection hF with hF; subst hF; exact compF_ok lk88
  · injection hF with hF; subst hF; exact compF_ok lk89
  · injection hF with hF; subst hF; exact compF_ok lk90
  · injection hF with hF; subst hF; exact compF_ok lk91
  · injection hF with hF; subst hF; exact compF_ok lk92
  · injection hF with hF; subst hF; exact compF_ok lk97
  · injection hF with hF; subst hF; exact compF_ok lk98
  · injection hF with hF; subst hF; exact compF_ok lk99
  · injection hF with hF; subst hF; exact compF_ok lk106
  · injection hF with hF; subst hF; exact compF_ok lk107
  · cases hF
  · injection hF with hF; subst hF; exact compF_ok lk109
  · injection hF with hF; subst hF; exact compF_ok lk110
  · injection hF with hF; subst hF; exact compF_ok lk111
theorem lk108 : compF Go.Proofs.Try.prog mF ⟨[0, 2, 4], [none, none, none, none, none, none], false, (some [(Sh.sl (Sh.int .u8))]), none, false⟩ 26 = some kclone := by kernel_rfl
theorem xok : XOK Go.Proofs.Try.prog mF where
  c61 := fun f h => by
    have h := mF_mem h
    simp only [mT, List.mem_cons, Prod.mk.injEq, List.not_mem_nil, or_false] at h
    omega
  c108 := fun f h => by
    have h := mF_mem h
    simp only [mT, List.mem_cons, Prod.mk.injEq, List.not_mem_nil, or_false] at h
    obtain rfl : f = 26 := by omega
    exact compF_ok lk108
  c320 := fun f h => by
    have h := mF_mem h
    simp only [mT, List.mem_cons, Prod.mk.injEq, List.not_mem_nil, or_false] at h
    omega
  c66 := fun f h => by
    have h := mF_mem h
    simp only [mT, List.mem_cons, Prod.mk.injEq, List.not_mem_nil, or_false] at h
    omega
end Go.Proofs.YtcnkihdjenjdgaaE
