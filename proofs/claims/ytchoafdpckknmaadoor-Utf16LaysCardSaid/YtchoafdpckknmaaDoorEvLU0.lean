/- The evaluator's functions are the program's. -/
import Derived.Test.YtchoafdpckknmaaDoorEvFU0
import Derived.Test.YtchoafdpckknmaaDoorChecked
import Derived.KernelRfl
namespace Go.Proofs.YtchoafdpckknmaaDoorE.U0
open Go
set_option linter.unusedVariables false
set_option linter.unusedSimpArgs false
abbrev nn (n : Nat) : List (Option Trim) := List.replicate n none
def mT : List (Nat × Nat) := [(35, 21), (22, 397), (23, 413), (30, 417)]
def mF : Nat → Option Nat := fun f => (mT.find? (·.1 == f)).map (·.2)
theorem lk21 : compF Go.Proofs.Tryd.prog mF ⟨[0, 1, 4, 5, 6, 7, 8, 16, 17, 18, 19, 20, 24], (nn 6 ++ [(some ⟨0, [], false, [1, 6, 17, 18, 19], []⟩), none, (some ⟨0, [], false, [6], []⟩)] ++ nn 7), false, (some [(Sh.sl (Sh.int .u8)), Sh.bool]), (some (Sh.tu (Sh.pr (Sh.int .u64) (Sh.int .i64)))), false⟩ 35 = some k21 := by kernel_rfl
theorem lk397 : compF Go.Proofs.Tryd.prog mF ⟨[0, 2, 4, 6], ([none, none, (some ⟨0, [], false, [2, 4], []⟩), none, (some ⟨0, [], false, [2], []⟩)] ++ nn 3), false, (some [Sh.str]), (some (Sh.int .i64)), false⟩ 22 = some k397 := by kernel_rfl
theorem lk413 : compF Go.Proofs.Tryd.prog mF ⟨[0, 2, 3, 4, 5, 13, 27], (nn 11), false, (some [(Sh.sl (Sh.int .u8))]), (some (Sh.tu (Sh.pr (Sh.int .i32) (Sh.int .i64)))), false⟩ 23 = some k413 := by kernel_rfl
theorem lk417 : compF Go.Proofs.Tryd.prog mF ⟨[0, 2, 3, 7], (nn 7), false, (some [(Sh.sl (Sh.int .u8))]), (some (Sh.int .i32)), false⟩ 30 = some k417 := by kernel_rfl
theorem mF_mem {f g : Nat} (h : mF f = some g) : (f, g) ∈ mT := by
  simp only [mF, Option.map_eq_some_iff] at h
  obtain ⟨p, h1, h2⟩ := h
  have h3 := List.mem_of_find?_eq_some h1
  have h4 := List.find?_some h1
  have h5 : p.1 = f := by simpa using h4
  rw [← h5, ← h2]; exact h3
theorem link : Link Go.Proofs.Tryd.prog mF FT := by
  intro f g fn hm hF
  have h := mF_mem hm
  simp only [mT, List.mem_cons, Prod.mk.injEq, List.not_mem_nil, or_false] at h
  rcases h with ⟨rfl, rfl⟩ | ⟨rfl, rfl⟩ | ⟨rfl, rfl⟩ | ⟨rfl, rfl⟩
  · injection hF with hF; subst hF; exact compF_ok lk21
  · injection hF with hF; subst hF; exact compF_ok lk397
  · injection hF with hF; subst hF; exact compF_ok lk413
  · injection hF with hF; subst hF; exact compF_ok lk417
theorem xok : XOK Go.Proofs.Tryd.prog mF where
  c61 := fun f h => by
    have h := mF_mem h
    simp only [mT, List.mem_cons, Prod.mk.injEq, List.not_mem_nil, or_false] at h
    omega
  c108 := fun f h => by
    have h := mF_mem h
    simp only [mT, List.mem_cons, Prod.mk.injEq, List.not_mem_nil, or_false] at h
    omega
  c320 := fun f h => by
    have h := mF_mem h
    simp only [mT, List.mem_cons, Prod.mk.injEq, List.not_mem_nil, or_false] at h
    omega
  c66 := fun f h => by
    have h := mF_mem h
    simp only [mT, List.mem_cons, Prod.mk.injEq, List.not_mem_nil, or_false] at h
    omega
  c400 := fun f h => by
    have h := mF_mem h
    simp only [mT, List.mem_cons, Prod.mk.injEq, List.not_mem_nil, or_false] at h
    omega
end Go.Proofs.YtchoafdpckknmaaDoorE.U0
