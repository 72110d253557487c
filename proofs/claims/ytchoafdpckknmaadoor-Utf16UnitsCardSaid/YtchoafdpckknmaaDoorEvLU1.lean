/- The evaluator's functions are the program's. -/
import Derived.Test.YtchoafdpckknmaaDoorEvFU1
import Derived.Test.YtchoafdpckknmaaDoorChecked
import Derived.KernelRfl
namespace Go.Proofs.YtchoafdpckknmaaDoorE
open Go
set_option linter.unusedVariables false
set_option linter.unusedSimpArgs false
abbrev nn (n : Nat) : List (Option Trim) := List.replicate n none
def mT : List (Nat × Nat) := [(19, 19), (13, 23), (27, 48), (7, 387), (8, 388), (14, 391), (9, 392), (15, 393), (10, 394), (21, 396), (22, 397), (11, 398), (29, 401), (20, 402), (28, 404), (3, 405), (4, 406), (5, 407), (6, 408), (12, 409), (16, 410), (17, 411), (18, 412), (26, 416), (33, 420), (34, 421), (38, 424)]
def mF : Nat → Option Nat := fun f => (mT.find? (·.1 == f)).map (·.2)
theorem lk19 : compF Go.Proofs.Tryd.prog mF ⟨[0, 1, 2, 6, 7, 8, 9, 15, 19, 20, 21, 33], (nn 6 ++ [(some ⟨0, [], false, [0, 2, 8, 19, 20], []⟩), none, (some ⟨0, [], false, [2, 8], []⟩)] ++ nn 7), false, (some [(Sh.int .u64), (Sh.int .i64), Sh.bool]), (some (Sh.tu (Sh.pr (Sh.sl (Sh.int .u8)) (Sh.int .i64)))), false⟩ 19 = some k19 := by kernel_rfl
theorem lk23 : compF Go.Proofs.Tryd.prog mF ⟨[0, 1, 4, 5, 10, 14, 25], (nn 5 ++ [(some ⟨0, [], false, [0, 1, 5], []⟩), none, (some ⟨0, [], false, [], []⟩)] ++ nn 6), false, (some [(Sh.sl (Sh.int .u8)), (Sh.sl (Sh.int .u8))]), (some Sh.bool), false⟩ 13 = some k23 := by kernel_rfl
theorem lk48 : compF Go.Proofs.Tryd.prog mF ⟨[0, 2, 3, 9], ([none, (some ⟨0, [], false, [0, 2, 3], []⟩), none, (some ⟨0, [], false, [], []⟩), none, none]), true, none, none, false⟩ 27 = some k48 := by kernel_rfl
theorem lk387 : compF Go.Proofs.Tryd.prog mF ⟨[0, 2, 3, 4, 5, 7, 8, 13, 16, 17, 18, 19], (nn 7 ++ [(some ⟨0, [], false, [5, 16, 17, 18], [(5, (.ints .u8 []), 1)]⟩), none, (some ⟨0, [], false, [5], []⟩)] ++ nn 6), false, (some [Sh.str]), (some (Sh.tu (Sh.pr (Sh.sl (Sh.int .u8)) (Sh.int .i64)))), false⟩ 7 = some k387 := by kernel_rfl
theorem lk388 : compF Go.Proofs.Tryd.prog mF ⟨[0, 2, 3, 4, 5, 6, 7, 11, 18], (nn 8 ++ [(some ⟨0, [], false, [5, 6, 7], [(5, (.ints .u8 []), 1)]⟩), none, (some ⟨0, [], false, [5], []⟩)] ++ nn 4), false, (some [Sh.str]), (some (Sh.tu (Sh.pr (Sh.sl (Sh.int .u8)) (Sh.int .i64)))), false⟩ 8 = some k388 := by kernel_rfl
theorem lk391 : compF Go.Proofs.Tryd.prog mF ⟨[0, 2, 3, 7], (nn 9), false, (some [Sh.str]), (some (Sh.int .i64)), false⟩ 14 = some k391 := by kernel_rfl
theorem lk392 : compF Go.Proofs.Tryd.prog mF ⟨[0, 2, 3, 5, 8, 10, 11, 12, 15], (nn 6 ++ [(some ⟨0, [], false, [3, 10], [(3, (.ints .u16 []), 1)]⟩), none, (some ⟨0, [], false, [3], []⟩)] ++ nn 3 ++ [(some ⟨0, [], false, [3, 10], []⟩)] ++ nn 4), false, (some [Sh.str]), (some (Sh.sl (Sh.int .u16))), false⟩ 9 = some k392 := by kernel_rfl
theorem lk393 : compF Go.Proofs.Tryd.prog mF ⟨[0, 2, 3, 4, 11, 14], (nn 10), false, (some [Sh.str]), (some (Sh.int .i64)), false⟩ 15 = some k393 := by kernel_rfl
theorem lk394 : compF Go.Proofs.Tryd.prog mF ⟨[0, 2, 3, 5, 6, 7, 10, 19, 26], (nn 7 ++ [(some ⟨0, [], false, [3, 5, 6], [(5, (.ints .u16 []), 1)]⟩), none, (some ⟨0, [], false, [5], []⟩)] ++ nn 7), false, (some [Sh.str]), (some (Sh.sl (Sh.int .u16))), false⟩ 10 = some k394 := by kernel_rfl
theorem lk396 : compF Go.Proofs.Tryd.prog mF ⟨[0, 2, 3, 4, 5, 6, 9, 13, 24, 39, 62, 75, 76, 94, 97, 125, 128, 166], ([none, (some ⟨0, [], false, [0], []⟩), none, (some ⟨0, [], false, [], []⟩)] ++ nn 7 ++ [(some ⟨1, [], false, [0], []⟩), none, (some ⟨0, [], false, [0], []⟩), none, (some ⟨0, [], false, [0], []⟩)] ++ nn 23), false, (some [Sh.str]), (some Sh.bool), false⟩ 21 = some k396 := by kernel_rfl
theorem lk397 : compF Go.Proofs.Tryd.prog mF ⟨[0, 2, 4, 6], ([none, none, (some ⟨0, [], false, [2, 4], []⟩), none, (some ⟨0, [], false, [2], []⟩)] ++ nn 3), false, (some [Sh.str]), (some (Sh.int .i64)), false⟩ 22 = some k397 := by kernel_rfl
theorem lk398 : compF Go.Proofs.Tryd.prog mF ⟨[0, 2, 3, 4, 5, 6, 7, 11, 19], (nn 3 ++ [(some ⟨0, [], false, [0, 4, 5], [(4, (.ints .i64 []), 1)]⟩), none, (some ⟨0, [], false, [4], []⟩)] ++ nn 8), false, (some [Sh.str]), (some (Sh.tu (Sh.pr (Sh.sl (Sh.int .i64)) Sh.bool))), false⟩ 11 = some k398 := by kernel_rfl
theorem lk401 : compF Go.Proofs.Tryd.prog mF ⟨[0, 2], (nn 5), false, (some [Sh.str]), (some (Sh.int .u64)), false⟩ 29 = some k401 := by kernel_rfl
theorem lk402 : compF Go.Proofs.Tryd.prog mF ⟨[0, 1, 4, 5, 6, 7, 8, 9, 10, 11, 12, 17, 21, 30, 39, 50, 62, 81], (nn 15 ++ [(some ⟨0, [], false, [0, 1, 7, 8, 9, 10], []⟩), none, (some ⟨0, [], false, [7, 8, 9], []⟩)] ++ nn 11), false, (some [Sh.str, (Sh.int .i64)]), (some (Sh.tu (Sh.pr (Sh.int .i64) (Sh.int .i64)))), false⟩ 20 = some k402 := by kernel_rfl
theorem lk404 : compF Go.Proofs.Tryd.prog mF ⟨[0, 1, 4, 5, 21], (nn 6), false, (some [Sh.str, (Sh.int .i64)]), (some (Sh.tu (Sh.pr (Sh.int .i64) Sh.bool))), false⟩ 28 = some k404 := by kernel_rfl
theorem lk405 : compF Go.Proofs.Tryd.prog mF ⟨[0, 2, 3, 4, 5, 6, 7, 8, 9, 10, 11, 14, 58, 60, 61, 62, 72], (nn 12 ++ [(some ⟨0, [], false, [0, 3, 4, 5, 6, 7, 8, 60, 61], []⟩), none, (some ⟨0, [], false, [0, 3, 4, 5, 6], []⟩)] ++ nn 7), false, (some [Sh.str]), (some Sh.bool), false⟩ 3 = some k405 := by kernel_rfl
theorem lk406 : compF Go.Proofs.Tryd.prog mF ⟨[0, 1, 4, 5, 6, 7, 8, 9, 10, 11, 12, 20, 28, 40, 47], (nn 17), false, (some [Sh.str, (Sh.sl (Sh.int .u8))]), (some Sh.bool), false⟩ 4 = some k406 := by kernel_rfl
theorem lk407 : compF Go.Proofs.Tryd.prog mF ⟨[0, 2, 3, 4, 5, 6, 7, 8, 11, 23, 46, 47, 48, 49, 50, 71], (nn 13 ++ [(some ⟨0, [], false, [3, 4, 5, 47, 48, 49], []⟩), none, (some ⟨0, [], false, [3, 4], []⟩)] ++ nn 7), false, (some [Sh.str]), (some Sh.bool), false⟩ 5 = some k407 := by kernel_rfl
theorem lk408 : compF Go.Proofs.Tryd.prog mF ⟨[0, 1, 2, 3, 4], (nn 5), false, (some []), (some Sh.bool), false⟩ 6 = some k408 := by kernel_rfl
theorem lk409 : compF Go.Proofs.Tryd.prog mF ⟨[0, 2, 5], (nn 6), false, (some [Sh.str]), (some (Sh.int .i64)), false⟩ 12 = some k409 := by kernel_rfl
theorem lk411 : compF Go.Proofs.Tryd.prog mF ⟨[0, 2], (nn 3), false, (some [Sh.str]), (some Sh.str), false⟩ 17 = some k411 := by kernel_rfl
theorem lk412 : compF Go.Proofs.Tryd.prog mF ⟨[0, 2, 4, 6, 7, 8, 15], ([none, none, (some ⟨0, [], false, [6], []⟩), none, (some ⟨0, [], false, [], []⟩)] ++ nn 6), false, (some [Sh.str]), (some Sh.bool), false⟩ 18 = some k412 := by kernel_rfl
theorem lk416 : compF Go.Proofs.Tryd.prog mF ⟨[0, 1, 4, 5, 8, 13, 20, 27, 28], (nn 19), false, (some [Sh.str, Sh.str]), (some (Sh.int .i64)), false⟩ 26 = some k416 := by kernel_rfl
theorem lk420 : compF Go.Proofs.Tryd.prog mF ⟨[0, 1, 4, 5, 10, 17], ([none, none, (some ⟨0, [], false, [0, 1, 5], []⟩), none, (some ⟨0, [], false, [], []⟩)] ++ nn 6), false, (some [Sh.str, (Sh.int .u8)]), (some (Sh.int .i64)), false⟩ 33 = some k420 := by kernel_rfl
theorem lk421 : compF Go.Proofs.Tryd.prog mF ⟨[0, 1, 4, 5, 6, 7, 8, 9, 10, 11, 28, 47, 52, 85], (nn 6 ++ [(some ⟨0, [], false, [0, 1, 5, 6, 7, 8, 9, 10], []⟩), none, (some ⟨0, [], false, [0, 1, 5, 6, 7, 8, 9], []⟩)] ++ nn 6 ++ [(some ⟨1, [], false, [0, 1, 5, 6, 7, 9, 11], []⟩), none, (some ⟨0, [], false, [], []⟩)] ++ nn 9), false, (some [Sh.str, Sh.str]), (some (Sh.int .i64)), false⟩ 34 = some k421 := by kernel_rfl
theorem lk424 : compF Go.Proofs.Tryd.prog mF ⟨[0, 2, 3, 4, 5, 6, 7, 8, 13, 26, 31], (nn 3 ++ [(some ⟨0, [], false, [0, 4, 5], []⟩), none, (some ⟨0, [], false, [0, 4], []⟩)] ++ nn 4 ++ [(some ⟨1, [], false, [4, 6, 7, 8], []⟩), none, (some ⟨0, [], false, [4, 6], []⟩)] ++ nn 6), false, (some [Sh.str]), (some (Sh.tu (Sh.pr (Sh.int .u32) (Sh.int .u32)))), false⟩ 38 = some k424 := by kernel_rfl
theorem mF_mem {f g : Nat} (h : mF f = some g) : (f, g) ∈ mT := by
  simp only [mF, Option.map_eq_some_iff] at h
  obtain ⟨p, h1, h2⟩ := h
  have h3 := List.mem_of_find?_eq_some h1
  have h4 := List.find?_some h1
  have h5 : p.1 = f := by simpa using h4
  rw [← h5, ← h2]; exact h3
theorem link : Link Go.Proofs.Tryd.prog mF FT := by
  intro f g fn hm hF
  have h := mF_mem hm
  simp only [mT, List.mem_cons, Prod.mk.injEq, List.not_mem_nil, or_false] at h
  rcases h with ⟨rfl, rfl⟩ | ⟨rfl, rfl⟩ | ⟨rfl, rfl⟩ | ⟨rfl, rfl⟩ | ⟨rfl, rfl⟩ | ⟨rfl, rfl⟩ | ⟨rfl, rfl⟩ | ⟨rfl, rfl⟩ | ⟨rfl, rfl⟩ | ⟨rfl, rfl⟩ | ⟨rfl, rfl⟩ | ⟨rfl, rfl⟩ | ⟨rfl, rfl⟩ | ⟨rfl, rfl⟩ | ⟨rfl, rfl⟩ | ⟨rfl, rfl⟩ | ⟨rfl, rfl⟩ | ⟨rfl, rfl⟩ | ⟨rfl, rfl⟩ | ⟨rfl, rfl⟩ | ⟨rfl, rfl⟩ | ⟨rfl, rfl⟩ | ⟨rfl, rfl⟩ | ⟨rfl, rfl⟩ | ⟨rfl, rfl⟩ | ⟨rfl, rfl⟩ | ⟨rfl, rfl⟩
  · injection hF with hF; subst hF; exact compF_ok lk19
  · injection hF with hF; subst hF; exact compF_ok lk23
  · injection hF with hF; subst hF; exact compF_ok lk48
  · injection hF with hF; subst hF; exact compF_ok lk387
  · injection hF with hF; subst hF; exact compF_ok lk388
  · injection hF with hF; subst hF; exact compF_ok lk391
  · injection hF with hF; subst hF; exact compF_ok lk392
  · injection hF with hF; subst hF; exact compF_ok lk393
  · injection hF with hF; subst hF; exact compF_ok lk394
  · injection hF with hF; subst hF; exact compF_ok lk396
  · injection hF with hF; subst hF; exact compF_ok lk397
  · injection hF with hF; subst hF; exact compF_ok lk398
  · injection hF with hF; subst hF; exact compF_ok lk401
  · injection hF with hF; subst hF; exact compF_ok lk402
  · injection hF with hF; subst hF; exact compF_ok lk404
  · injection hF with hF; subst hF; exact compF_ok lk405
  · injection hF with hF; subst hF; exact compF_ok lk406
  · injection hF with hF; subst hF; exact compF_ok lk407
  · injection hF with hF; subst hF; exact compF_ok lk408
  · injection hF with hF; subst hF; exact compF_ok lk409
  · cases hF
  · injection hF with hF; subst hF; exact compF_ok lk411
  · injection hF with hF; subst hF; exact compF_ok lk412
  · injection hF with hF; subst hF; exact compF_ok lk416
  · injection hF with hF; subst hF; exact compF_ok lk420
  · injection hF with hF; subst hF; exact compF_ok lk421
  · injection hF with hF; subst hF; exact compF_ok lk424
theorem xok : XOK Go.Proofs.Tryd.prog mF where
  c61 := fun f h => by
    have h := mF_mem h
    simp only [mT, List.mem_cons, Prod.mk.injEq, List.not_mem_nil, or_false] at h
    omega
  c108 := fun f h => by
    have h := mF_mem h
    simp only [mT, List.mem_cons, Prod.mk.injEq, List.not_mem_nil, or_false] at h
    omega
  c320 := fun f h => by
    have h := mF_mem h
    simp only [mT, List.mem_cons, Prod.mk.injEq, List.not_mem_nil, or_false] at h
    omega
  c66 := fun f h => by
    have h := mF_mem h
    simp only [mT, List.mem_cons, Prod.mk.injEq, List.not_mem_nil, or_false] at h
    omega
  c400 := fun f h => by
    have h := mF_mem h
    simp only [mT, List.mem_cons, Prod.mk.injEq, List.not_mem_nil, or_false] at h
    omega
theorem l410 : ∀ f, mF f = some 410 → f = 16 := fun f h => by
  have h := mF_mem h
  simp only [mT, List.mem_cons, Prod.mk.injEq, List.not_mem_nil, or_false] at h
  omega
end Go.Proofs.YtchoafdpckknmaaDoorE
