/- The evaluator's functions are the program's. -/
import Derived.Test.YtdlmhclopdkhcaaDoorEvFN3
import Derived.Test.YtdlmhclopdkhcaaDoorChecked
import Derived.KernelRfl
namespace Go.Proofs.YtdlmhclopdkhcaaDoorE
open Go
set_option linter.unusedVariables false
set_option linter.unusedSimpArgs false
abbrev nn (n : Nat) : List (Option Trim) := List.replicate n none
def mT : List (Nat × Nat) := [(51, 1), (37, 19), (73, 21), (34, 46), (54, 48), (71, 64), (74, 75), (81, 100), (82, 101), (84, 114), (85, 115), (86, 116), (78, 120), (40, 174), (45, 175), (38, 176), (43, 177), (39, 178), (44, 179), (28, 181), (30, 182), (55, 192), (56, 193), (57, 194), (58, 195), (60, 196), (61, 197), (62, 198), (76, 204), (3, 364), (8, 369), (9, 370), (10, 371), (11, 372), (12, 373), (27, 387), (29, 388), (35, 391), (36, 392), (41, 393), (42, 394), (52, 396), (53, 397), (59, 398), (72, 401), (75, 402), (77, 403), (83, 404)]
def mF : Nat → Option Nat := fun f => (mT.find? (·.1 == f)).map (·.2)
theorem lk1 : compF Go.Proofs.Tryd.prog mF ⟨[0, 2, 3, 5, 6, 8, 9, 10, 11, 12, 20, 25, 26, 27, 28], (nn 3 ++ [(some ⟨0, [], false, [0, 3, 9, 10, 11], []⟩), none, (some ⟨0, [], false, [0, 3], []⟩)] ++ nn 7 ++ [(some ⟨1, [], false, [6, 25, 26, 27], []⟩), none, (some ⟨0, [], false, [6], []⟩)] ++ nn 5), false, (some [(Sh.sl (Sh.sl (Sh.int .u8)))]), none, false⟩ 51 = some k1 := by kernel_rfl
theorem lk19 : compF Go.Proofs.Tryd.prog mF ⟨[0, 1, 2, 6, 7, 8, 9, 15, 19, 20, 21, 33], (nn 6 ++ [(some ⟨0, [], false, [0, 2, 8, 19, 20], []⟩), none, (some ⟨0, [], false, [2, 8], []⟩)] ++ nn 7), false, (some [(Sh.int .u64), (Sh.int .i64), Sh.bool]), (some (Sh.tu (Sh.pr (Sh.sl (Sh.int .u8)) (Sh.int .i64)))), false⟩ 37 = some k19 := by kernel_rfl
theorem lk21 : compF Go.Proofs.Tryd.prog mF ⟨[0, 1, 4, 5, 6, 7, 8, 16, 17, 18, 19, 20, 24], (nn 6 ++ [(some ⟨0, [], false, [1, 6, 17, 18, 19], []⟩), none, (some ⟨0, [], false, [6], []⟩)] ++ nn 7), false, (some [(Sh.sl (Sh.int .u8)), Sh.bool]), (some (Sh.tu (Sh.pr (Sh.int .u64) (Sh.int .i64)))), false⟩ 73 = some k21 := by kernel_rfl
theorem lk46 : compF Go.Proofs.Tryd.prog mF ⟨[0, 2], (nn 3), false, (some [(Sh.sl (Sh.sl (Sh.int .u8)))]), none, false⟩ 34 = some k46 := by kernel_rfl
theorem lk48 : compF Go.Proofs.Tryd.prog mF ⟨[0, 2, 3, 9], ([none, (some ⟨0, [], false, [0, 2, 3], []⟩), none, (some ⟨0, [], false, [], []⟩), none, none]), true, none, none, false⟩ 54 = some k48 := by kernel_rfl
theorem lk64 : compF Go.Proofs.Tryd.prog mF ⟨[0, 1, 4, 6, 16], (nn 7 ++ [(some ⟨0, [], true, [], [(4, (.ints .u8 []), 1)]⟩)]), false, none, none, false⟩ 71 = some k64 := by kernel_rfl
theorem lk75 : compF Go.Proofs.Tryd.prog mF ⟨[0, 1, 2, 6, 7, 12], (nn 6), false, (some [(Sh.int .i64), (Sh.int .i64), (Sh.int .i64)]), (some (Sh.tu (Sh.pr (Sh.int .u64) (Sh.int .i64)))), false⟩ 74 = some k75 := by kernel_rfl
theorem lk100 : compF Go.Proofs.Tryd.prog mF ⟨[0, 1, 2, 6], (nn 3), false, (some [(Sh.int .i64), (Sh.int .i64), (Sh.int .i64)]), (some Sh.bool), false⟩ 81 = some k100 := by kernel_rfl
theorem lk101 : compF Go.Proofs.Tryd.prog mF ⟨[0, 1, 2, 3, 4], (nn 3), false, (some [(Sh.int .i64), (Sh.int .i64)]), (some (Sh.int .u64)), false⟩ 82 = some k101 := by kernel_rfl
theorem lk114 : compF Go.Proofs.Tryd.prog mF ⟨[0, 1, 4, 5, 6, 7, 11, 21], ([none, none, (some ⟨0, [], false, [1, 5, 6], []⟩), none, (some ⟨0, [], false, [5], []⟩)] ++ nn 6), false, none, none, false⟩ 84 = some k114 := by kernel_rfl
theorem lk115 : compF Go.Proofs.Tryd.prog mF ⟨[0, 1, 2, 4], (nn 3), false, none, none, false⟩ 85 = some k115 := by kernel_rfl
theorem lk116 : compF Go.Proofs.Tryd.prog mF ⟨[0, 1, 2, 6, 7, 8, 9, 10, 11, 19], (nn 9), false, (some [(Sh.int .u64), (Sh.int .u64), (Sh.int .i64)]), (some Sh.bool), false⟩ 86 = some k116 := by kernel_rfl
theorem lk120 : compF Go.Proofs.Tryd.prog mF ⟨[0, 1, 4, 5, 6, 7, 8, 9, 10, 11, 12, 13], (nn 13), false, (some [(Sh.int .u64), (Sh.int .u64)]), (some (Sh.tu (Sh.pr (Sh.int .u64) (Sh.int .u64)))), false⟩ 78 = some k120 := by kernel_rfl
theorem lk174 : compF Go.Proofs.Tryd.prog mF ⟨[0, 1, 2, 3, 4, 5, 6, 7, 8, 9, 10, 11, 12, 16, 17, 18, 22, 23, 24, 61, 62], (nn 4 ++ [(some ⟨0, [], false, [2, 4, 5, 6, 16, 17], []⟩), none, (some ⟨0, [], false, [2, 4, 6], []⟩), none, none, (some ⟨1, [], false, [2, 4, 5, 6, 7, 8, 16, 17, 22, 23], []⟩), none, (some ⟨0, [], false, [2, 4, 5, 6, 16, 17], []⟩)] ++ nn 6 ++ [(some ⟨2, [], false, [2, 4, 6, 61], []⟩), none, (some ⟨0, [], false, [4, 6], []⟩)] ++ nn 5), false, (some [(Sh.ar .u32), (Sh.ar .u8)]), (some (Sh.ar .u32)), false⟩ 40 = some k174 := by kernel_rfl
theorem lk175 : compF Go.Proofs.Tryd.prog mF ⟨[0, 1, 2, 3, 4, 5, 6, 7, 8, 9, 10, 11, 18, 82], (nn 4 ++ [(some ⟨0, [(5, (Sh.sl (Sh.sl (Sh.int .i64))))], false, [2, 3, 4, 5, 6, 7], []⟩), none, (some ⟨0, [], false, [2, 4, 6], []⟩)] ++ nn 6 ++ [(some ⟨1, [], false, [2, 4, 6, 11], []⟩), none, (some ⟨0, [], false, [4, 6], []⟩)] ++ nn 4), false, (some [(Sh.ar .u32), (Sh.ar .u8)]), (some (Sh.ar .u32)), false⟩ 45 = some k175 := by kernel_rfl
theorem lk176 : compF Go.Proofs.Tryd.prog mF ⟨[0, 2, 3, 4, 5], (nn 6), false, (some [(Sh.int .u64)]), (some (Sh.sl (Sh.int .u8))), false⟩ 38 = some k176 := by kernel_rfl
theorem lk177 : compF Go.Proofs.Tryd.prog mF ⟨[0, 2, 3, 4, 5, 13, 20], ([none, none, (some ⟨0, [], false, [0, 3], [(3, (.imm []), 1)]⟩), none, (some ⟨0, [], false, [0, 3], []⟩)] ++ nn 3 ++ [(some ⟨1, [], false, [3, 4, 5], []⟩), none, (some ⟨0, [], false, [3], []⟩)] ++ nn 5), false, (some [(Sh.int .u64)]), (some (Sh.sl (Sh.int .u8))), false⟩ 43 = some k177 := by kernel_rfl
theorem lk178 : compF Go.Proofs.Tryd.prog mF ⟨[0], (nn 3), false, (some []), (some (Sh.ar .u32)), false⟩ 39 = some k178 := by kernel_rfl
theorem lk179 : compF Go.Proofs.Tryd.prog mF ⟨[0], (nn 3), false, (some []), (some (Sh.ar .u32)), false⟩ 44 = some k179 := by kernel_rfl
theorem lk181 : compF Go.Proofs.Tryd.prog mF ⟨[0, 2, 3, 4, 5, 6, 18, 27, 28], (nn 4 ++ [(some ⟨0, [(3, (Sh.sl (Sh.int .u8)))], false, [2, 3, 4], []⟩), none, (some ⟨0, [], false, [2, 4], []⟩)] ++ nn 4 ++ [(some ⟨1, [], false, [2, 4, 5, 27], []⟩), none, (some ⟨0, [], false, [2, 5], []⟩)] ++ nn 5), false, (some [(Sh.sl (Sh.sl (Sh.int .u8)))]), (some (Sh.ar .u8)), false⟩ 28 = some k181 := by kernel_rfl
theorem lk182 : compF Go.Proofs.Tryd.prog mF ⟨[0, 2, 3, 4, 5, 6, 7, 8, 9, 21, 25, 40], (nn 4 ++ [(some ⟨0, [], false, [2, 3, 4, 5], []⟩), none, (some ⟨0, [], false, [2, 4], []⟩), none, none, (some ⟨1, [], false, [2, 3, 4, 5, 6, 7], []⟩), none, (some ⟨0, [], false, [2, 3, 4, 5, 6], []⟩)] ++ nn 6 ++ [(some ⟨2, [], false, [2, 4, 8, 9], []⟩), none, (some ⟨0, [], false, [2, 8], []⟩)] ++ nn 4), false, (some [(Sh.sl (Sh.int .u8))]), (some (Sh.ar .u8)), false⟩ 30 = some k182 := by kernel_rfl
theorem lk192 : compF Go.Proofs.Tryd.prog mF ⟨[0, 1, 2, 3, 4, 5, 7, 8], (nn 3 ++ [(some ⟨0, [], false, [1, 2, 3, 7], []⟩), none, (some ⟨0, [], false, [2, 3], []⟩)] ++ nn 6), false, (some [(Sh.ar .u8)]), (some (Sh.ar .u32)), false⟩ 55 = some k192 := by kernel_rfl
theorem lk193 : compF Go.Proofs.Tryd.prog mF ⟨[0, 1, 3], (nn 5), false, none, none, false⟩ 56 = some k193 := by kernel_rfl
theorem lk194 : compF Go.Proofs.Tryd.prog mF ⟨[0, 1, 2, 3, 8, 9, 10, 19], (nn 10), false, (some [(Sh.int .i64), (Sh.int .u32), (Sh.int .u32), (Sh.int .u32)]), (some (Sh.int .u32)), false⟩ 57 = some k194 := by kernel_rfl
theorem lk195 : compF Go.Proofs.Tryd.prog mF ⟨[0, 1, 4, 5], (nn 4), false, (some [(Sh.int .u32), (Sh.int .i64)]), (some (Sh.int .u32)), false⟩ 58 = some k195 := by kernel_rfl
theorem lk196 : compF Go.Proofs.Tryd.prog mF ⟨[0, 2, 4, 5, 8], (nn 10), false, (some [(Sh.int .i64)]), (some (Sh.int .i64)), false⟩ 60 = some k196 := by kernel_rfl
theorem lk197 : compF Go.Proofs.Tryd.prog mF ⟨[0, 1, 4], (nn 3), false, (some [(Sh.int .u32), (Sh.int .i64)]), (some (Sh.int .u32)), false⟩ 61 = some k197 := by kernel_rfl
theorem lk198 : compF Go.Proofs.Tryd.prog mF ⟨[0, 1, 2, 3, 8, 9, 10, 20], (nn 10), false, (some [(Sh.int .i64), (Sh.int .u32), (Sh.int .u32), (Sh.int .u32)]), (some (Sh.int .u32)), false⟩ 62 = some k198 := by kernel_rfl
theorem lk204 : compF Go.Proofs.Tryd.prog mF ⟨[0, 1, 2, 6], (nn 3), false, (some [(Sh.int .u32), (Sh.int .u32), (Sh.int .u32)]), (some (Sh.int .u32)), false⟩ 76 = some k204 := by kernel_rfl
theorem lk364 : compF Go.Proofs.Tryd.prog mF ⟨[0, 1, 3, 4, 5, 6, 7, 8, 11], (nn 8), false, (some [Sh.str, (Sh.ar .u8)]), (some Sh.bool), false⟩ 3 = some k364 := by kernel_rfl
theorem lk369 : compF Go.Proofs.Tryd.prog mF ⟨[0, 1, 2], (nn 4), false, (some []), (some Sh.bool), false⟩ 8 = some k369 := by kernel_rfl
theorem lk370 : compF Go.Proofs.Tryd.prog mF ⟨[0, 2, 3, 4, 5, 12], (nn 7), false, (some [Sh.str]), (some (Sh.tu (Sh.pr (Sh.ar .u8) (Sh.int .i64)))), false⟩ 9 = some k370 := by kernel_rfl
theorem lk371 : compF Go.Proofs.Tryd.prog mF ⟨[0, 2, 3, 4, 5, 12], (nn 7), false, (some [Sh.str]), (some (Sh.tu (Sh.pr (Sh.ar .u8) (Sh.int .i64)))), false⟩ 10 = some k371 := by kernel_rfl
theorem lk372 : compF Go.Proofs.Tryd.prog mF ⟨[0, 1, 2], (nn 3), false, (some [(Sh.ar .u8)]), (some (Sh.ar .u8)), false⟩ 11 = some k372 := by kernel_rfl
theorem lk373 : compF Go.Proofs.Tryd.prog mF ⟨[0, 1, 2], (nn 3), false, (some [(Sh.ar .u8)]), (some (Sh.ar .u8)), false⟩ 12 = some k373 := by kernel_rfl
theorem lk387 : compF Go.Proofs.Tryd.prog mF ⟨[0, 2, 3, 4, 5, 7, 8, 13, 16, 17, 18, 19], (nn 7 ++ [(some ⟨0, [], false, [5, 16, 17, 18], [(5, (.ints .u8 []), 1)]⟩), none, (some ⟨0, [], false, [5], []⟩)] ++ nn 6), false, (some [Sh.str]), (some (Sh.tu (Sh.pr (Sh.sl (Sh.int .u8)) (Sh.int .i64)))), false⟩ 27 = some k387 := by kernel_rfl
theorem lk388 : compF Go.Proofs.Tryd.prog mF ⟨[0, 2, 3, 4, 5, 6, 7, 11, 18], (nn 8 ++ [(some ⟨0, [], false, [5, 6, 7], [(5, (.ints .u8 []), 1)]⟩), none, (some ⟨0, [], false, [5], []⟩)] ++ nn 4), false, (some [Sh.str]), (some (Sh.tu (Sh.pr (Sh.sl (Sh.int .u8)) (Sh.int .i64)))), false⟩ 29 = some k388 := by kernel_rfl
theorem lk391 : compF Go.Proofs.Tryd.prog mF ⟨[0, 2, 3, 7], (nn 9), false, (some [Sh.str]), (some (Sh.int .i64)), false⟩ 35 = some k391 := by kernel_rfl
theorem lk392 : compF Go.Proofs.Tryd.prog mF ⟨[0, 2, 3, 5, 8, 10, 11, 12, 15], (nn 6 ++ [(some ⟨0, [], false, [3, 10], [(3, (.ints .u16 []), 1)]⟩), none, (some ⟨0, [], false, [3], []⟩)] ++ nn 3 ++ [(some ⟨0, [], false, [3, 10], []⟩)] ++ nn 4), false, (some [Sh.str]), (some (Sh.sl (Sh.int .u16))), false⟩ 36 = some k392 := by kernel_rfl
theorem lk393 : compF Go.Proofs.Tryd.prog mF ⟨[0, 2, 3, 4, 11, 14], (nn 10), false, (some [Sh.str]), (some (Sh.int .i64)), false⟩ 41 = some k393 := by kernel_rfl
theorem lk394 : compF Go.Proofs.Tryd.prog mF ⟨[0, 2, 3, 5, 6, 7, 10, 19, 26], (nn 7 ++ [(some ⟨0, [], false, [3, 5, 6], [(5, (.ints .u16 []), 1)]⟩), none, (some ⟨0, [], false, [5], []⟩)] ++ nn 7), false, (some [Sh.str]), (some (Sh.sl (Sh.int .u16))), false⟩ 42 = some k394 := by kernel_rfl
theorem lk396 : compF Go.Proofs.Tryd.prog mF ⟨[0, 2, 3, 4, 5, 6, 9, 13, 24, 39, 62, 75, 76, 94, 97, 125, 128, 166], ([none, (some ⟨0, [], false, [0], []⟩), none, (some ⟨0, [], false, [], []⟩)] ++ nn 7 ++ [(some ⟨1, [], false, [0], []⟩), none, (some ⟨0, [], false, [0], []⟩), none, (some ⟨0, [], false, [0], []⟩)] ++ nn 23), false, (some [Sh.str]), (some Sh.bool), false⟩ 52 = some k396 := by kernel_rfl
theorem lk397 : compF Go.Proofs.Tryd.prog mF ⟨[0, 2, 4, 6], ([none, none, (some ⟨0, [], false, [2, 4], []⟩), none, (some ⟨0, [], false, [2], []⟩)] ++ nn 3), false, (some [Sh.str]), (some (Sh.int .i64)), false⟩ 53 = some k397 := by kernel_rfl
theorem lk398 : compF Go.Proofs.Tryd.prog mF ⟨[0, 2, 3, 4, 5, 6, 7, 11, 19], (nn 3 ++ [(some ⟨0, [], false, [0, 4, 5], [(4, (.ints .i64 []), 1)]⟩), none, (some ⟨0, [], false, [4], []⟩)] ++ nn 8), false, (some [Sh.str]), (some (Sh.tu (Sh.pr (Sh.sl (Sh.int .i64)) Sh.bool))), false⟩ 59 = some k398 := by kernel_rfl
theorem lk401 : compF Go.Proofs.Tryd.prog mF ⟨[0, 2], (nn 5), false, (some [Sh.str]), (some (Sh.int .u64)), false⟩ 72 = some k401 := by kernel_rfl
theorem lk402 : compF Go.Proofs.Tryd.prog mF ⟨[0, 1, 4, 5, 6, 7, 8, 9, 10, 11, 12, 17, 21, 30, 39, 50, 62, 81], (nn 15 ++ [(some ⟨0, [], false, [0, 1, 7, 8, 9, 10], []⟩), none, (some ⟨0, [], false, [7, 8, 9], []⟩)] ++ nn 11), false, (some [Sh.str, (Sh.int .i64)]), (some (Sh.tu (Sh.pr (Sh.int .i64) (Sh.int .i64)))), false⟩ 75 = some k402 := by kernel_rfl
theorem lk403 : compF Go.Proofs.Tryd.prog mF ⟨[0, 1, 4, 5, 6], (nn 4), false, (some [(Sh.int .u32), (Sh.int .u32)]), (some (Sh.tu (Sh.pr (Sh.int .u32) (Sh.int .u32)))), false⟩ 77 = some k403 := by kernel_rfl
theorem lk404 : compF Go.Proofs.Tryd.prog mF ⟨[0, 1, 4, 5, 21], (nn 6), false, (some [Sh.str, (Sh.int .i64)]), (some (Sh.tu (Sh.pr (Sh.int .i64) Sh.bool))), false⟩ 83 = some k404 := by kernel_rfl
theorem mF_mem {f g : Nat} (h : mF f = some g) : (f, g) ∈ mT := by
  simp only [mF, Option.map_eq_some_iff] at h
  obtain ⟨p, h1, h2⟩ := h
  have h3 := List.mem_of_find?_eq_some h1
  have h4 := List.find?_some h1
  have h5 : p.1 = f := by simpa using h4
  rw [← h5, ← h2]; exact h3
theorem link : Link Go.Proofs.Tryd.prog mF FT := by
  intro f g fn hm hF
  have h := mF_mem hm
  simp only [mT, List.mem_cons, Prod.mk.injEq, List.not_mem_nil, or_false] at h
  rcases h with ⟨rfl, rfl⟩ | ⟨rfl, rfl⟩ | ⟨rfl, rfl⟩ | ⟨rfl, rfl⟩ | ⟨rfl, rfl⟩ | ⟨rfl, rfl⟩ | ⟨rfl, rfl⟩ | ⟨rfl, rfl⟩ | ⟨rfl, rfl⟩ | ⟨rfl, rfl⟩ | ⟨rfl, rfl⟩ | ⟨rfl, rfl⟩ | ⟨rfl, rfl⟩ | ⟨rfl, rfl⟩ | ⟨rfl, rfl⟩ | ⟨rfl, rfl⟩ | ⟨rfl, rfl⟩ | ⟨rfl, rfl⟩ | ⟨rfl, rfl⟩ | ⟨rfl, rfl⟩ | ⟨rfl, rfl⟩ | ⟨rfl, rfl⟩ | ⟨rfl, rfl⟩ | ⟨rfl, rfl⟩ | ⟨rfl, rfl⟩ | ⟨rfl, rfl⟩ | ⟨rfl, rfl⟩ | ⟨rfl, rfl⟩ | ⟨rfl, rfl⟩ | ⟨rfl, rfl⟩ | ⟨rfl, rfl⟩ | ⟨rfl, rfl⟩ | ⟨rfl, rfl⟩ | ⟨rfl, rfl⟩ | ⟨rfl, rfl⟩ | ⟨rfl, rfl⟩ | ⟨rfl, rfl⟩ | ⟨rfl, rfl⟩ | ⟨rfl, rfl⟩ | ⟨rfl, rfl⟩ | ⟨rfl, rfl⟩ | ⟨rfl, rfl⟩ | ⟨rfl, rfl⟩ | ⟨rfl, rfl⟩ | ⟨rfl, rfl⟩ | ⟨rfl, rfl⟩ | ⟨rfl, rfl⟩ | ⟨rfl, rfl⟩
  · injection hF with hF; subst hF; exact compF_ok lk1
  · injection hF with hF; subst hF; exact compF_ok lk19
  · injection hF with hF; subst hF; exact compF_ok lk21
  · injection hF with hF; subst hF; exact compF_ok lk46
  · injection hF with hF; subst hF; exact compF_ok lk48
  · injection hF with hF; subst hF; exact compF_ok lk64
  · injection hF with hF; subst hF; exact compF_ok lk75
  · injection hF with hF; subst hF; exact compF_ok lk100
  · injection hF with hF; subst hF; exact compF_ok lk101
  · injection hF with hF; subst hF; exact compF_ok lk114
  · injection hF with hF; subst hF; exact compF_ok lk115
  · injection hF with hF; subst hF; exact compF_ok lk116
  · injection hF with hF; subst hF; exact compF_ok lk120
  · injection hF with hF; subst hF; exact compF_ok lk174
  · injection hF with hF; subst hF; exact compF_ok lk175
  · injection hF with hF; subst hF; exact compF_ok lk176
  · injection hF with hF; subst hF; exact compF_ok lk177
  · injection hF with hF; subst hF; exact compF_ok lk178
  · injection hF with hF; subst hF; exact compF_ok lk179
  · injection hF with hF; subst hF; exact compF_ok lk181
  · injection hF with hF; subst hF; exact compF_ok lk182
  · injection hF with hF; subst hF; exact compF_ok lk192
  · injection hF with hF; subst hF; exact compF_ok lk193
  · injection hF with hF; subst hF; exact compF_ok lk194
  · injection hF with hF; subst hF; exact compF_ok lk195
  · injection hF with hF; subst hF; exact compF_ok lk196
  · injection hF with hF; subst hF; exact compF_ok lk197
  · injection hF with hF; subst hF; exact compF_ok lk198
  · injection hF with hF; subst hF; exact compF_ok lk204
  · injection hF with hF; subst hF; exact compF_ok lk364
  · injection hF with hF; subst hF; exact compF_ok lk369
  · injection hF with hF; subst hF; exact compF_ok lk370
  · injection hF with hF; subst hF; exact compF_ok lk371
  · injection hF with hF; subst hF; exact compF_ok lk372
  · injection hF with hF; subst hF; exact compF_ok lk373
  · injection hF with hF; subst hF; exact compF_ok lk387
  · injection hF with hF; subst hF; exact compF_ok lk388
  · injection hF with hF; subst hF; exact compF_ok lk391
  · injection hF with hF; subst hF; exact compF_ok lk392
  · injection hF with hF; subst hF; exact compF_ok lk393
  · injection hF with hF; subst hF; exact compF_ok lk394
  · injection hF with hF; subst hF; exact compF_ok lk396
  · injection hF with hF; subst hF; exact compF_ok lk397
  · injection hF with hF; subst hF; exact compF_ok lk398
  · injection hF with hF; subst hF; exact compF_ok lk401
  · injection hF with hF; subst hF; exact compF_ok lk402
  · injection hF with hF; subst hF; exact compF_ok lk403
  · injection hF with hF; subst hF; exact compF_ok lk404
theorem xok : XOK Go.Proofs.Tryd.prog mF where
  c61 := fun f h => by
    have h := mF_mem h
    simp only [mT, List.mem_cons, Prod.mk.injEq, List.not_mem_nil, or_false] at h
    omega
  c108 := fun f h => by
    have h := mF_mem h
    simp only [mT, List.mem_cons, Prod.mk.injEq, List.not_mem_nil, or_false] at h
    omega
  c320 := fun f h => by
    have h := mF_mem h
    simp only [mT, List.mem_cons, Prod.mk.injEq, List.not_mem_nil, or_false] at h
    omega
  c66 := fun f h => by
    have h := mF_mem h
    simp only [mT, List.mem_cons, Prod.mk.injEq, List.not_mem_nil, or_false] at h
    omega
  c400 := fun f h => by
    have h := mF_mem h
    simp only [mT, List.mem_cons, Prod.mk.injEq, List.not_mem_nil, or_false] at h
    omega
end Go.Proofs.YtdlmhclopdkhcaaDoorE
