/- Chapter 3: a byte made odd. -/
import Derived.Test.YtgjbkgajkcgdfaaEvC1
import Derived.Test.YtgjbkgajkcgdfaaEvJo
namespace Go.Proofs.YtgjbkgajkcgdfaaE
open Go
set_option linter.unusedVariables false
set_option linter.unusedSimpArgs false
variable {X : Nat → List V → Option (V × List Blk)}
/-- how many of the n lowest bits are 1 -/
def ones : Nat → Nat → Nat
  | 0, _ => 0
  | n + 1, b => b % 2 + ones n (b / 2)
def oddOf (b : Nat) : Nat := b / 2 * 2 + (ones 7 (b / 2) + 1) % 2
/-- at every byte -/
def isOdd (r : Option (V × List Blk)) (b : Nat) : Bool :=
  match r with
  | some (.int .u8 (.ofNat v), []) => v == oddOf b
  | _ => false
theorem isOdd_spec {r : Option (V × List Blk)} {b : Nat} (h : isOdd r b = true) : r = some (.int .u8 (oddOf b : Nat), []) := by
  unfold isOdd at h
  split at h
  · rename_i v
    have : v = oddOf b := by simpa using h
    subst this; rfl
  · cases h
theorem all25 : ((List.range 256).all fun b => isOdd (evF FT noX 40 25 [.int .u8 (b : Nat)] []) b) = true := by kernel_rfl
theorem all39 : ((List.range 256).all fun b => isOdd (evF FT noX 60 39 [.int .u8 (b : Nat)] []) b) = true := by kernel_rfl
theorem a25 (b : Nat) (h : b < 256) : Ans FT noX 25 [.int .u8 b] [] (.int .u8 (oddOf b : Nat)) [] := ⟨40, isOdd_spec (List.all_eq_true.1 all25 b (by simpa using h))⟩
theorem a39 (b : Nat) (h : b < 256) : Ans FT noX 39 [.int .u8 b] [] (.int .u8 (oddOf b : Nat)) [] := ⟨60, isOdd_spec (List.all_eq_true.1 all39 b (by simpa using h))⟩
def oddI (b : Int) : Int := (oddOf b.toNat : Nat)
theorem u8_range (x : Int) : 0 ≤ IntKind.u8.wrap x ∧ IntKind.u8.wrap x < 256 := by
  unfold IntKind.wrap
  simp [IntKind.signed, IntKind.bits]
  omega
theorem ans25 (b : Int) (h0 : 0 ≤ b) (h1 : b < 256) : Ans FT noX 25 [.int .u8 b] [] (.int .u8 (oddI b)) [] := by
  obtain ⟨n, rfl⟩ := Int.eq_ofNat_of_zero_le h0
  exact a25 n (by omega)
theorem ans39 (b : Int) (h0 : 0 ≤ b) (h1 : b < 256) : Ans FT noX 39 [.int .u8 b] [] (.int .u8 (oddI b)) [] := by
  obtain ⟨n, rfl⟩ := Int.eq_ofNat_of_zero_le h0
  exact a39 n (by omega)
/-- one fuel for all bytes -/
theorem all_odd : ∃ N, ∀ c, N ≤ c → ∀ b : Int, 0 ≤ b → b < 256 → evF FT noX c 25 [.int .u8 b] [] = some (.int .u8 (oddI b), []) := by
  refine ⟨40, fun c hc b h0 h1 => ?_⟩
  obtain ⟨n, rfl⟩ := Int.eq_ofNat_of_zero_le h0
  exact evF_mono hc _ _ _ _ (isOdd_spec (List.all_eq_true.1 all25 n (by simp; omega)))
end Go.Proofs.YtgjbkgajkcgdfaaE
