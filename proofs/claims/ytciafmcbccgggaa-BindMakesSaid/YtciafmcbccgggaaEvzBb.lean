/- Bytes compared; numbers by division. -/
import Derived.Test.YtciafmcbccgggaaEvzBb0
namespace Go.Proofs.YtciafmcbccgggaaE
open Go
set_option linter.unusedSimpArgs false
set_option linter.unusedVariables false
def h164 (a b : List Int) := p164 h160 0 a b
theorem E164 : EntOK FT XT 164 (en164 h164) := ok164 h160 E160 fun _ _ _ h => ⟨0, h⟩
theorem h164_is {a b : List Nat} (ha : bel 256 a) (hb : bel 256 b) : h164 (nI a) (nI b) = some (decide (b.length ≤ a.length) && (a.take b.length == b)) := by
 unfold h164 p164
 simp only [nI_len, Bool.cond_eq_ite, decide_eq_true_eq, Bool.and_eq_true, Int.toNat_natCast, nI_take]
 rw [h160_is (bel_take ha) hb]
 by_cases h : b.length ≤ a.length
 ·rw [if_pos (by omega), if_pos (by omega), decide_eq_true h]; rfl
 ·rw [if_neg (by omega), decide_eq_false h]; rfl
def h50 (x w : Int) := p50 20 x w
theorem E50 : EntOK FT XT 50 (en50 h50) := ok50 fun _ _ _ h => ⟨20, h⟩
def bq (x : Int) : Nat → Int
 | 0 => x
 | n + 1 => iquo .u64 (bq x n) 256
theorem bq_is {x : Nat} (hx : x < 2 ^ 64) : ∀ n : Nat, bq (x : Int) n = ((x / 256 ^ n : Nat) : Int)
 | 0 => by rw [bq, Nat.pow_zero, Nat.div_one]
 | n + 1 => by
  rw [bq, bq_is hx n, show (256 : Int) = ((256 : Nat) : Int) from rfl, quou (Nat.lt_of_le_of_lt (Nat.div_le_self _ _) hx), Nat.div_div_eq_div_mul, Nat.pow_succ]
theorem big_w {x : Nat} (hx : x < 2 ^ 64) (n : Nat) : IntKind.wrap .u8 (irem (bq (x : Int) n) 256) = ((x / 256 ^ n % 256 : Nat) : Int) := by
 rw [bq_is hx n, show (256 : Int) = ((256 : Nat) : Int) from rfl, irem_n, w8, Nat.mod_mod]
theorem h50_at2 (x : Int) : h50 x 2 = some [IntKind.wrap .u8 (irem (bq x 1) 256), IntKind.wrap .u8 (irem (bq x 0) 256)] := by kernel_rfl
theorem h50_2 {x : Nat} (hx : x < 2 ^ 64) : h50 (x : Int) 2 = some (nI (be2 x)) := by
 rw [h50_at2, big_w hx, big_w hx]
 show some (nI [x / 256 ^ 1 % 256, x / 256 ^ 0 % 256]) = _
 rw [Nat.pow_one, Nat.pow_zero, Nat.div_one]
 rfl
end Go.Proofs.YtciafmcbccgggaaE
