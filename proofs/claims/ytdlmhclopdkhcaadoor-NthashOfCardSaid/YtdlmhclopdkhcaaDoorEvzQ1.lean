/- Contracts of what digests share: words turned, tails. -/
import Derived.Test.YtdlmhclopdkhcaaDoorEvzBa0
namespace Go.Proofs.YtdlmhclopdkhcaaDoorE
open Go
set_option linter.unusedSimpArgs false
set_option linter.unusedVariables false
def h195 (x n : Int) := p195 0 x n
theorem E195 : EntOK FT XT 195 (en195 h195) := ok195 fun _ _ _ h => ⟨0, h⟩
theorem and31 {n : Nat} (h : n < 18446744073709551616) : iand .u64 (n : Int) 31 = ((n % 32 : Nat) : Int) := by
 rw [show (31 : Int) = ((31 : Nat) : Int) from rfl, iand_u .u64 rfl n 31 h (by decide), show (31 : Nat) = 2 ^ 5 - 1 from rfl, Nat.and_two_pow_sub_one_eq_mod]
theorem rotl_of {x n : Nat} (hx : x < 4294967296) (hn : n ≤ 32) : ior .u32 (ishl .u32 (x : Int) (n : Int)) (ishr .u32 (x : Int) ((32 - n : Nat) : Int)) = ((rotl x n : Nat) : Int) := by
 rw [shl32 hn, shr32n (by omega), or32 (mod32 _) (div_lt32 hx)]
 rfl
theorem rot_is {x n : Nat} (hx : x < 4294967296) (hn : n < 32) : h195 (x : Int) (n : Int) = some ((rotl x n : Nat) : Int) := by
 unfold h195 p195
 rw [w64 (by omega), and31 (by omega), Nat.mod_eq_of_lt hn]
 have e : isub .u64 32 (n : Int) = ((32 - n : Nat) : Int) := by
  unfold isub
  rw [wrap_u .u64 rfl (by omega) (by
   have : (32 : Int) - n < 18446744073709551616 := by omega
   exact this)]
  omega
 rw [e]
 simp only [show ¬ ((n : Int) < 0) by omega, decide_false, cond_false, show ¬ (((32 - n : Nat) : Int) < 0) by omega]
 rw [rotl_of hx (by omega)]
/-- how many noughts -/
def nz (n : Nat) : Nat := (119 - n % 64) % 64
def tail (e : List Nat) (n : Nat) : List Nat := 128 :: (List.replicate (nz n) 0 ++ e)
theorem tail_len {e : List Nat} (n : Nat) (h : e.length = 8) : (tail e n).length = nz n + 9 := by
 unfold tail
 rw [List.length_cons, List.length_append, List.length_replicate, h]
theorem le8_len (n : Nat) : (le8 n).length = 8 := rfl
theorem nz_lt (n : Nat) : nz n < 64 := Nat.mod_lt _ (by omega)
theorem nz_mod (n : Nat) : (n + (nz n + 9)) % 64 = 0 := by unfold nz; omega
theorem zc_is (n : Nat) : irem (isub .u64 64 (irem (iadd .u64 (iadd .u64 (n : Int) 1) 8) 64)) 64 = ((nz n : Nat) : Int) := by
 rw [show (1 : Int) = ((1 : Nat) : Int) from rfl, show (8 : Int) = ((8 : Nat) : Int) from rfl, show (64 : Int) = ((64 : Nat) : Int) from rfl, add64, add64, irem_n]
 have e : isub .u64 ((64 : Nat) : Int) (((((n + 1) % 18446744073709551616 + 8) % 18446744073709551616 % 64 : Nat)) : Int) = ((64 - (n + 9) % 64 : Nat) : Int) := by
  unfold isub
  rw [wrap_u .u64 rfl (by omega) (by
   have : ((64 : Nat) : Int) - (((((n + 1) % 18446744073709551616 + 8) % 18446744073709551616 % 64 : Nat)) : Int) < 18446744073709551616 := by omega
   exact this)]
  omega
 rw [e, irem_n]
 congr 1
 unfold nz
 omega
end Go.Proofs.YtdlmhclopdkhcaaDoorE
