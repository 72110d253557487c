/- The reference's tails. -/
import Derived.Test.YtdlmhclopdkhcaaDoorEvzQ1
namespace Go.Proofs.YtdlmhclopdkhcaaDoorE
open Go
set_option linter.unusedSimpArgs false
set_option linter.unusedVariables false
def lay256 : Nat → Nat → List Nat
 | 0, _ => []
 | d + 1, m => (m % 256) :: lay256 d (m / 256)
theorem lay256_8 (m : Nat) : lay256 8 m = le8 m := by simp [lay256, le8, Nat.div_div_eq_div_mul]
theorem L177_0_is (N n : Nat) (q : Int → Nat → List Int → Option (List Int)) : ∀ d k fuel, k + d = nz n → d < fuel → L177_0 N q fuel (n : Int) (k + 1) (nI (128 :: List.replicate k 0)) = q (n : Int) (nz n + 1) (nI (128 :: List.replicate (nz n) 0)) := by
 have hz := nz_lt n
 have e : ∀ k, k < 100 → irem (iadd .u64 (n : Int) (IntKind.wrap .u64 (((k + 1 : Nat) : Int)))) 64 = (((n + (k + 1)) % 64 : Nat) : Int) := fun k hk => by
  rw [w64 (by omega), add64, show (64 : Int) = ((64 : Nat) : Int) from rfl, irem_n]
  congr 1
  omega
 intro d
 induction d with
 | zero =>
  intro k fuel hd hf
  obtain ⟨m, rfl⟩ : ∃ m, fuel = m + 1 := ⟨fuel - 1, by omega⟩
  obtain rfl : k = nz n := by omega
  have h56 : (n + (nz n + 1)) % 64 = 56 := by have := nz_mod n; omega
  simp only [L177_0, e _ (show nz n < 100 by omega), h56, show ((((56 : Nat) : Int)) != 56) = false from rfl, cond_false]
 | succ d ih =>
  intro k fuel hd hf
  obtain ⟨m, rfl⟩ : ∃ m, fuel = m + 1 := ⟨fuel - 1, by omega⟩
  have h56 : (n + (k + 1)) % 64 ≠ 56 := by unfold nz at hd; omega
  have hl : (nI (128 :: List.replicate k 0)).length = k + 1 := by simp [nI_len]
  simp only [L177_0, e _ (show k < 100 by omega), show ((((n + (k + 1)) % 64 : Nat) : Int) != 56) = true from bne_iff_ne.2 (by omega), cond_true, hl, Nat.mul_one, beq_self_eq_true, show k + 1 + 1 ≤ 1099511627776 by omega, decide_true, Bool.and_self]
  have ea : nI (128 :: List.replicate k 0) ++ [(0 : Int)] = nI (128 :: List.replicate (k + 1) 0) := by
   rw [show ([(0 : Int)] : List Int) = nI [0] from rfl, nI_app, List.cons_append, List.replicate_succ']
  rw [ea]
  exact ih (k + 1) m (by omega) (by omega)
theorem L177_1_is (N : Nat) (q : Nat → List Int → Option (List Int)) : ∀ (d i fuel v7 m : Nat) (l : List Nat), i + d = 8 → d < fuel → m < 18446744073709551616 → l.length = v7 → v7 + d < 2000 → L177_1 N q fuel v7 (m : Int) (i : Int) (nI l) = q (v7 + d) (nI (l ++ lay256 d m)) := by
 intro d
 induction d with
 | zero =>
  intro i fuel v7 m l hd hf hm hl h7
  obtain ⟨f, rfl⟩ : ∃ f, fuel = f + 1 := ⟨fuel - 1, by omega⟩
  obtain rfl : i = 8 := by omega
  simp only [L177_1, show ¬ (((8 : Nat) : Int) < 8) by omega, decide_false, cond_false, lay256, List.append_nil, Nat.add_zero]
 | succ d ih =>
  intro i fuel v7 m l hd hf hm hl h7
  obtain ⟨f, rfl⟩ : ∃ f, fuel = f + 1 := ⟨fuel - 1, by omega⟩
  have h256 : (256 : Int) = ((256 : Nat) : Int) := rfl
  simp only [L177_1, show ((i : Nat) : Int) < 8 by omega, decide_true, cond_true, nI_len, hl, Nat.mul_one, beq_self_eq_true, show v7 + 1 ≤ 1099511627776 by omega, Bool.and_self]
  rw [up1 (by omega), h256, quou hm, irem_n, w8, Nat.mod_mod, show nI l ++ [((m % 256 : Nat) : Int)] = nI (l ++ [m % 256]) by rw [← nI_app]; rfl,
   ih (i + 1) f (v7 + 1) (m / 256) (l ++ [m % 256]) (by omega) (by omega) (by omega) (by simp [hl]) (by omega), lay256, List.append_assoc, List.singleton_append, show v7 + 1 + d = v7 + (d + 1) by omega]
def bits8 (n : Nat) : Nat := 8 * n % 18446744073709551616
theorem p177_is (n : Nat) {N : Nat} (hN : 100 < N) : p177 N (n : Int) = some (nI (tail (le8 (bits8 n)) n)) := by
 have hz := nz_lt n
 unfold p177
 rw [show ([(128 : Int)] : List Int) = nI (128 :: List.replicate 0 0) from rfl]
 refine (L177_0_is N n _ (nz n) 0 N (by omega) (by omega)).trans ?_
 have e8 : imul .u64 8 (n : Int) = ((bits8 n : Nat) : Int) := mul64 8 n
 rw [e8]
 refine (L177_1_is N _ 8 0 N (nz n + 1) (bits8 n) (128 :: List.replicate (nz n) 0) (by omega) (by omega) (Nat.mod_lt _ (by omega)) (by simp) (by omega)).trans ?_
 rw [lay256_8]
 have hl : (nI (128 :: List.replicate (nz n) 0 ++ le8 (bits8 n))).length = nz n + 1 + 8 := by simp [nI_len, le8_len]
 simp only [hl, Nat.mul_one, Nat.zero_add, Nat.le_refl, decide_true, cond_true, List.drop_zero]
 rw [List.take_of_length_le (by rw [hl]; exact Nat.le_refl _)]
 rfl
def h177 (n : Int) := p177 200 n
theorem E177 : EntOK FT XT 177 (en177 h177) := ok177 fun _ _ h => ⟨200, h⟩
theorem h177_is (n : Nat) : h177 (n : Int) = some (nI (tail (le8 (bits8 n)) n)) := p177_is n (by omega)
end Go.Proofs.YtdlmhclopdkhcaaDoorE
