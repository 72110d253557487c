/- The reference's tails. -/
import Derived.Test.YtdlmhclopdkhcaaDoorEvzQ1
namespace Go.Proofs.YtdlmhclopdkhcaaDoorE
open Go
set_option linter.unusedSimpArgs false
set_option linter.unusedVariables false
def lay256 : Nat → Nat → List Nat
 | 0, _ => []
 | d + 1, m => (m % 256) :: lay256 d (m / 256)
theorem lay256_8 (m : Nat) : lay256 8 m = le8 m := by simp [lay256, le8, Nat.div_div_eq_div_mul]
theorem L177_0_is (N n : Nat) (q : Int → Nat → List Int → Option (List Int)) : ∀ d k fuel, k + d = nz n → d < fuel → L177_0 N q fuel (n : Int) (k + 1) (nI (128 :: List.replicate k 0)) = q (n : Int) (nz n + 1) (nI (128 :: List.replicate (nz n) 0)) := by
 have hz := nz_lt n
 have e : ∀ k, k < 100 → irem (iadd .u64 (n : Int) (IntKind.wrap .u64 (((k + 1 : Nat) : Int)))) 64 = (((n + (k + 1)) % 64 : Nat) : Int) := fun k hk => by
  rw [w64 (by omega), add64, show (64 : Int) = ((64 : Nat) : Int) from rfl, irem_n]
  congr 1
  omega
 intro d
 induction d with
 | zero =>
  intro k fuel hd hf
  obtain ⟨m, rfl⟩ : ∃ m, fuel = m + 1 := ⟨fuel - 1, by omega⟩
  obtain rfl : k = nz n := by omega
  have h56 : (n + (nz n + 1)) % 64 = 56 := by have := nz_mod n; omega
  simp only [L177_0, e _ (show nz n < 100 by omega), h56, show ((((56 : Nat) : Int)) != 56) = false from rfl, cond_false]
 | succ d ih =>
  intro k fuel hd hf
  obtain ⟨m, rfl⟩ : ∃ m, fuel = m + 1 := ⟨fuel - 1, by omega⟩
  have h56 : (n + (k + 1)) % 64 ≠ 56 := by unfold nz at hd; omega
  have hl : (nI (128 :: List.replicate k 0)).length = k + 1 := by simp [nI_len]
  simp only [L177_0, e _ (show k < 100 by omega), show ((((n + (k + 1)) % 64 : Nat) : Int) != 56) = true from bne_iff_ne.2 (by omega), cond_true, hl, Nat.mul_one, beq_self_eq_true, show k + 1 + 1 ≤ 1099511627776 by omega, decide_true, Bool.and_self]
  have ea : nI (128 :: List.replicate k 0) ++ [(0 : Int)] = nI (128 :: List.replicate (k + 1) 0) := by
   rw [show ([(0 : Int)] : List Int) = nI [0] from rfl, nI_app, List.cons_append, List.replicate_succ']
  rw [ea]
  exact ih (k + 1) m (by omega) (by omega)
theorem L177_1_is (N : Nat) (q : Nat → List Int → Option (List Int)) : ∀ (d i fuel v7 m : Nat) (l : List Nat), i + d = 8 → d < fuel → m < 18446744073709551616 → l.length = v7 → v7 + d < 2000 → L177_1 N q fuel v7 (m : Int) (i : Int) (nI l) = q (v7 + d) (nI (l ++ lay256 d m)) := by
 intro d
 induction d with
 | zero =>
  intro i fuel v7 m l hd hf hm hl h7
  obtain ⟨f, rfl⟩ : ∃ f, fuel = f + 1 := ⟨fuel - 1, by omega⟩
  obtain rfl : i = 8 := by omega
  simp only [L177_1, show ¬ (((8 : Nat) : Int) < 8) by omega, decide_false, cond_false, lay256, List.append_nil, Nat.add_zero]
 | succ d ih =>
  intro i fuel v7 m l hd hf hm hl h7
  obtain ⟨f, rfl⟩ : ∃ f, fuel = f + 1 := ⟨fuel - 1, by omega⟩
  have h256 : (256 : Int) = ((256 : Nat) : Int) := rfl
  simp only [L177_1, show ((i : Nat) : Int) < 8 by omega, decide_true, cond_true, nI_len, hl, Nat.mul_one, beq_self_eq_true, show v7 + 1 ≤ 1099511627776 by omega, Bool.and_self]
  rw [up1 (by omega), h256, quou hm, irem_n, w8, Nat.mod_mod, show nI l ++ [((m % 256 : Nat) : Int)] = nI (l ++ [m % 256]) by rw [← nI_app]; rfl,
   ih (i + 1) f (v7 + 1) (m / 256) (l ++ [m % 256]) (by omega) (by omega) (by omega) (by simp [hl]) (by omega), lay256, List.append_assoc, List.singleton_append, show v7 + 1 + d = v7 + (d + 1) by omega]
def bits8 (n : Nat) : Nat := 8 * n % 18446744073709551616
theorem p177_is (n : Nat) {N : Nat} (hN : 100 < N) : p177 N (n : Int) = some (nI (tail (le8 (bits8 n)) n)) := by
 have hz := nz_lt n
 unfold p177
 rw [show ([(128 : Int)] : List Int) = nI (128 :: List.replicate 0 0) from rfl]
 refine (L177_0_is N n _ (nz n) 0 N (by omega) (by omega)).trans ?_
 have e8 : imul .u64 8 (n : Int) = ((bits8 n : Nat) : Int) := mul64 8 n
 rw [e8]
 refine (L177_1_is N _ 8 0 N (nz n + 1) (bits8 n) (128 :: List.replicate (nz n) 0) (by omega) (by omega) (Nat.mod_lt _ (by omega)) (by simp) (by omega)).trans ?_
 rw [lay256_8]
 have hl : (nI (128 :: List.replicate (nz n) 0 ++ le8 (bits8 n))).length = nz n + 1 + 8 := by simp [nI_len, le8_len]
 simp only [hl, Nat.mul_one, Nat.zero_add, Nat.le_refl, decide_true, cond_true, List.drop_zero]
 rw [List.take_of_length_le (by rw [hl]; exact Nat.le_refl _)]
 rfl
def h177 (n : Int) := p177 200 n
theorem E177 : EntOK FT XT 177 (en177 h177) := ok177 fun _ _ h => ⟨200, h⟩
theorem h177_is (n : Nat) : h177 (n : Int) = some (nI (tail (le8 (bits8 n)) n)) := p177_is n (by omega)
theorem L186_is {c177 : Int → Option (List Int)} (N : Nat) (q : Nat → List Int → Option (List Int)) (r : List Nat) (k : Nat) (hk : k + 8 ≤ r.length) (hr : r.length < 1000) : ∀ i fuel v4 (l : List Nat), i < fuel → i ≤ 8 → l.length = v4 → v4 + i < 2000 → L186_0 c177 N q fuel (nI r) (k : Int) v4 ((i : Int) - 1) (nI l) = q (v4 + i) (nI (l ++ ((r.drop k).take i).reverse)) := by
 intro i
 induction i with
 | zero =>
  intro fuel v4 l hf hi hl h4
  obtain ⟨m, rfl⟩ : ∃ m, fuel = m + 1 := ⟨fuel - 1, by omega⟩
  simp [L186_0]
 | succ i ih =>
  intro fuel v4 l hf hi hl h4
  obtain ⟨m, rfl⟩ : ∃ m, fuel = m + 1 := ⟨fuel - 1, by omega⟩
  rw [show ((i + 1 : Nat) : Int) - 1 = (i : Int) by omega]
  have hki : k + i < r.length := by omega
  simp only [L186_0, show (i : Int) ≥ 0 by omega, decide_true, cond_true, addn (show k + i < 2 ^ 62 by omega), geti_nat, getn hki, nI_len, hl, Nat.mul_one, beq_self_eq_true, show v4 + 1 ≤ 1099511627776 by omega, Bool.and_self]
  rw [isub_i (a := (i : Int)) (b := 1) (by omega) (by omega), show nI l ++ [((gt r (k + i) : Nat) : Int)] = nI (l ++ [gt r (k + i)]) by rw [← nI_app]; rfl, ih m (v4 + 1) _ (by omega) (by omega) (by simp [hl]) (by omega)]
  congr 1
  ·omega
  ·congr 1
   rw [List.append_assoc]
   congr 1
   have : (r.drop k).take (i + 1) = (r.drop k).take i ++ [gt r (k + i)] := by
    rw [List.take_add_one, List.getElem?_drop, gt, List.getD_eq_getElem?_getD, List.getElem?_eq_getElem hki]; rfl
   rw [this, List.reverse_append]
   rfl
theorem tail_part {e : List Nat} (n : Nat) (he : e.length = 8) : (tail e n).drop ((tail e n).length - 8) = e ∧ (tail e n).take ((tail e n).length - 8) = 128 :: List.replicate (nz n) 0 := by
 have hl := tail_len n he
 have h : tail e n = (128 :: List.replicate (nz n) 0) ++ e := rfl
 have h2 : (128 :: List.replicate (nz n) 0).length = (tail e n).length - 8 := by rw [hl]; simp
 constructor
 ·rw [← h2, h, List.drop_left]
 ·rw [← h2, h, List.take_left]
theorem p186_is {c177 : Int → Option (List Int)} {n : Nat} {e : List Nat} (F : c177 (n : Int) = some (nI (tail e n))) (he : e.length = 8) {N : Nat} (hN : 100 < N) : p186 c177 N (n : Int) = some (nI (tail e.reverse n)) := by
 have hl := tail_len n he
 have hz := nz_lt n
 obtain ⟨h1, h2⟩ := tail_part n he
 unfold p186
 rw [F]
 have e1 : isub .i64 (((tail e n).length : Nat) : Int) 8 = (((tail e n).length - 8 : Nat) : Int) := subn (b := 8) (by omega) (by omega)
 have e2 : (List.take ((tail e n).length - 8) (nI (tail e n))).length = (tail e n).length - 8 := by rw [List.length_take, nI_len]; omega
 simp only [nI_len, e1, show (0 : Int) ≤ (((tail e n).length - 8 : Nat) : Int) by omega, show (((tail e n).length - 8 : Nat) : Int) ≤ (((tail e n).length : Nat) : Int) by omega, decide_true, Bool.and_self, cond_true, Int.toNat_natCast, e2, Nat.mul_one, show (tail e n).length - 8 ≤ 1099511627776 by omega]
 rw [nI_take, h2]
 refine (L186_is N _ (tail e n) ((tail e n).length - 8) (by omega) (by omega) 8 N ((tail e n).length - 8) (128 :: List.replicate (nz n) 0) (by omega) (by omega) (by simp; omega) (by omega)).trans ?_
 rw [h1, List.take_of_length_le (by omega)]
 have hl2 : (nI (128 :: List.replicate (nz n) 0 ++ e.reverse)).length = (tail e n).length - 8 + 8 := by simp [nI_len, he]; omega
 simp only [Nat.mul_one, Nat.zero_add, hl2, Nat.le_refl, decide_true, cond_true, List.drop_zero]
 rw [List.take_of_length_le (by rw [hl2]; exact Nat.le_refl _)]
 rfl
def h186 (n : Int) := p186 h177 200 n
theorem E186 : EntOK FT XT 186 (en186 h186) := ok186 h177 E177 fun _ _ h => ⟨200, h⟩
theorem h186_is (n : Nat) : h186 (n : Int) = some (nI (tail (le8 (bits8 n)).reverse n)) := p186_is (h177_is n) rfl (by omega)
end Go.Proofs.YtdlmhclopdkhcaaDoorE
