/- Chapter 3's contracts, of the functions that chapter 8 has. -/
import Derived.Test.YtpiadkdalilmnaaEvHE
import Derived.Test.YtpiadkdalilmnaaEvMa
namespace Go.Proofs.YtpiadkdalilmnaaE
open Go
set_option linter.unusedSimpArgs false
set_option linter.unusedVariables false
/- Chapter 3: the program's words. -/
/-- is it a number of 64 bits? -/
def isW (x : Int) : Prop := 0 ≤ x ∧ x < 2 ^ 64
instance (x : Int) : Decidable (isW x) := inferInstanceAs (Decidable (_ ∧ _))
def wideB (w : Int) : Bool := decide (1 ≤ w) && decide (w ≤ 64)
theorem wideB_iff {w : Int} : wideB w = true ↔ 1 ≤ w ∧ w ≤ 64 := by simp [wideB]
theorem nat_of {x : Int} (h : 0 ≤ x) : ∃ n : Nat, x = n := ⟨x.toNat, by omega⟩
def f53 (w : Int) : Option Bool := some (wideB w)
theorem E53 : EntOK FT XT 53 (en53 f53) := ok53 (fun a0 r h => ⟨0, by
  simp only [f53, Option.some.injEq] at h
  subst h
  unfold p53 wideB
  by_cases h1 : a0 ≥ 1
  · simp [h1]
  · simp [h1]⟩)
def f58 (w : Int) : Option Int := if 1 ≤ w ∧ w ≤ 64 then some ((2 ^ w.toNat - 1 : Nat) : Int) else none
theorem all58 : ((List.range 65).all fun n => n == 0 || p58 0 (n : Nat) == some ((2 ^ n - 1 : Nat) : Int)) = true := by decide +kernel
theorem E58 : EntOK FT XT 58 (en58 f58) := ok58 (fun a0 r h => ⟨0, by
  simp only [f58] at h
  split at h <;> try (cases h; done)
  rename_i hw
  injection h with h; subst h
  obtain ⟨n, rfl⟩ := nat_of (show 0 ≤ a0 by omega)
  have h1 := List.all_eq_true.1 all58 n (by simp; omega)
  simp only [Bool.or_eq_true, beq_iff_eq] at h1
  rcases h1 with h1 | h1
  · omega
  · simpa using h1⟩)
theorem irem_i (a b : Int) : irem a b = a.tmod b := rfl
/-- a word turned -/
def turnN (x w k : Nat) : Nat := ((x % 2 ^ w) * 2 ^ k % 2 ^ 64 ||| (x % 2 ^ w) / 2 ^ (w - k)) % 2 ^ w
def f29 (x w n : Int) : Option (Int × Int) :=
  if isW x then (if wideB w then some ((turnN x.toNat w.toNat (n % w).toNat : Nat), 0) else some (0, 1)) else none
theorem mask_and (x w : Nat) (hx : x < 2 ^ 64) (h1 : 1 ≤ w) (h : w ≤ 64) : iand .u64 (x : Int) ((2 ^ w - 1 : Nat) : Int) = ((x % 2 ^ w : Nat) : Int) := by
  have : 2 ^ w ≤ 2 ^ 64 := Nat.pow_le_pow_right (by omega) h
  have h2 : 0 < 2 ^ w := Nat.two_pow_pos w
  rw [iand_u .u64 rfl _ _ hx (by show _ < 2 ^ 64; omega), Nat.and_two_pow_sub_one_eq_mod]
theorem E29 : EntOK FT XT 29 (en29 f29) := ok29 f53 f58 E53 E58 (fun a0 a1 a2 r h => ⟨0, by
  simp only [f29] at h
  split at h <;> try (cases h; done)
  rename_i hx
  unfold p29
  split at h
  · rename_i hw
    injection h with h; subst h
    obtain ⟨x, rfl⟩ := nat_of hx.1
    have hx2 : x < 2 ^ 64 := by have := hx.2; exact_mod_cast this
    have hw' := wideB_iff.1 hw
    obtain ⟨w, rfl⟩ := nat_of (show 0 ≤ a1 by omega)
    have hw1 : 1 ≤ w := by omega
    have hw2 : w ≤ 64 := by omega
    have hne : ¬ ((w : Int) = 0) := by omega
    have fin : ∀ k : Nat, k < w → iand .u64 (ior .u64 (ishl .u64 (iand .u64 (x : Int) ((2 ^ w - 1 : Nat) : Int)) (k : Int)) (ishr .u64 (iand .u64 (x : Int) ((2 ^ w - 1 : Nat) : Int)) (isub .i64 (w : Int) (k : Int)))) ((2 ^ w - 1 : Nat) : Int) = ((turnN x w k : Nat) : Int) := by
      intro k hk
      have hsub : isub .i64 (w : Int) (k : Int) = ((w - k : Nat) : Int) := by rw [isub_i (by omega) (by omega)]; omega
      have hm : x % 2 ^ w < 2 ^ 64 := by
        have : 2 ^ w ≤ 2 ^ 64 := Nat.pow_le_pow_right (by omega) hw2
        have := Nat.mod_lt x (Nat.two_pow_pos w); omega
      rw [hsub, mask_and x w hx2 hw1 hw2, ishl_u .u64 rfl _ _ (by show _ ≤ 64; omega), ishr_u .u64 _ _ (by show _ ≤ 64; omega)]
      have h3 : x % 2 ^ w * 2 ^ k % 2 ^ 64 < 2 ^ 64 := Nat.mod_lt _ (by omega)
      have h4 : x % 2 ^ w / 2 ^ (w - k) < 2 ^ 64 := Nat.lt_of_le_of_lt (Nat.div_le_self _ _) hm
      rw [show (2 : Nat) ^ IntKind.u64.bits = 2 ^ 64 from rfl, ior_u .u64 rfl _ _ h3 h4]
      have h5 := Nat.or_lt_two_pow h3 h4
      rw [mask_and _ w h5 hw1 hw2]; rfl
    have hmask : f58 (w : Int) = some ((2 ^ w - 1 : Nat) : Int) := by simp only [f58, if_pos hw', Int.toNat_natCast]
    have hnn : ∀ k : Nat, k < w → ¬ (isub .i64 (w : Int) (k : Int) < 0) := fun k hk => by rw [isub_i (by omega) (by omega)]; omega
    have htm := Int.tmod_eq_emod (a := a2) (b := w)
    have hem0 := Int.emod_nonneg a2 hne
    have hem1 := Int.emod_lt_of_pos a2 (show (0 : Int) < w by omega)
    obtain ⟨k, hk⟩ := nat_of hem0
    have hkw : k < w := by omega
    simp only [f53, hw, Bool.not_true, cond_false, hmask, beq_iff_eq, hne, beq_eq_false_iff_ne.2 hne, irem_i]
    rw [hk] at htm ⊢
    simp only [Int.toNat_natCast]
    by_cases hneg : a2.tmod w < 0
    · have e : a2.tmod w = k - w := by
        rw [htm] at hneg ⊢
        split at hneg
        · omega
        · rename_i hh; rw [if_neg hh]; simp
      have ea : iadd .i64 (a2.tmod w) (w : Int) = k := by rw [iadd_i (by omega) (by omega)]; omega
      simp only [hneg, decide_true, cond_true, ea, show ¬ ((k : Int) < 0) by omega, decide_false, cond_false, hnn k hkw, fin k hkw]
    · have e : a2.tmod w = k := by
        rw [htm] at hneg ⊢
        split at hneg
        · rename_i hh; rw [if_pos hh]; simp
        · rename_i hh; simp at hneg; omega
      simp only [e, show ¬ ((k : Int) < 0) by omega, decide_false, cond_false, hnn k hkw, fin k hkw]
  · rename_i hw
    injection h with h; subst h
    simp only [f53, hw, Bool.not_false, cond_true]⟩)
def f31 (x w at_ : Int) : Option (Int × Int × Int) :=
  if isW x then
    (if wideB w ∧ 0 ≤ at_ ∧ at_ ≤ w then some ((x.toNat % 2 ^ w.toNat / 2 ^ (w - at_).toNat : Nat), (x.toNat % 2 ^ w.toNat % 2 ^ (w - at_).toNat : Nat), 0) else some (0, 0, 1))
  else none
theorem and_not_shift (y m : Nat) (hy : y < 2 ^ 64) (hm : m ≤ 64) : iandn .u64 (y : Int) ((y / 2 ^ m * 2 ^ m % 2 ^ 64 : Nat) : Int) = ((y % 2 ^ m : Nat) : Int) := by
  have h1 : y / 2 ^ m * 2 ^ m ≤ y := Nat.div_mul_le_self y (2 ^ m)
  rw [Nat.mod_eq_of_lt (by omega)]
  unfold iandn
  rw [BitVec.toNat_and, BitVec.toNat_not, ofInt_nat IntKind.u64.bits y hy, ofInt_nat IntKind.u64.bits _ (show y / 2 ^ m * 2 ^ m < 2 ^ IntKind.u64.bits from by show _ < 2 ^ 64; omega)]
  have h2 : y &&& (2 ^ IntKind.u64.bits - 1 - y / 2 ^ m * 2 ^ m) = y % 2 ^ m := by
    apply Nat.eq_of_testBit_eq
    intro i
    rw [Nat.testBit_and, Nat.testBit_mod_two_pow, show IntKind.u64.bits = 64 from rfl]
    have h3 : 2 ^ 64 - 1 - y / 2 ^ m * 2 ^ m = 2 ^ 64 - (y / 2 ^ m * 2 ^ m + 1) := by omega
    rw [h3, Nat.testBit_two_pow_sub_succ (by omega), Nat.testBit_mul_two_pow, Nat.testBit_div_two_pow]
    by_cases hi : i < 64
    · by_cases him : i < m
      · simp [hi, him, show ¬ m ≤ i by omega]
      · simp [hi, him, show m ≤ i by omega, show i - m + m = i by omega]
    · rw [Nat.testBit_lt_two_pow (Nat.lt_of_lt_of_le hy (Nat.pow_le_pow_right (by omega) (show 64 ≤ i by omega)))]
      simp
  rw [h2]
  exact wrap_u .u64 rfl (by omega) (by
    have := Nat.mod_le y (2 ^ m)
    show _ < 2 ^ 64
    have h4 : y % 2 ^ m < 2 ^ 64 := by omega
    exact_mod_cast h4)
theorem E31 : EntOK FT XT 31 (en31 f31) := ok31 f53 f58 E53 E58 (fun a0 a1 a2 r h => ⟨0, by
  simp only [f31] at h
  split at h <;> try (cases h; done)
  rename_i hx
  unfold p31
  by_cases hw : wideB a1 = true
  · have hw' := wideB_iff.1 hw
    by_cases h0 : a2 < 0
    · rw [if_neg (by omega)] at h
      injection h with h; subst h
      simp [f53, hw, h0]
    · by_cases h1 : a2 > a1
      · rw [if_neg (by omega)] at h
        injection h with h; subst h
        simp [f53, hw, h0, h1]
      · rw [if_pos ⟨hw, by omega, by omega⟩] at h
        injection h with h; subst h
        obtain ⟨x, rfl⟩ := nat_of hx.1
        have hx2 : x < 2 ^ 64 := by have := hx.2; exact_mod_cast this
        obtain ⟨w, rfl⟩ := nat_of (show 0 ≤ a1 by omega)
        obtain ⟨k, rfl⟩ := nat_of (show 0 ≤ a2 by omega)
        have hw1 : 1 ≤ w := by omega
        have hw2 : w ≤ 64 := by omega
        have hmask : f58 (w : Int) = some ((2 ^ w - 1 : Nat) : Int) := by simp only [f58, if_pos hw', Int.toNat_natCast]
        have hsub : isub .i64 (w : Int) (k : Int) = ((w - k : Nat) : Int) := by rw [isub_i (by omega) (by omega)]; omega
        have hs2 : ((w : Int) - (k : Int)).toNat = w - k := by omega
        have hm : x % 2 ^ w < 2 ^ 64 := by
          have : 2 ^ w ≤ 2 ^ 64 := Nat.pow_le_pow_right (by omega) hw2
          have := Nat.mod_lt x (Nat.two_pow_pos w); omega
        have e1 := ishr_u .u64 (x % 2 ^ w) (w - k) (by show _ ≤ 64; omega)
        have e2 := ishl_u .u64 rfl (x % 2 ^ w / 2 ^ (w - k)) (w - k) (by show _ ≤ 64; omega)
        have e3 := and_not_shift (x % 2 ^ w) (w - k) hm (by omega)
        rw [show (2 : Nat) ^ IntKind.u64.bits = 2 ^ 64 from rfl] at e2
        simp only [f53, hw, Bool.not_true, cond_false, hmask, h0, h1, decide_false, hsub, show ¬ (((w - k : Nat) : Int) < 0) by omega, mask_and x w hx2 hw1 hw2, e1, e2, e3, Int.toNat_natCast, hs2]
  · rw [if_neg (fun hh => hw hh.1)] at h
    injection h with h; subst h
    simp [f53, hw]⟩)
def f35 (x w : Int) : Option Int := if isW x ∧ 0 ≤ w then some ((x.toNat % 2 ^ w.toNat : Nat) : Int) else none
/- The law BitpTurns. -/
def f26 : Option Bool := some true
theorem mod_small {a w : Nat} (h : a < 2 * w) : a % w = if a < w then a else a - w := by
  split
  · rename_i h1; exact Nat.mod_eq_of_lt h1
  · rw [Nat.mod_eq_sub_mod (by omega)]; exact Nat.mod_eq_of_lt (by omega)
theorem turn_bit (x w k i : Nat) (hw : w ≤ 64) (hk : k < w) : (turnN x w k).testBit i = (decide (i < w) && x.testBit ((i + w - k) % w)) := by
  unfold turnN
  rw [Nat.testBit_mod_two_pow, Nat.testBit_or, Nat.testBit_mod_two_pow, Nat.testBit_mul_two_pow, Nat.testBit_div_two_pow, Nat.testBit_mod_two_pow, Nat.testBit_mod_two_pow]
  by_cases hi : i < w
  · rw [mod_small (by omega)]
    by_cases hki : k ≤ i
    · simp [hi, hki, show i < 64 by omega, show i - k < w by omega, show ¬ (i + (w - k) < w) by omega, show ¬ (i + w - k < w) by omega, show i + w - k - w = i - k by omega]
    · simp [hi, hki, show i + (w - k) < w by omega, show i + w - k < w by omega, show i + (w - k) = i + w - k by omega]
  · simp [hi]
theorem turn_turn (x w k j : Nat) (hw : w ≤ 64) (hk : k < w) (hj : j < w) : turnN (turnN x w k) w j = turnN x w ((k + j) % w) := by
  have hm : (k + j) % w < w := Nat.mod_lt _ (by omega)
  apply Nat.eq_of_testBit_eq
  intro i
  rw [turn_bit _ w j i hw hj, turn_bit _ w k _ hw hk, turn_bit x w _ i hw hm]
  by_cases hi : i < w
  · have h1 : (i + w - j) % w < w := Nat.mod_lt _ (by omega)
    simp only [hi, decide_true, Bool.true_and, h1]
    congr 1
    rw [mod_small (show i + w - j < 2 * w by omega), mod_small (show k + j < 2 * w by omega)]
    split <;> split <;> (rw [mod_small (by omega), mod_small (by omega)]; split <;> split <;> omega)
  · simp [hi]
theorem turn_lt (x w k : Nat) (hw : w ≤ 64) : turnN x w k < 2 ^ 64 := by
  have h1 : turnN x w k < 2 ^ w := Nat.mod_lt _ (Nat.two_pow_pos w)
  exact Nat.lt_of_lt_of_le h1 (Nat.pow_le_pow_right (by omega) hw)
theorem and63 (x : Int) (h0 : -2 ^ 63 ≤ x) (h : x < 2 ^ 63) : iand .i64 x 63 = x % 64 := by
  unfold iand
  rw [BitVec.toNat_and, show (BitVec.ofInt IntKind.i64.bits 63).toNat = 2 ^ 6 - 1 from rfl, Nat.and_two_pow_sub_one_eq_mod, BitVec.toNat_ofInt, show ((2 ^ IntKind.i64.bits : Nat) : Int) = 2 ^ 64 from rfl]
  rw [wrap_i64 (by omega) (by omega)]
  omega
theorem both (y m : Nat) : y / 2 ^ m * 2 ^ m ||| y % 2 ^ m = y := by
  rw [Nat.mul_comm, ← Nat.two_pow_add_eq_or_of_lt (Nat.mod_lt _ (Nat.two_pow_pos m))]
  exact Nat.div_add_mod y (2 ^ m)
def f13 (x w : Int) (l : List Int) : Option Bool :=
  if isW x ∧ (-2 ^ 63 ≤ w ∧ w < 2 ^ 63) ∧ l.length = 2 ∧ (∀ b ∈ l, -2 ^ 15 ≤ b ∧ b < 2 ^ 15) then some true else none
/-! the law's text, whatever its callees are -/
section
variable (c29 : Int → Int → Int → Option (Int × Int)) (c26 : Option Bool) (c31 : Int → Int → Int → Option (Int × Int × Int)) (c35 : Int → Int → Option Int)
end
/- Chapter 3: words as rows of bits. -/
/-! ### rows of bits -/
def wordR : List Nat → Nat
  | [] => 0
  | b :: r => b + 2 * wordR r
def wordN (l : List Nat) : Nat := l.foldl (fun a b => 2 * a + b) 0
theorem wordN_snoc (l : List Nat) (b : Nat) : wordN (l ++ [b]) = 2 * wordN l + b := by simp [wordN]
theorem wordN_rev : ∀ l : List Nat, wordN l.reverse = wordR l
  | [] => rfl
  | b :: l => by rw [List.reverse_cons, wordN_snoc, wordN_rev l]; simp [wordR]; omega
theorem wordR_bit : ∀ (l : List Nat) (i : Nat), (∀ b ∈ l, b < 2) → (wordR l).testBit i = decide (l[i]? = some 1)
  | [], i, _ => by simp [wordR]
  | b :: l, 0, h => by
    have hb := h b (by simp)
    simp only [wordR, Nat.testBit_zero, List.getElem?_cons_zero, Option.some.injEq]
    have : (b + 2 * wordR l) % 2 = b := by omega
    rw [this]
  | b :: l, i + 1, h => by
    have hb := h b (by simp)
    rw [Nat.testBit_succ]
    have : (wordR (b :: l)) / 2 = wordR l := by simp only [wordR]; omega
    rw [this, wordR_bit l i (fun c hc => h c (by simp [hc]))]; simp
theorem wordN_bit (l : List Nat) (i : Nat) (h : ∀ b ∈ l, b < 2) : (wordN l).testBit i = decide (l.reverse[i]? = some 1) := by
  have := wordR_bit l.reverse i (fun b hb => h b (by simpa using hb))
  rw [← wordN_rev, List.reverse_reverse] at this
  exact this
theorem wordN_lt (l : List Nat) (h : ∀ b ∈ l, b < 2) : wordN l < 2 ^ l.length := by
  apply Nat.lt_pow_two_of_testBit
  intro i hi
  rw [wordN_bit l i h, List.getElem?_eq_none (by simpa using hi)]; rfl
def rowN (x w : Nat) : List Nat := (List.range w).map fun j => x / 2 ^ (w - 1 - j) % 2
theorem rowN_len (x w : Nat) : (rowN x w).length = w := by simp [rowN]
theorem rowN_lt (x w : Nat) : ∀ b ∈ rowN x w, b < 2 := by
  intro b hb
  simp only [rowN, List.mem_map] at hb
  obtain ⟨j, _, rfl⟩ := hb
  exact Nat.mod_lt _ (by omega)
theorem bit_one (x i : Nat) : decide (x / 2 ^ i % 2 = 1) = x.testBit i := by
  rw [Nat.testBit_eq_decide_div_mod_eq]
theorem rowN_get (x w j : Nat) (h : j < w) : (rowN x w)[j]? = some (x / 2 ^ (w - 1 - j) % 2) := by
  simp [rowN, h]
/-- a part of a row -/
theorem word_row (x w k i : Nat) (hk : k ≤ w) : (wordN ((rowN x w).drop k ++ (rowN x w).take k)).testBit i = (decide (i < w) && x.testBit ((i + w - k) % w)) := by
  rw [wordN_bit _ _ (fun b hb => rowN_lt x w b (by
    rcases List.mem_append.1 hb with h | h
    · exact List.mem_of_mem_drop h
    · exact List.mem_of_mem_take h))]
  by_cases hi : i < w
  · rw [List.getElem?_reverse (by simp [rowN_len]; omega)]
    have hl : ((rowN x w).drop k ++ (rowN x w).take k).length = w := by simp [rowN_len]; omega
    rw [hl]
    by_cases hik : i < k
    · rw [List.getElem?_append_right (by simp [rowN_len]; omega)]
      have e : w - 1 - i - ((rowN x w).drop k).length = k - 1 - i := by simp [rowN_len]; omega
      rw [e, List.getElem?_take_of_lt (by omega), rowN_get _ _ _ (by omega)]
      have e2 : w - 1 - (k - 1 - i) = i + w - k := by omega
      simp only [e2, Option.some.injEq, hi, decide_true, Bool.true_and, bit_one]
      rw [Nat.mod_eq_of_lt (by omega)]
    · rw [List.getElem?_append_left (by simp [rowN_len]; omega), List.getElem?_drop, rowN_get _ _ _ (by omega)]
      have e2 : w - 1 - (k + (w - 1 - i)) = i - k := by omega
      simp only [e2, Option.some.injEq, hi, decide_true, Bool.true_and, bit_one]
      rw [show i + w - k = (i - k) + w by omega, Nat.add_mod_right, Nat.mod_eq_of_lt (by omega)]
  · rw [List.getElem?_eq_none (by simp [rowN_len]; omega)]; simp [hi]
theorem word_turn (x w k : Nat) (hw : w ≤ 64) (hk : k < w) : wordN ((rowN x w).drop k ++ (rowN x w).take k) = turnN x w k := by
  apply Nat.eq_of_testBit_eq
  intro i
  rw [word_row x w k i (by omega), turn_bit x w k i hw hk]
theorem word_take (x w k : Nat) (hk : k ≤ w) : wordN ((rowN x w).take k) = x % 2 ^ w / 2 ^ (w - k) := by
  apply Nat.eq_of_testBit_eq
  intro i
  rw [wordN_bit _ _ (fun b hb => rowN_lt x w b (List.mem_of_mem_take hb)), Nat.testBit_div_two_pow, Nat.testBit_mod_two_pow]
  by_cases hi : i < k
  · rw [List.getElem?_reverse (by simp [rowN_len]; omega)]
    have hl : ((rowN x w).take k).length = k := by simp [rowN_len]; omega
    rw [hl, List.getElem?_take_of_lt (by omega), rowN_get _ _ _ (by omega)]
    have e2 : w - 1 - (k - 1 - i) = i + (w - k) := by omega
    simp only [e2, Option.some.injEq, bit_one, show i + (w - k) < w by omega, decide_true, Bool.true_and]
  · rw [List.getElem?_eq_none (by simp [rowN_len]; omega)]
    simp [show ¬ i + (w - k) < w by omega]
theorem word_drop (x w k : Nat) (hk : k ≤ w) : wordN ((rowN x w).drop k) = x % 2 ^ w % 2 ^ (w - k) := by
  apply Nat.eq_of_testBit_eq
  intro i
  rw [wordN_bit _ _ (fun b hb => rowN_lt x w b (List.mem_of_mem_drop hb)), Nat.testBit_mod_two_pow, Nat.testBit_mod_two_pow]
  by_cases hi : i < w - k
  · rw [List.getElem?_reverse (by simp [rowN_len]; omega)]
    have hl : ((rowN x w).drop k).length = w - k := by simp [rowN_len]
    rw [hl, List.getElem?_drop, rowN_get _ _ _ (by omega)]
    have e2 : w - 1 - (k + (w - k - 1 - i)) = i := by omega
    simp only [e2, Option.some.injEq, bit_one, hi, show i < w by omega, decide_true, Bool.true_and]
  · rw [List.getElem?_eq_none (by simp [rowN_len]; omega)]; simp [hi]

/-! ### the document's words -/
def nI (l : List Nat) : List Int := l.map (fun n : Nat => (n : Int))
def f55 (w : Int) : Option Bool := some (wideB w)
def f56 (x w : Int) : Option (List Int) := if isW x ∧ 0 ≤ w ∧ w ≤ 64 then some (nI (rowN x.toNat w.toNat)) else none
theorem row_fold (x w : Nat) : ∀ (d : Nat) (y : Nat) (l : List Int), d ≤ l.length → y = x → 
    ((List.range d).reverse.foldl (fun (s : Nat × List Int) i => (s.1 / 2, s.2.set i ((s.1 % 2 : Nat) : Int))) (y, l)).2 = nI (rowN x d) ++ l.drop d := by
  intro d
  induction d generalizing x with
  | zero => intro y l _ _; simp [rowN, nI]
  | succ d ih =>
    intro y l hl hy
    subst hy
    rw [List.range_succ, List.reverse_append, List.reverse_singleton, List.singleton_append, List.foldl_cons]
    rw [ih (y / 2) (y / 2) _ (by simp; omega) rfl]
    have e1 : rowN y (d + 1) = rowN (y / 2) d ++ [y % 2] := by
      simp only [rowN, List.range_succ, List.map_append, List.map_singleton]
      congr 1
      · apply List.map_congr_left
        intro j hj
        have hj' : j < d := by simpa using hj
        rw [Nat.div_div_eq_div_mul, ← Nat.pow_succ', show (d - 1 - j).succ = d + 1 - 1 - j by omega]
      · simp
    have e2 : (l.set d ((y % 2 : Nat) : Int)).drop d = ((y % 2 : Nat) : Int) :: l.drop (d + 1) := by
      rw [List.drop_eq_getElem_cons (by simp; omega)]
      simp [List.drop_set_of_lt]
    rw [e1, e2]
    simp [nI]
theorem E56 : EntOK FT XT 56 (en56 f56) := ok56 (fun a0 a1 r h => ⟨100, by
  simp only [f56] at h
  split at h <;> try (cases h; done)
  rename_i hc
  injection h with h; subst h
  obtain ⟨x, rfl⟩ := nat_of hc.1.1
  have hx2 : x < 2 ^ 64 := by have := hc.1.2; exact_mod_cast this
  obtain ⟨w, rfl⟩ := nat_of hc.2.1
  have hw : w ≤ 64 := by omega
  unfold p56
  have c1 : ((w : Int) * ((1 : Nat) : Int)) ≤ 1099511627776 := by omega
  have c2 : (w : Int) ≤ 1099511627776 := by omega
  have hs : isub .i64 (w : Int) 1 = (w : Int) - 1 := isub_i (by omega) (by omega)
  simp only [show (0 : Int) ≤ w by omega, Int.le_refl, c1, c2, decide_true, Bool.and_self, cond_true, hs, Int.toNat_natCast]
  have key := down_run (L := fun n (s : Nat × List Int) i => L56_0 100 (fun (y6 : Nat) (y7 : Nat) (y8 : List Int) => bif (decide ((0 + (y6 * 1)) ≤ (List.length y8))) then some (List.take y6 (List.drop 0 y8)) else none) n (s.1 : Int) w w i s.2)
    (g := fun s i => (s.1 / 2, s.2.set i ((s.1 % 2 : Nat) : Int))) (fin := fun s => s.2) (fun s d => s.2.length = w ∧ s.1 < 2 ^ 64 ∧ d ≤ w)
    (fun n s i hp => by
      obtain ⟨h1, h2, h3⟩ := hp
      refine ⟨⟨by simpa using h1, by show s.1 / 2 < _; omega, by omega⟩, ?_⟩
      have q1 : iquo .u64 (s.1 : Int) 2 = ((s.1 / 2 : Nat) : Int) := by
        unfold iquo
        rw [Int.tdiv_eq_ediv_of_nonneg (by omega)]
        rw [wrap_u .u64 rfl (by omega) (by show _ < 2 ^ 64; omega)]; norm_cast
      have q2 : IntKind.u8.wrap (irem (s.1 : Int) 2) = ((s.1 % 2 : Nat) : Int) := by
        unfold irem
        rw [Int.tmod_eq_emod_of_nonneg (by omega), wrap_u .u8 rfl (by omega) (by show _ < 2 ^ 8; omega)]; norm_cast
      have q3 : isub .i64 (i : Int) 1 = (i : Int) - 1 := isub_i (by omega) (by omega)
      simp only [L56_0, show (i : Int) ≥ 0 by omega, show (0 : Int) ≤ i by omega, show (i : Int) < ((w : Nat) : Int) by omega, Int.toNat_natCast, Nat.mul_one, Nat.zero_add, h1, show i < w by omega, decide_true, Bool.and_self, cond_true, q1, q2, q3])
    (fun n s hp => by
      obtain ⟨h1, h2, h3⟩ := hp
      simp [L56_0, h1, List.take_of_length_le])
    w 100 (x, List.replicate w (0 : Int)) (by omega) ⟨by simp, hx2, Nat.le_refl _⟩
  have e := row_fold x w w x (List.replicate w (0 : Int)) (by simp) rfl
  simp only [] at key
  rw [key]
  refine congrArg some (e.trans ?_)
  rw [List.drop_of_length_le (by simp)]; simp⟩)
def stepW (a b : Int) : Int := iadd .u64 (imul .u64 2 a) (IntKind.u64.wrap b)
def f57 (l : List Int) : Option Int := if l.length ≤ 2 ^ 20 then some (l.foldl stepW 0) else none
theorem E57 : EntOK FT XT 57 (en57 f57) := ok57 (fun a0 r h => ⟨2 ^ 20 + 1, by
  simp only [f57] at h
  split at h <;> try (cases h; done)
  rename_i hc
  injection h with h; subst h
  unfold p57
  refine range_fold (L := fun n s i => L57_0 (2 ^ 20 + 1) (fun (y5 : Int) => some y5) n a0 s i) (g := stepW) (fin := fun s => s) (fun _ _ => True) (fun n s i c _ hci hi => ⟨trivial, ?_⟩) (fun n s _ => ?_) _ (by omega) 0 trivial
  · have hs : iadd .i64 (i : Int) 1 = ((i + 1 : Nat) : Int) := by rw [iadd_i (by omega) (by omega)]; omega
    simp only [L57_0, show (i : Int) < ((a0.length : Nat) : Int) by omega, decide_true, cond_true, geti_nat, hci, hs]; rfl
  · simp [L57_0]⟩)
theorem word_nI (l : List Nat) (h : ∀ b ∈ l, b < 2) (hl : l.length ≤ 64) : (nI l).foldl stepW 0 = ((wordN l : Nat) : Int) := by
  have key : ∀ (r l : List Nat), (∀ b ∈ l ++ r, b < 2) → (l ++ r).length ≤ 64 → (nI r).foldl stepW ((wordN l : Nat) : Int) = ((wordN (l ++ r) : Nat) : Int) := by
    intro r
    induction r with
    | nil => intro l _ _; simp [nI]
    | cons b r ih =>
      intro l h hl
      have hb := h b (by simp)
      have hlt := wordN_lt l (fun c hc => h c (by simp [hc]))
      have hll : l.length < 64 := by simp at hl; omega
      have h2 : 2 ^ l.length * 2 ≤ 2 ^ 64 := by rw [← Nat.pow_succ]; exact Nat.pow_le_pow_right (by omega) (by omega)
      have e : stepW ((wordN l : Nat) : Int) (b : Int) = ((wordN (l ++ [b]) : Nat) : Int) := by
        rw [wordN_snoc]
        unfold stepW iadd imul
        rw [wrap_u .u64 rfl (x := (b : Int)) (by omega) (by show _ < 2 ^ 64; omega), wrap_u .u64 rfl (x := 2 * ((wordN l : Nat) : Int)) (by omega) (by show _ < 2 ^ 64; omega), wrap_u .u64 rfl (by omega) (by show _ < 2 ^ 64; omega)]
        omega
      have e2 : nI (b :: r) = (b : Int) :: nI r := rfl
      rw [e2, List.foldl_cons, e, ih (l ++ [b]) (by simpa using h) (by simpa using hl)]
      simp
  have := key l [] (by simpa using h) (by simpa using hl)
  simpa [wordN] using this
/- The law BitpWords. -/
/-- a bit of a word -/
def bitN (x w i : Int) : Nat := if wideB w = true ∧ 1 ≤ i ∧ i ≤ w then x.toNat / 2 ^ (w - i).toNat % 2 else 0
theorem bitN_lt (x w i : Int) : bitN x w i < 2 := by
  unfold bitN; split
  · exact Nat.mod_lt _ (by omega)
  · omega
def f33 (x w i : Int) : Option Int := if isW x ∧ -2 ^ 63 ≤ i ∧ i < 2 ^ 63 then some ((bitN x w i : Nat) : Int) else none
section
variable {c53 : Int → Option Bool} {c55 : Int → Option Bool} {c56 : Int → Int → Option (List Int)}
theorem p33_is {x w i : Int} {b : Bool} (F : c53 w = some b) (h1 : b = true → 1 ≤ i → i ≤ w → isub .i64 w i = w - i) : p33 c53 0 x w i = some (if b = true ∧ 1 ≤ i ∧ i ≤ w then iand .u64 (ishr .u64 x (w - i)) 1 else 0) := by
  rw [p33.eq_def]
  simp only [F]
  cases b with
  | false => simp
  | true =>
    by_cases h2 : i < 1
    · simp [h2, show ¬ (1 ≤ i ∧ i ≤ w) by omega]
    · by_cases h3 : i > w
      · simp [h2, h3, show ¬ (1 ≤ i ∧ i ≤ w) by omega]
      · have h4 : 1 ≤ i ∧ i ≤ w := by omega
        rw [if_pos ⟨rfl, h4⟩, h1 rfl h4.1 h4.2]
        simp [h2, h3, show ¬ (w - i < 0) by omega]
end
theorem E33 : EntOK FT XT 33 (en33 f33) := ok33 f53 E53 (fun x w i r h => ⟨0, by
  simp only [f33] at h
  split at h <;> try (cases h; done)
  rename_i hc
  injection h with h; subst h
  refine (p33_is (b := wideB w) rfl (fun hb h1 h2 => ?_)).trans ?_
  · have := wideB_iff.1 hb
    exact isub_i (by omega) (by omega)
  · unfold bitN
    by_cases hcc : wideB w = true ∧ 1 ≤ i ∧ i ≤ w
    · have hw := wideB_iff.1 hcc.1
      rw [if_pos hcc, if_pos hcc]
      obtain ⟨x, rfl⟩ := nat_of hc.1.1
      have hx2 : x < 2 ^ 64 := by have := hc.1.2; exact_mod_cast this
      obtain ⟨m, hm⟩ := nat_of (show 0 ≤ w - i by omega)
      have e1 := ishr_u .u64 x m (by show _ ≤ 64; omega)
      have h3 : x / 2 ^ m < 2 ^ 64 := Nat.lt_of_le_of_lt (Nat.div_le_self _ _) hx2
      have e2 := iand_u .u64 rfl (x / 2 ^ m) 1 h3 (by show _ < 2 ^ 64; omega)
      rw [hm, e1, Int.toNat_natCast, Int.toNat_natCast]
      refine congrArg some (e2.trans ?_)
      rw [Nat.and_one_is_mod]
    · rw [if_neg hcc, if_neg hcc]; rfl⟩)
theorem nI_get (l : List Nat) (j : Nat) : (nI l)[j]? = (l[j]?).map (fun n : Nat => (n : Int)) := by simp [nI]
/-! ### turned and split -/
section
variable {c55 : Int → Option Bool} {c56 : Int → Int → Option (List Int)} {c57 : List Int → Option Int}
end
theorem nI_len (l : List Nat) : (nI l).length = l.length := by simp [nI]
theorem f57_nI (l : List Nat) (h : ∀ b ∈ l, b < 2) (hl : l.length ≤ 64) : f57 (nI l) = some ((wordN l : Nat) : Int) := by
  unfold f57
  rw [if_pos (by rw [nI_len]; omega), word_nI l h hl]
theorem nI_drop (l : List Nat) (k : Nat) : (nI l).drop k = nI (l.drop k) := by simp [nI, List.map_drop]
theorem nI_take (l : List Nat) (k : Nat) : (nI l).take k = nI (l.take k) := by simp [nI, List.map_take]
theorem nI_app (l r : List Nat) : nI l ++ nI r = nI (l ++ r) := by simp [nI]
/- The law BitpWords: permuted words. -/
/-- one bit more -/
def putI (x w : Int) (s : Int × Bool) (i : Int) : Int × Bool := (ior .u64 (ishl .u64 s.1 1) ((bitN x w i : Nat) : Int), s.2 || (decide (i < 1) || decide (i > w)))
def f54 (i : Int) (b : Bool) (ws os xs : List Int) : Option ((Unit × Unit) × ((Bool × Unit) × ((List Int) × ((List Int) × ((List Int) × Unit))))) :=
  match ws, os, xs with
  | [w], [o], [x] => if isW x ∧ -2 ^ 63 ≤ i ∧ i < 2 ^ 63 then some (((), ()), (((putI x w (o, b) i).2, ()), ([w], ([(putI x w (o, b) i).1], ([x], ()))))) else none
  | _, _, _ => none
theorem p54_is {c33 : Int → Int → Int → Option Int} {i w o x z : Int} {b : Bool} (F : c33 x w i = some z) :
    p54v0 c33 0 i b [w] [o] [x] = some (((), ()), ((b || (decide (i < 1) || decide (i > w)), ()), ([w], ([ior .u64 (ishl .u64 o 1) z], ([x], ()))))) := by
  rw [p54v0.eq_def]
  cases b with
  | true => simp [F]
  | false =>
    by_cases h : i < 1
    · simp [F, h]
    · simp [F, h]
theorem E54 : REntOK FT XT 54 (rn54v0 f54) := ok54v0 f33 E33 (fun i b ws os xs r h => ⟨0, by
  unfold f54 at h
  split at h <;> try (cases h; done)
  rename_i w o x
  split at h <;> try (cases h; done)
  rename_i hc
  injection h with h; subst h
  exact p54_is (if_pos hc)⟩)
/-- the words that a table makes -/
def tabI (x w : Int) (t : List Int) : Int × Bool := t.foldl (putI x w) (0, false)
def f27 (x w : Int) (t : List Int) : Option (Int × Int) :=
  if isW x ∧ (∀ i ∈ t, -2 ^ 63 ≤ i ∧ i < 2 ^ 63) then
    (if wideB w = true ∧ t.length ≤ 64 then (if (tabI x w t).2 then some (0, 1) else some ((tabI x w t).1, 0)) else some (0, 1))
  else none
section
variable {c53 : Int → Option Bool} {d54 : Int → Bool → List Int → List Int → List Int → Option ((Unit × Unit) × ((Bool × Unit) × ((List Int) × ((List Int) × ((List Int) × Unit)))))}
theorem p27_bad {x w : Int} {t : List Int} {b : Bool} (F : c53 w = some b) (h : ¬ (b = true ∧ t.length ≤ 64)) : p27 c53 d54 100 x w t = some (0, 1) := by
  rw [p27.eq_def]
  simp only [F]
  cases b with
  | false => simp
  | true =>
    have : ((t.length : Nat) : Int) > 64 := by
      have : ¬ t.length ≤ 64 := fun hh => h ⟨rfl, hh⟩
      omega
    simp [this]
theorem p27_is {x w : Int} {t : List Int} (g : Int × Bool → Int → Int × Bool) (F : c53 w = some true) (hl : t.length ≤ 64)
    (D : ∀ i ∈ t, ∀ s : Int × Bool, d54 i s.2 [w] [s.1] [x] = some (((), ()), (((g s i).2, ()), ([w], ([(g s i).1], ([x], ())))))) :
    p27 c53 d54 100 x w t = some (if (t.foldl g (0, false)).2 then (0, 1) else ((t.foldl g (0, false)).1, 0)) := by
  rw [p27.eq_def]
  simp only [F, Bool.not_true, cond_false, show ¬ (((t.length : Nat) : Int) > 64) by omega, decide_false]
  refine range_fold (L := fun n (s : Int × Bool) i => L27_0 c53 d54 100 (fun (y11 : List Int) (y12 : Bool) => bif y12 then some ((0 : Int), (1 : Int)) else match (y11)[0]? with | none => none | some x13 => some (x13, (0 : Int))) n t ((t.length : Nat) : Int) i [s.1] s.2 [w] [x])
    (g := g) (fin := fun s => if s.2 then (0, 1) else (s.1, 0)) (fun _ _ => True) (fun n s i c _ hci hi => ⟨trivial, ?_⟩) (fun n s _ => ?_) 100 (by omega) (0, false) trivial
  · have hs : iadd .i64 (i : Int) 1 = ((i + 1 : Nat) : Int) := by rw [iadd_i (by omega) (by omega)]; omega
    simp only [L27_0, show (i : Int) < ((t.length : Nat) : Int) by omega, decide_true, cond_true, geti_nat, hci, D c (List.mem_of_getElem? hci) s, hs]
  · simp only [L27_0, Int.lt_irrefl, decide_false, cond_false]
    cases s.2 <;> simp
end
theorem E27 : EntOK FT XT 27 (en27 f27) := ok27 f53 f54 E53 E54 (fun x w t r h => ⟨100, by
  simp only [f27] at h
  split at h <;> try (cases h; done)
  rename_i hc
  split at h
  · rename_i hw
    refine (p27_is (putI x w) (by simp only [f53, hw.1]) hw.2 (fun i hi s => by
      unfold f54
      exact if_pos ⟨hc.1, hc.2 i hi⟩)).trans ?_
    show some (if (tabI x w t).2 then (0, 1) else ((tabI x w t).1, 0)) = _
    split at h <;> (rename_i hh; rw [← h]; simp [hh])
  · rename_i hw
    injection h with h; subst h
    exact p27_bad (b := wideB w) rfl hw⟩)
/-! ### the document's -/
def okT (w : Int) (t : List Int) : Bool := t.all fun i => decide (1 ≤ i) && decide (i ≤ w)
theorem tab_bad (x w : Int) : ∀ (t : List Int) (s : Int × Bool), (t.foldl (putI x w) s).2 = (s.2 || !okT w t)
  | [], s => by simp [okT]
  | i :: t, s => by
    rw [List.foldl_cons, tab_bad x w t]
    simp only [putI, okT, List.all_cons]
    by_cases h1 : i < 1
    · simp [h1, show ¬ 1 ≤ i by omega]
    · by_cases h2 : i > w
      · simp [h1, h2, show ¬ i ≤ w by omega]
      · simp [h1, h2, show 1 ≤ i by omega, show i ≤ w by omega]
theorem tab_word (x w : Int) (t : List Int) (hl : t.length ≤ 64) : (tabI x w t).1 = ((wordN (t.map (bitN x w)) : Nat) : Int) := by
  have key : ∀ (r l : List Int) (b : Bool), (l ++ r).length ≤ 64 → (r.foldl (putI x w) (((wordN (l.map (bitN x w)) : Nat) : Int), b)).1 = ((wordN ((l ++ r).map (bitN x w)) : Nat) : Int) := by
    intro r
    induction r with
    | nil => intro l b _; simp
    | cons i r ih =>
      intro l b hl
      have hb := bitN_lt x w i
      have hlt := wordN_lt (l.map (bitN x w)) (fun c hc => by
        obtain ⟨j, _, rfl⟩ := List.mem_map.1 hc
        exact bitN_lt x w j)
      rw [List.length_map] at hlt
      have hll : l.length < 64 := by simp at hl; omega
      have h2 : 2 ^ l.length * 2 ≤ 2 ^ 64 := by rw [← Nat.pow_succ]; exact Nat.pow_le_pow_right (by omega) (by omega)
      have e : putI x w (((wordN (l.map (bitN x w)) : Nat) : Int), b) i = (((wordN ((l ++ [i]).map (bitN x w)) : Nat) : Int), b || (decide (i < 1) || decide (i > w))) := by
        unfold putI
        congr 1
        rw [List.map_append, List.map_singleton, wordN_snoc]
        have e1 := ishl_u .u64 rfl (wordN (l.map (bitN x w))) 1 (by show _ ≤ 64; omega)
        rw [show (2 : Nat) ^ IntKind.u64.bits = 2 ^ 64 from rfl, Nat.mod_eq_of_lt (by omega)] at e1
        have e2 := ior_u .u64 rfl (wordN (l.map (bitN x w)) * 2 ^ 1) (bitN x w i) (by show _ < 2 ^ 64; omega) (by show _ < 2 ^ 64; omega)
        have e3 := Nat.two_pow_add_eq_or_of_lt (i := 1) (b := bitN x w i) (by omega) (wordN (l.map (bitN x w)))
        rw [Nat.mul_comm, ← e3] at e2
        have e4 : ishl .u64 ((wordN (l.map (bitN x w)) : Nat) : Int) 1 = ((2 ^ 1 * wordN (l.map (bitN x w)) : Nat) : Int) := by rw [Nat.mul_comm]; exact e1
        rw [e4, e2]
      rw [List.foldl_cons, e, ih (l ++ [i]) _ (by simpa using hl)]
      simp
  exact key t [] false (by simpa using hl)
section
variable {c55 : Int → Option Bool} {c56 : Int → Int → Option (List Int)} {c57 : List Int → Option Int}
def stepP (w : Int) (row : List Int) (s : List Int) (i : Int) : (Int × Int) ⊕ List Int :=
  if 1 ≤ i ∧ i ≤ w then .inr (s ++ [row.getD (i - 1).toNat 0]) else .inl (0, 1)
end
theorem run_step (w : Int) (row : List Int) (z : List Int → Int) : ∀ (t s : List Int), runL (stepP w row) (fun s => (z s, (0 : Int))) t s = if okT w t then (z (s ++ t.map fun i => row.getD (i - 1).toNat 0), 0) else (0, 1)
  | [], s => by simp [runL, okT]
  | i :: t, s => by
    simp only [runL, stepP]
    by_cases h : 1 ≤ i ∧ i ≤ w
    · rw [if_pos h]
      simp only [run_step w row z t]
      simp [okT, h.1, h.2]
    · rw [if_neg h]
      have : okT w (i :: t) = false := by
        simp only [okT, List.all_cons, Bool.and_eq_false_iff, decide_eq_false_iff_not]
        left; omega
      rw [this]; simp
/- Chapter 3: bytes made odd, keys spread and gathered. -/
/-! ### a byte made odd -/
def ones : Nat → Nat → Nat
  | 0, _ => 0
  | n + 1, b => b % 2 + ones n (b / 2)
def oddOf (b : Nat) : Nat := b / 2 * 2 + (ones 7 (b / 2) + 1) % 2
theorem oddOf_half (y : Nat) : oddOf (y * 2) / 2 = y := by unfold oddOf; omega
theorem ones_le : ∀ n b, ones n b ≤ n
  | 0, _ => Nat.le_refl _
  | n + 1, b => by have := ones_le n (b / 2); simp only [ones]; omega
theorem oddOf_lt (y : Nat) (h : y < 2 ^ 7) : oddOf (y * 2) < 256 := by unfold oddOf; omega
def f52 (a : Int) : Option Int := p52 0 a
theorem E52 : EntOK FT XT 52 (en52 f52) := ok52 (fun a r h => ⟨0, h⟩)
def f25 (a : Int) : Option Int := if 0 ≤ a ∧ a < 256 then some ((oddOf a.toNat : Nat) : Int) else none
theorem all25 : ((List.range 256).all fun b => p25 f52 0 ((b : Nat) : Int) == some ((oddOf b : Nat) : Int)) = true := by kernel_rfl
theorem all39 : ((List.range 256).all fun b => p39 10 ((b : Nat) : Int) == some ((oddOf b : Nat) : Int)) = true := by kernel_rfl
theorem E25 : EntOK FT XT 25 (en25 f25) := ok25 f52 E52 (fun a r h => ⟨0, by
  simp only [f25] at h
  split at h <;> try (cases h; done)
  rename_i hc
  injection h with h; subst h
  obtain ⟨n, rfl⟩ := nat_of hc.1
  exact eq_of_beq (List.all_eq_true.1 all25 n (List.mem_range.2 (by omega)))⟩)
theorem E39 : EntOK FT XT 39 (en39 f25) := ok39 (fun a r h => ⟨10, by
  simp only [f25] at h
  split at h <;> try (cases h; done)
  rename_i hc
  injection h with h; subst h
  obtain ⟨n, rfl⟩ := nat_of hc.1
  exact eq_of_beq (List.all_eq_true.1 all39 n (List.mem_range.2 (by omega)))⟩)
theorem f25_nat (n : Nat) (h : n < 256) : f25 (n : Int) = some ((oddOf n : Nat) : Int) := by
  unfold f25; rw [if_pos (by omega), Int.toNat_natCast]

/-! ### whether two rows are the same -/
def f23 (l m : List Int) : Option Bool := if l.length ≤ 2 ^ 20 then some (decide (l = m)) else none
theorem L23_is (N : Nat) (l m : List Int) (h : l.length = m.length) (hb : l.length ≤ 2 ^ 20) : ∀ d i n, i + d = l.length → d < n → L23_0 N (some true) n l m (i : Int) = some (decide (l.drop i = m.drop i)) := by
  intro d
  induction d with
  | zero =>
    intro i n hd hn
    obtain ⟨k, rfl⟩ : ∃ k, n = k + 1 := ⟨n - 1, by omega⟩
    simp only [L23_0, show ¬ ((i : Int) < ((l.length : Nat) : Int)) by omega, decide_false, cond_false]
    rw [List.drop_of_length_le (by omega), List.drop_of_length_le (by omega)]; simp
  | succ d ih =>
    intro i n hd hn
    obtain ⟨k, rfl⟩ : ∃ k, n = k + 1 := ⟨n - 1, by omega⟩
    have hi : i < l.length := by omega
    have hj : i < m.length := by omega
    simp only [L23_0, show ((i : Int) < ((l.length : Nat) : Int)) by omega, decide_true, cond_true, geti_nat, List.getElem?_eq_getElem hi, List.getElem?_eq_getElem hj]
    rw [List.drop_eq_getElem_cons hi, List.drop_eq_getElem_cons hj]
    by_cases e : l[i] = m[i]
    · rw [e]
      simp only [bne_self_eq_false, cond_false, List.cons.injEq, true_and]
      rw [show iadd .i64 (i : Int) 1 = ((i + 1 : Nat) : Int) from by rw [iadd_i (by omega) (by omega)]; omega]
      exact ih (i + 1) k (by omega) (by omega)
    · simp only [bne_iff_ne.2 e, cond_true, List.cons.injEq, e, false_and, decide_false]
theorem E23 : EntOK FT XT 23 (en23 f23) := ok23 (fun l m r h => ⟨2 ^ 20 + 1, by
  simp only [f23] at h
  split at h <;> try (cases h; done)
  rename_i hc
  injection h with h; subst h
  rw [p23.eq_def]
  by_cases e : l.length = m.length
  · have := L23_is (2 ^ 20 + 1) l m e hc l.length 0 (2 ^ 20 + 1) (by omega) (by omega)
    simp only [e, bne_self_eq_false, cond_false]
    simpa using this
  · have h1 : (((l.length : Nat) : Int) != ((m.length : Nat) : Int)) = true := bne_iff_ne.2 (by omega)
    have h2 : l ≠ m := fun h => e (by rw [h])
    simp [h1, h2]⟩)

/-! ### rows -/
theorem rowN_get' (x w j : Nat) (h : j < w) : (rowN x w)[j]? = some (x.testBit (w - 1 - j)).toNat := by
  rw [rowN_get x w j h, Nat.toNat_testBit]
theorem rowN_none (x w j : Nat) (h : w ≤ j) : (rowN x w)[j]? = none := List.getElem?_eq_none (by rw [rowN_len]; exact h)
theorem rowN_drop (x w a : Nat) (h : a ≤ w) : (rowN x w).drop a = rowN x (w - a) := by
  apply List.ext_getElem?
  intro j
  rw [List.getElem?_drop]
  by_cases hj : j < w - a
  · rw [rowN_get' _ _ _ (by omega), rowN_get' _ _ _ hj, show w - 1 - (a + j) = w - a - 1 - j by omega]
  · rw [rowN_none _ _ _ (by omega), rowN_none _ _ _ (by omega)]
theorem rowN_take (x w a : Nat) (h : a ≤ w) : (rowN x w).take a = rowN (x / 2 ^ (w - a)) a := by
  apply List.ext_getElem?
  intro j
  by_cases hj : j < a
  · rw [List.getElem?_take_of_lt hj, rowN_get' _ _ _ (by omega), rowN_get' _ _ _ hj, Nat.testBit_div_two_pow, show a - 1 - j + (w - a) = w - 1 - j by omega]
  · rw [rowN_none _ _ _ (by omega), List.getElem?_take]; simp [hj]
theorem word_rowN (x w : Nat) : wordN (rowN x w) = x % 2 ^ w := by
  have := word_take x w w (Nat.le_refl _)
  rw [List.take_of_length_le (by rw [rowN_len]; omega)] at this
  simpa using this
theorem rowN_app (x b n m : Nat) (h : b < 2 ^ m) : rowN x n ++ rowN b m = rowN (x * 2 ^ m + b) (n + m) := by
  apply List.ext_getElem?
  intro j
  have e : ∀ i, (x * 2 ^ m + b).testBit i = if i < m then b.testBit i else x.testBit (i - m) := fun i => by
    rw [Nat.mul_comm]; exact Nat.testBit_two_pow_mul_add x h i
  by_cases hj : j < n
  · rw [List.getElem?_append_left (by rw [rowN_len]; exact hj), rowN_get' _ _ _ hj, rowN_get' _ _ _ (by omega), e, if_neg (by omega), show n + m - 1 - j - m = n - 1 - j by omega]
  · rw [List.getElem?_append_right (by rw [rowN_len]; omega), rowN_len]
    by_cases hm : j < n + m
    · rw [rowN_get' _ _ _ (by omega), rowN_get' _ _ _ hm, e, if_pos (by omega), show n + m - 1 - j = m - 1 - (j - n) by omega]
    · rw [rowN_none _ _ _ (by omega), rowN_none _ _ _ (by omega)]

/-! ### keys -/
def numN (l : List Nat) : Nat := l.foldl (fun a b => a * 2 ^ 8 + b) 0
def halfN (l : List Nat) : Nat := l.foldl (fun a b => a * 2 ^ 7 + b / 2) 0
def sp (x i : Nat) : Nat := oddOf (x / 2 ^ (7 * (7 - i)) % 2 ^ 7 * 2)
def ga (x i : Nat) : Nat := x / 2 ^ (8 * (6 - i)) % 2 ^ 8
def spreadN (l : List Nat) : List Nat := (List.range' 0 8).map (sp (numN l))
def gatherN (l : List Nat) : List Nat := (List.range' 0 7).map (ga (halfN l))
theorem num_lt (l : List Nat) (h : ∀ b ∈ l, b < 256) : ∀ x n, x < 2 ^ n → l.foldl (fun a b => a * 2 ^ 8 + b) x < 2 ^ (n + 8 * l.length) := by
  induction l with
  | nil => intro x n hx; simpa using hx
  | cons b l ih =>
    intro x n hx
    have hb := h b (by simp)
    have := ih (fun c hc => h c (by simp [hc])) (x * 2 ^ 8 + b) (n + 8) (by rw [Nat.pow_add]; omega)
    rw [List.foldl_cons, List.length_cons]
    rw [show n + 8 * (l.length + 1) = n + 8 + 8 * l.length by omega]; exact this
theorem num_row (l : List Nat) (h : ∀ b ∈ l, b < 256) : ∀ x n, l.foldl (fun s b => s ++ rowN b 8) (rowN x n) = rowN (l.foldl (fun a b => a * 2 ^ 8 + b) x) (n + 8 * l.length) := by
  induction l with
  | nil => intro x n; simp
  | cons b l ih =>
    intro x n
    have hb := h b (by simp)
    rw [List.foldl_cons, List.foldl_cons, rowN_app _ _ _ _ (by omega), ih (fun c hc => h c (by simp [hc])), List.length_cons, show n + 8 * (l.length + 1) = n + 8 + 8 * l.length by omega]
theorem half_row (l : List Nat) (h : ∀ b ∈ l, b < 256) : ∀ x n, l.foldl (fun s b => s ++ (rowN b 8).take 7) (rowN x n) = rowN (l.foldl (fun a b => a * 2 ^ 7 + b / 2) x) (n + 7 * l.length) := by
  induction l with
  | nil => intro x n; simp
  | cons b l ih =>
    intro x n
    have hb := h b (by simp)
    rw [List.foldl_cons, List.foldl_cons, rowN_take _ _ _ (by omega), rowN_app _ _ _ _ (by omega), ih (fun c hc => h c (by simp [hc])), List.length_cons, show n + 7 * (l.length + 1) = n + 7 + 7 * l.length by omega]
theorem half_lt (l : List Nat) (h : ∀ b ∈ l, b < 256) : ∀ x n, x < 2 ^ n → l.foldl (fun a b => a * 2 ^ 7 + b / 2) x < 2 ^ (n + 7 * l.length) := by
  induction l with
  | nil => intro x n hx; simpa using hx
  | cons b l ih =>
    intro x n hx
    have hb := h b (by simp)
    have := ih (fun c hc => h c (by simp [hc])) (x * 2 ^ 7 + b / 2) (n + 7) (by rw [Nat.pow_add]; omega)
    rw [List.foldl_cons, List.length_cons]
    rw [show n + 7 * (l.length + 1) = n + 7 + 7 * l.length by omega]; exact this
theorem nI_mem {m : List Nat} {i : Nat} {c : Int} (h : (nI m)[i]? = some c) : ∃ b : Nat, b ∈ m ∧ c = b ∧ m[i]? = some b := by
  rw [nI_get] at h
  cases e : m[i]? with
  | none => rw [e] at h; cases h
  | some b => rw [e] at h; injection h with h; exact ⟨b, List.mem_of_getElem? e, h.symm, rfl⟩
/-- a loop over numbers -/
theorem nat_fold {σ ρ : Type} {L : Nat → σ → Int → Option ρ} {m : List Nat} {g : σ → Nat → σ} {fin : σ → ρ} (P : σ → Nat → Prop)
    (h : ∀ n s (i : Nat) b, P s i → m[i]? = some b → i < m.length → P (g s b) (i + 1) ∧ L (n + 1) s i = L n (g s b) ((i + 1 : Nat) : Int))
    (h0 : ∀ n s, P s m.length → ∃ r, L (n + 1) s (m.length : Int) = some r ∧ r = fin s) (N : Nat) (hN : m.length < N) (s : σ) (hs : P s 0) : L N s 0 = some (fin (m.foldl g s)) :=
  range_fold P h (fun n s hp => by obtain ⟨r, e, h⟩ := h0 n s hp; rw [e, h]) N hN s hs
def allB (l : List Int) : Prop := ∀ b ∈ l, 0 ≤ b ∧ b < 256
theorem allB_nat {l : List Int} (h : allB l) : ∃ m : List Nat, l = nI m ∧ ∀ b ∈ m, b < 256 := by
  refine ⟨l.map Int.toNat, ?_, fun b hb => ?_⟩
  · unfold nI
    rw [List.map_map]
    conv => lhs; rw [← List.map_id l]
    apply List.map_congr_left
    intro b hb
    have := h b hb
    simp; omega
  · obtain ⟨c, hc, rfl⟩ := List.mem_map.1 hb
    have := h c hc
    omega
theorem nI_nat (m : List Nat) : (nI m).map Int.toNat = m := by unfold nI; rw [List.map_map]; exact (List.map_congr_left (fun a _ => Int.toNat_natCast a)).trans (List.map_id m)
theorem nI_allB {m : List Nat} (h : ∀ b ∈ m, b < 256) : allB (nI m) := fun b hb => by
  obtain ⟨c, hc, rfl⟩ := List.mem_map.1 hb
  have := h c hc
  omega
section
variable {c25 c39 : Int → Option Int} {c56 : Int → Int → Option (List Int)} {c57 : List Int → Option Int}
theorem p24_bad {a : List Int} (h : a.length ≠ 7) : p24 c25 20 a = some ([], 1) := by
  rw [p24.eq_def]
  have : (((a.length : Nat) : Int) != 7) = true := by simp; omega
  simp [this]
theorem p24_is {m : List Nat} (F : ∀ n : Nat, n < 256 → c25 n = some ((oddOf n : Nat) : Int)) (hb : ∀ b ∈ m, b < 256) (hm : m.length = 7) : p24 c25 20 (nI m) = some (nI (spreadN m), 0) := by
  rw [p24.eq_def]
  have h7 : (((nI m).length : Nat) : Int) = 7 := by rw [nI_len]; omega
  rw [h7]
  simp only [bne_self_eq_false, cond_false]
  generalize hQ : (fun (y6 : Int) => L24_1 c25 20 _ 20 y6 8 8 (8 : Int) (0 : Int) _) = Q
  have key := nat_fold (L := fun n (s : Nat) i => L24_0 c25 20 Q n (s : Int) (nI m) 7 i) (m := m) (g := fun a b => a * 2 ^ 8 + b) (fin := fun s => (nI ((List.range' 0 8).map (sp s)), (0 : Int))) (fun s i => s < 2 ^ (8 * i))
    (fun n s i b hp hg hi => by
      have hb' := hb b (List.mem_of_getElem? hg)
      have hi6 : i ≤ 6 := by omega
      have hs : s < 2 ^ 48 := Nat.lt_of_lt_of_le hp (Nat.pow_le_pow_right (by omega) (by omega))
      refine ⟨by rw [show 8 * (i + 1) = 8 * i + 8 by omega, Nat.pow_add]; omega, ?_⟩
      have e1 := ishl_u .u64 rfl s 8 (by show _ ≤ 64; omega)
      rw [show (2 : Nat) ^ IntKind.u64.bits = 2 ^ 64 from rfl, Nat.mod_eq_of_lt (show s * 2 ^ 8 < 2 ^ 64 by omega)] at e1
      have e2 := ior_u .u64 rfl (s * 2 ^ 8) b (by show _ < 2 ^ 64; omega) (by show _ < 2 ^ 64; omega)
      rw [Nat.mul_comm s, ← Nat.two_pow_add_eq_or_of_lt hb', Nat.mul_comm _ s] at e2
      have e3 : IntKind.u64.wrap (b : Int) = b := wrap_u .u64 rfl (by omega) (by show _ < 2 ^ 64; omega)
      have e4 : iadd .i64 (i : Int) 1 = ((i + 1 : Nat) : Int) := by rw [iadd_i (by omega) (by omega)]; omega
      simp only [L24_0, show (i : Int) < 7 by omega, decide_true, cond_true, geti_nat, nI_get, hg, Option.map_some, e3, e4]
      rw [show (8 : Int) = ((8 : Nat) : Int) from rfl, e1, e2])
    (fun n s hp => by
      refine ⟨_, ?_, rfl⟩
      rw [hm] at hp
      simp only [hm, L24_0, show ¬ (((7 : Nat) : Int) < 7) by omega, decide_false, cond_false]
      rw [← hQ]
      have k2 := up_run (L := fun n (l : List Int) i => L24_1 c25 20 (fun (y14 : Nat) (y15 : Nat) (y16 : List Int) =>
            bif (decide ((0 + (y14 * 1)) ≤ (List.length y16))) then
              some ((List.take y14 (List.drop 0 y16)), (0 : Int))
            else none) n (s : Int) 8 8 8 i l) (g := fun l i => l.set i ((sp s i : Nat) : Int)) (fin := fun l => (l, (0 : Int))) (fun l i => l.length = 8) 8
        (fun n l i hi hl => by
          refine ⟨by simpa using hl, ?_⟩
          have q1 : isub .i64 (7 : Int) (i : Int) = ((7 - i : Nat) : Int) := by rw [isub_i (by omega) (by omega)]; omega
          have q2 : imul .i64 (7 : Int) ((7 - i : Nat) : Int) = ((7 * (7 - i) : Nat) : Int) := by rw [imul_i (by omega) (by omega)]; omega
          have q3 := ishr_u .u64 s (7 * (7 - i)) (by show _ ≤ 64; omega)
          have q4 := ishl_u .u64 rfl (s / 2 ^ (7 * (7 - i))) 1 (by show _ ≤ 64; omega)
          have q5 : IntKind.u8.wrap (((s / 2 ^ (7 * (7 - i)) * 2 ^ 1 % 2 ^ 64 : Nat)) : Int) = ((s / 2 ^ (7 * (7 - i)) % 2 ^ 7 * 2 : Nat) : Int) := by rw [wrap_u8]; omega
          have q6 : iadd .i64 (i : Int) 1 = ((i + 1 : Nat) : Int) := by rw [iadd_i (by omega) (by omega)]; omega
          have q7 : ((s / 2 ^ (7 * (7 - i)) % 2 ^ 7 * 2 : Nat)) < 256 := by omega
          simp only [L24_1, show (i : Int) < 8 by omega, decide_true, cond_true, q1, q2, show ¬ (((7 * (7 - i) : Nat) : Int) < 0) by omega, decide_false, cond_false, q3]
          rw [show (1 : Int) = ((1 : Nat) : Int) from rfl, q4, show (2 : Nat) ^ IntKind.u64.bits = 2 ^ 64 from rfl, q5, F _ q7]
          simp only [show (0 : Int) ≤ (i : Int) by omega, show (i : Int) < ((8 : Nat) : Int) by omega, Int.toNat_natCast, Nat.mul_one, Nat.zero_add, hl, show i < 8 by omega, decide_true, Bool.and_self, cond_true, show ((1 : Nat) : Int) = (1 : Int) from rfl, q6]
          rfl)
        (fun n l hl => by
          simp [L24_1, hl, List.take_of_length_le])
        8 0 20 [0, 0, 0, 0, 0, 0, 0, 0] (by omega) (by omega) rfl
      exact k2) 20 (by omega) 0 (by simp)
  exact key
theorem p36_bad {a : List Int} (h : a.length ≠ 7) : p36 c56 c57 c39 20 a = some ([], 1) := by
  rw [p36.eq_def]
  have : (((a.length : Nat) : Int) != 7) = true := bne_iff_ne.2 (by omega)
  simp [this]
theorem part_row (x a i n w : Nat) (h : a + n ≤ w) : (nI ((((rowN x w)).drop a).take n)) = nI (rowN (x / 2 ^ (w - a - n)) n) := by
  rw [rowN_drop _ _ _ (by omega), rowN_take _ _ _ (by omega)]
theorem p36_is {m : List Nat} (F : ∀ n : Nat, n < 256 → c39 n = some ((oddOf n : Nat) : Int)) (G : ∀ n : Nat, n < 256 → c56 n 8 = some (nI (rowN n 8))) (J : ∀ l : List Nat, (∀ b ∈ l, b < 2) → l.length ≤ 64 → c57 (nI l) = some ((wordN l : Nat) : Int))
    (hb : ∀ b ∈ m, b < 256) (hm : m.length = 7) : p36 c56 c57 c39 20 (nI m) = some (nI (spreadN m), 0) := by
  rw [p36.eq_def]
  have h7 : (((nI m).length : Nat) : Int) = 7 := by rw [nI_len]; omega
  rw [h7]
  simp only [bne_self_eq_false, cond_false]
  generalize hQ : (fun (y7 : Nat) (y8 : List Int) => L36_1 c56 c57 c39 20 _ 20 y7 0 (0 : Int) y8 ([] : List Int)) = Q
  have key := nat_fold (L := fun n (s : List Nat) i => L36_0 c56 c57 c39 20 Q n (nI m) s.length i (nI s)) (m := m) (g := fun s b => s ++ rowN b 8) (fin := fun s => (nI ((List.range' 0 8).map (fun i => oddOf (wordN ((s.drop (7 * i)).take 7) * 2))), (0 : Int))) (fun s i => s.length = 8 * i ∧ ∀ b ∈ s, b < 2)
    (fun n s i b hp hg hi => by
      have hb' := hb b (List.mem_of_getElem? hg)
      have hi6 : i ≤ 6 := by omega
      refine ⟨⟨by rw [List.length_append, rowN_len, hp.1]; omega, fun c hc => (List.mem_append.1 hc).elim (hp.2 c) (rowN_lt b 8 c)⟩, ?_⟩
      have e3 : IntKind.u64.wrap (b : Int) = b := wrap_u .u64 rfl (by omega) (by show _ < 2 ^ 64; omega)
      have e4 : iadd .i64 (i : Int) 1 = ((i + 1 : Nat) : Int) := by rw [iadd_i (by omega) (by omega)]; omega
      simp only [L36_0, show (i : Int) < 7 by omega, decide_true, cond_true, geti_nat, nI_get, hg, Option.map_some, e3, e4, G b hb', nI_len, rowN_len, hp.1, Nat.mul_one, beq_self_eq_true, show 8 * i + 8 ≤ 1099511627776 by omega, Bool.and_self, List.length_append, nI_app])
    (fun n s hp => by
      refine ⟨_, ?_, rfl⟩
      rw [hm] at hp
      obtain ⟨hl, hs2⟩ := hp
      simp only [hm, L36_0, show ¬ (((7 : Nat) : Int) < 7) by omega, decide_false, cond_false]
      rw [← hQ, hl]
      have k2 := up_run (L := fun n (l : List Int) i => L36_1 c56 c57 c39 20 (fun (y15 : Nat) (y16 : List Int) =>
            bif (decide ((0 + (y15 * 1)) ≤ (List.length y16))) then
              some ((List.take y15 (List.drop 0 y16)), (0 : Int))
            else none) n 56 l.length i (nI s) l) (g := fun l i => l ++ [((oddOf (wordN ((s.drop (7 * i)).take 7) * 2) : Nat) : Int)]) (fin := fun l => (l, (0 : Int))) (fun l i => l.length = i) 8
        (fun n l i hi hll => by
          refine ⟨by simp [hll], ?_⟩
          have q1 : imul .i64 (7 : Int) (i : Int) = ((7 * i : Nat) : Int) := by rw [imul_i (by omega) (by omega)]; omega
          have q2 : iadd .i64 ((7 * i : Nat) : Int) (7 : Int) = ((7 * i + 7 : Nat) : Int) := by rw [iadd_i (by omega) (by omega)]; omega
          have q6 : iadd .i64 (i : Int) 1 = ((i + 1 : Nat) : Int) := by rw [iadd_i (by omega) (by omega)]; omega
          have hw : ∀ b ∈ (s.drop (7 * i)).take 7, b < 2 := fun b hb => hs2 b (List.mem_of_mem_drop (List.mem_of_mem_take hb))
          have hl7 : ((s.drop (7 * i)).take 7).length = 7 := by rw [List.length_take, List.length_drop]; omega
          have hlt := wordN_lt _ hw
          rw [hl7] at hlt
          have q3 : imul .u64 (2 : Int) ((wordN ((s.drop (7 * i)).take 7) : Nat) : Int) = ((wordN ((s.drop (7 * i)).take 7) * 2 : Nat) : Int) := by
            unfold imul; rw [wrap_u .u64 rfl (by omega) (by show _ < 2 ^ 64; omega)]; omega
          have q4 : IntKind.u8.wrap ((wordN ((s.drop (7 * i)).take 7) * 2 : Nat) : Int) = ((wordN ((s.drop (7 * i)).take 7) * 2 : Nat) : Int) := wrap_u .u8 rfl (by omega) (by show _ < 2 ^ 8; omega)
          have q8 : 7 * i + 7 - 7 * i = 7 := by omega
          simp only [L36_1, show (i : Int) < 8 by omega, decide_true, cond_true, q1, q2, show (0 : Int) ≤ ((7 * i + 7 : Nat) : Int) by omega, show (0 : Int) ≤ ((7 * i : Nat) : Int) by omega, show ((7 * i + 7 : Nat) : Int) ≤ ((56 : Nat) : Int) by omega, Int.toNat_natCast, show ((7 * i : Nat) : Int) ≤ ((7 * i + 7 : Nat) : Int) by omega, Bool.and_self, q8, Nat.mul_one, Nat.zero_add, nI_len, hl, show 7 * i + 7 ≤ 8 * 7 by omega, nI_drop, nI_take, J _ hw (by omega), q3, q4, F _ (show wordN ((s.drop (7 * i)).take 7) * 2 < 256 by omega), hll, beq_self_eq_true, show i + 1 ≤ 1099511627776 by omega, q6, List.length_append, List.length_singleton])
        (fun n l hll => by
          simp [L36_1, hll, List.take_of_length_le])
        8 0 20 [] (by omega) (by omega) rfl
      exact k2) 20 (by omega) [] ⟨rfl, by simp⟩
  refine key.trans ?_
  have hr := num_row m hb 0 0
  rw [show rowN 0 0 = [] from rfl] at hr
  rw [hr, hm]
  unfold spreadN
  congr 3
  apply List.map_congr_left
  intro i hi
  have hi : i < 8 := by simp at hi; omega
  rw [rowN_drop _ _ _ (by omega), rowN_take _ _ _ (by omega), word_rowN, show 0 + 8 * 7 - 7 * i - 7 = 7 * (7 - i) by omega]
  rfl
end
theorem spread_lt {m : List Nat} : ∀ b ∈ spreadN m, b < 256 := fun b hb => by
  obtain ⟨i, _, rfl⟩ := List.mem_map.1 hb
  exact oddOf_lt _ (Nat.mod_lt _ (by decide))
theorem gather_lt {m : List Nat} : ∀ b ∈ gatherN m, b < 256 := fun b hb => by
  obtain ⟨i, _, rfl⟩ := List.mem_map.1 hb
  exact Nat.mod_lt _ (by decide)
def nat8 (l : List Int) : List Nat := l.map Int.toNat
def f24 (l : List Int) : Option (List Int × Int) := if (∀ b ∈ l, 0 ≤ b ∧ b < 256) ∧ l.length ≤ 2 ^ 20 then some (if l.length = 7 then (nI (spreadN (nat8 l)), 0) else ([], 1)) else none
def f37 (l : List Int) : Option (List Int × Int) := if (∀ b ∈ l, 0 ≤ b ∧ b < 256) ∧ l.length ≤ 2 ^ 20 then some (if l.length = 8 then (nI (gatherN (nat8 l)), 0) else ([], 1)) else none
theorem f56_8 (n : Nat) (h : n < 256) : f56 (n : Int) 8 = some (nI (rowN n 8)) := by
  unfold f56
  rw [if_pos ⟨⟨by omega, by omega⟩, by omega, by omega⟩]; rfl
theorem E24 : EntOK FT XT 24 (en24 f24) := ok24 f25 E25 (fun a r h => ⟨20, by
  simp only [f24] at h
  split at h <;> try (cases h; done)
  rename_i hc
  obtain ⟨m, rfl, hm⟩ := allB_nat hc.1
  split at h
  · rename_i hl
    injection h with h; subst h
    unfold nat8; rw [nI_nat]
    exact p24_is f25_nat hm (by rw [← nI_len m]; exact hl)
  · rename_i hl
    injection h with h; subst h
    exact p24_bad hl⟩)
theorem E36 : EntOK FT XT 36 (en36 f24) := ok36 f56 f57 f25 E56 E57 E39 (fun a r h => ⟨20, by
  simp only [f24] at h
  split at h <;> try (cases h; done)
  rename_i hc
  obtain ⟨m, rfl, hm⟩ := allB_nat hc.1
  split at h
  · rename_i hl
    injection h with h; subst h
    unfold nat8; rw [nI_nat]
    exact p36_is f25_nat f56_8 (fun l hl h64 => f57_nI l hl h64) hm (by rw [← nI_len m]; exact hl)
  · rename_i hl
    injection h with h; subst h
    exact p36_bad hl⟩)
/-! ### gathered again -/
theorem half_spread (x : Nat) (hx : x < 2 ^ 56) : halfN ((List.range' 0 8).map (sp x)) = x := by
  have h : ∀ i, sp x i / 2 = x / 2 ^ (7 * (7 - i)) % 2 ^ 7 := fun i => oddOf_half _
  simp only [List.range', List.map_cons, List.map_nil, halfN, List.foldl_cons, List.foldl_nil, h]
  omega
theorem gather_spread {m : List Nat} (hb : ∀ b ∈ m, b < 256) (hm : m.length = 7) : gatherN (spreadN m) = m := by
  have hx : numN m < 2 ^ 56 := by
    have := num_lt m hb 0 0 (by decide)
    rw [hm] at this; exact this
  unfold gatherN
  rw [show halfN (spreadN m) = numN m from half_spread _ hx]
  match m, hm with
  | [b0, b1, b2, b3, b4, b5, b6], _ =>
    have h0 := hb b0 (by simp)
    have h1 := hb b1 (by simp)
    have h2 := hb b2 (by simp)
    have h3 := hb b3 (by simp)
    have h4 := hb b4 (by simp)
    have h5 := hb b5 (by simp)
    have h6 := hb b6 (by simp)
    simp only [List.range', List.map_cons, List.map_nil, ga, numN, List.foldl_cons, List.foldl_nil, List.cons.injEq, and_true]
    refine ⟨?_, ?_, ?_, ?_, ?_, ?_, ?_⟩ <;> omega
end Go.Proofs.YtpiadkdalilmnaaE
