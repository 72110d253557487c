/- Chapter 3: the program's words. -/
import Derived.Test.YtgjbkgajkcgdfaaEvHA
import Derived.Test.YtgjbkgajkcgdfaaEvMa
namespace Go.Proofs.YtgjbkgajkcgdfaaE
open Go
set_option linter.unusedSimpArgs false
set_option linter.unusedVariables false

/-- is it a number of 64 bits? -/
def isW (x : Int) : Prop := 0 ≤ x ∧ x < 2 ^ 64
instance (x : Int) : Decidable (isW x) := inferInstanceAs (Decidable (_ ∧ _))
def wideB (w : Int) : Bool := decide (1 ≤ w) && decide (w ≤ 64)
theorem wideB_iff {w : Int} : wideB w = true ↔ 1 ≤ w ∧ w ≤ 64 := by simp [wideB]
theorem nat_of {x : Int} (h : 0 ≤ x) : ∃ n : Nat, x = n := ⟨x.toNat, by omega⟩
def f53 (w : Int) : Option Bool := some (wideB w)
theorem E53 : EntOK FT XT 53 (en53 f53) := ok53 (fun a0 r h => ⟨0, by
  simp only [f53, Option.some.injEq] at h
  subst h
  unfold p53 wideB
  by_cases h1 : a0 ≥ 1
  · simp [h1]
  · simp [h1]⟩)
def f58 (w : Int) : Option Int := if 1 ≤ w ∧ w ≤ 64 then some ((2 ^ w.toNat - 1 : Nat) : Int) else none
theorem all58 : ((List.range 65).all fun n => n == 0 || p58 0 (n : Nat) == some ((2 ^ n - 1 : Nat) : Int)) = true := by decide +kernel
theorem E58 : EntOK FT XT 58 (en58 f58) := ok58 (fun a0 r h => ⟨0, by
  simp only [f58] at h
  split at h <;> try (cases h; done)
  rename_i hw
  injection h with h; subst h
  obtain ⟨n, rfl⟩ := nat_of (show 0 ≤ a0 by omega)
  have h1 := List.all_eq_true.1 all58 n (by simp; omega)
  simp only [Bool.or_eq_true, beq_iff_eq] at h1
  rcases h1 with h1 | h1
  · omega
  · simpa using h1⟩)
theorem irem_i (a b : Int) : irem a b = a.tmod b := rfl
/-- a word turned -/
def turnN (x w k : Nat) : Nat := ((x % 2 ^ w) * 2 ^ k % 2 ^ 64 ||| (x % 2 ^ w) / 2 ^ (w - k)) % 2 ^ w
def f29 (x w n : Int) : Option (Int × Int) :=
  if isW x then (if wideB w then some ((turnN x.toNat w.toNat (n % w).toNat : Nat), 0) else some (0, 1)) else none
theorem mask_and (x w : Nat) (hx : x < 2 ^ 64) (h1 : 1 ≤ w) (h : w ≤ 64) : iand .u64 (x : Int) ((2 ^ w - 1 : Nat) : Int) = ((x % 2 ^ w : Nat) : Int) := by
  have : 2 ^ w ≤ 2 ^ 64 := Nat.pow_le_pow_right (by omega) h
  have h2 : 0 < 2 ^ w := Nat.two_pow_pos w
  rw [iand_u .u64 rfl _ _ hx (by show _ < 2 ^ 64; omega), Nat.and_two_pow_sub_one_eq_mod]
theorem E29 : EntOK FT XT 29 (en29 f29) := ok29 f53 f58 E53 E58 (fun a0 a1 a2 r h => ⟨0, by
  simp only [f29] at h
  split at h <;> try (cases h; done)
  rename_i hx
  unfold p29
  split at h
  · rename_i hw
    injection h with h; subst h
    obtain ⟨x, rfl⟩ := nat_of hx.1
    have hx2 : x < 2 ^ 64 := by have := hx.2; exact_mod_cast this
    have hw' := wideB_iff.1 hw
    obtain ⟨w, rfl⟩ := nat_of (show 0 ≤ a1 by omega)
    have hw1 : 1 ≤ w := by omega
    have hw2 : w ≤ 64 := by omega
    have hne : ¬ ((w : Int) = 0) := by omega
    have fin : ∀ k : Nat, k < w → iand .u64 (ior .u64 (ishl .u64 (iand .u64 (x : Int) ((2 ^ w - 1 : Nat) : Int)) (k : Int)) (ishr .u64 (iand .u64 (x : Int) ((2 ^ w - 1 : Nat) : Int)) (isub .i64 (w : Int) (k : Int)))) ((2 ^ w - 1 : Nat) : Int) = ((turnN x w k : Nat) : Int) := by
      intro k hk
      have hsub : isub .i64 (w : Int) (k : Int) = ((w - k : Nat) : Int) := by rw [isub_i (by omega) (by omega)]; omega
      have hm : x % 2 ^ w < 2 ^ 64 := by
        have : 2 ^ w ≤ 2 ^ 64 := Nat.pow_le_pow_right (by omega) hw2
        have := Nat.mod_lt x (Nat.two_pow_pos w); omega
      rw [hsub, mask_and x w hx2 hw1 hw2, ishl_u .u64 rfl _ _ (by show _ ≤ 64; omega), ishr_u .u64 _ _ (by show _ ≤ 64; omega)]
      have h3 : x % 2 ^ w * 2 ^ k % 2 ^ 64 < 2 ^ 64 := Nat.mod_lt _ (by omega)
      have h4 : x % 2 ^ w / 2 ^ (w - k) < 2 ^ 64 := Nat.lt_of_le_of_lt (Nat.div_le_self _ _) hm
      rw [show (2 : Nat) ^ IntKind.u64.bits = 2 ^ 64 from rfl, ior_u .u64 rfl _ _ h3 h4]
      have h5 := Nat.or_lt_two_pow h3 h4
      rw [mask_and _ w h5 hw1 hw2]; rfl
    have hmask : f58 (w : Int) = some ((2 ^ w - 1 : Nat) : Int) := by simp only [f58, if_pos hw', Int.toNat_natCast]
    have hnn : ∀ k : Nat, k < w → ¬ (isub .i64 (w : Int) (k : Int) < 0) := fun k hk => by rw [isub_i (by omega) (by omega)]; omega
    have htm := Int.tmod_eq_emod (a := a2) (b := w)
    have hem0 := Int.emod_nonneg a2 hne
    have hem1 := Int.emod_lt_of_pos a2 (show (0 : Int) < w by omega)
    obtain ⟨k, hk⟩ := nat_of hem0
    have hkw : k < w := by omega
    simp only [f53, hw, Bool.not_true, cond_false, hmask, beq_iff_eq, hne, beq_eq_false_iff_ne.2 hne, irem_i]
    rw [hk] at htm ⊢
    simp only [Int.toNat_natCast]
    by_cases hneg : a2.tmod w < 0
    · have e : a2.tmod w = k - w := by
        rw [htm] at hneg ⊢
        split at hneg
        · omega
        · rename_i hh; rw [if_neg hh]; simp
      have ea : iadd .i64 (a2.tmod w) (w : Int) = k := by rw [iadd_i (by omega) (by omega)]; omega
      simp only [hneg, decide_true, cond_true, ea, show ¬ ((k : Int) < 0) by omega, decide_false, cond_false, hnn k hkw, fin k hkw]
    · have e : a2.tmod w = k := by
        rw [htm] at hneg ⊢
        split at hneg
        · rename_i hh; rw [if_pos hh]; simp
        · rename_i hh; simp at hneg; omega
      simp only [e, show ¬ ((k : Int) < 0) by omega, decide_false, cond_false, hnn k hkw, fin k hkw]
  · rename_i hw
    injection h with h; subst h
    simp only [f53, hw, Bool.not_false, cond_true]⟩)
def f31 (x w at_ : Int) : Option (Int × Int × Int) :=
  if isW x then
    (if wideB w ∧ 0 ≤ at_ ∧ at_ ≤ w then some ((x.toNat % 2 ^ w.toNat / 2 ^ (w - at_).toNat : Nat), (x.toNat % 2 ^ w.toNat % 2 ^ (w - at_).toNat : Nat), 0) else some (0, 0, 1))
  else none
theorem and_not_shift (y m : Nat) (hy : y < 2 ^ 64) (hm : m ≤ 64) : iandn .u64 (y : Int) ((y / 2 ^ m * 2 ^ m % 2 ^ 64 : Nat) : Int) = ((y % 2 ^ m : Nat) : Int) := by
  have h1 : y / 2 ^ m * 2 ^ m ≤ y := Nat.div_mul_le_self y (2 ^ m)
  rw [Nat.mod_eq_of_lt (by omega)]
  unfold iandn
  rw [BitVec.toNat_and, BitVec.toNat_not, ofInt_nat IntKind.u64.bits y hy, ofInt_nat IntKind.u64.bits _ (show y / 2 ^ m * 2 ^ m < 2 ^ IntKind.u64.bits from by show _ < 2 ^ 64; omega)]
  have h2 : y &&& (2 ^ IntKind.u64.bits - 1 - y / 2 ^ m * 2 ^ m) = y % 2 ^ m := by
    apply Nat.eq_of_testBit_eq
    intro i
    rw [Nat.testBit_and, Nat.testBit_mod_two_pow, show IntKind.u64.bits = 64 from rfl]
    have h3 : 2 ^ 64 - 1 - y / 2 ^ m * 2 ^ m = 2 ^ 64 - (y / 2 ^ m * 2 ^ m + 1) := by omega
    rw [h3, Nat.testBit_two_pow_sub_succ (by omega), Nat.testBit_mul_two_pow, Nat.testBit_div_two_pow]
    by_cases hi : i < 64
    · by_cases him : i < m
      · simp [hi, him, show ¬ m ≤ i by omega]
      · simp [hi, him, show m ≤ i by omega, show i - m + m = i by omega]
    · rw [Nat.testBit_lt_two_pow (Nat.lt_of_lt_of_le hy (Nat.pow_le_pow_right (by omega) (show 64 ≤ i by omega)))]
      simp
  rw [h2]
  exact wrap_u .u64 rfl (by omega) (by
    have := Nat.mod_le y (2 ^ m)
    show _ < 2 ^ 64
    have h4 : y % 2 ^ m < 2 ^ 64 := by omega
    exact_mod_cast h4)
theorem E31 : EntOK FT XT 31 (en31 f31) := ok31 f53 f58 E53 E58 (fun a0 a1 a2 r h => ⟨0, by
  simp only [f31] at h
  split at h <;> try (cases h; done)
  rename_i hx
  unfold p31
  by_cases hw : wideB a1 = true
  · have hw' := wideB_iff.1 hw
    by_cases h0 : a2 < 0
    · rw [if_neg (by omega)] at h
      injection h with h; subst h
      simp [f53, hw, h0]
    · by_cases h1 : a2 > a1
      · rw [if_neg (by omega)] at h
        injection h with h; subst h
        simp [f53, hw, h0, h1]
      · rw [if_pos ⟨hw, by omega, by omega⟩] at h
        injection h with h; subst h
        obtain ⟨x, rfl⟩ := nat_of hx.1
        have hx2 : x < 2 ^ 64 := by have := hx.2; exact_mod_cast this
        obtain ⟨w, rfl⟩ := nat_of (show 0 ≤ a1 by omega)
        obtain ⟨k, rfl⟩ := nat_of (show 0 ≤ a2 by omega)
        have hw1 : 1 ≤ w := by omega
        have hw2 : w ≤ 64 := by omega
        have hmask : f58 (w : Int) = some ((2 ^ w - 1 : Nat) : Int) := by simp only [f58, if_pos hw', Int.toNat_natCast]
        have hsub : isub .i64 (w : Int) (k : Int) = ((w - k : Nat) : Int) := by rw [isub_i (by omega) (by omega)]; omega
        have hs2 : ((w : Int) - (k : Int)).toNat = w - k := by omega
        have hm : x % 2 ^ w < 2 ^ 64 := by
          have : 2 ^ w ≤ 2 ^ 64 := Nat.pow_le_pow_right (by omega) hw2
          have := Nat.mod_lt x (Nat.two_pow_pos w); omega
        have e1 := ishr_u .u64 (x % 2 ^ w) (w - k) (by show _ ≤ 64; omega)
        have e2 := ishl_u .u64 rfl (x % 2 ^ w / 2 ^ (w - k)) (w - k) (by show _ ≤ 64; omega)
        have e3 := and_not_shift (x % 2 ^ w) (w - k) hm (by omega)
        rw [show (2 : Nat) ^ IntKind.u64.bits = 2 ^ 64 from rfl] at e2
        simp only [f53, hw, Bool.not_true, cond_false, hmask, h0, h1, decide_false, hsub, show ¬ (((w - k : Nat) : Int) < 0) by omega, mask_and x w hx2 hw1 hw2, e1, e2, e3, Int.toNat_natCast, hs2]
  · rw [if_neg (fun hh => hw hh.1)] at h
    injection h with h; subst h
    simp [f53, hw]⟩)
def f35 (x w : Int) : Option Int := if isW x ∧ 0 ≤ w then some ((x.toNat % 2 ^ w.toNat : Nat) : Int) else none
theorem E35 : EntOK FT XT 35 (en35 f35) := ok35 (fun a0 a1 r h => ⟨0, by
  simp only [f35] at h
  split at h <;> try (cases h; done)
  rename_i hx
  injection h with h; subst h
  obtain ⟨x, rfl⟩ := nat_of hx.1.1
  have hx2 : x < 2 ^ 64 := by have := hx.1.2; exact_mod_cast this
  obtain ⟨w, rfl⟩ := nat_of hx.2
  unfold p35
  simp only [Int.toNat_natCast]
  by_cases hw : (w : Int) ≥ 64
  · have : x % 2 ^ w = x := Nat.mod_eq_of_lt (Nat.lt_of_lt_of_le hx2 (Nat.pow_le_pow_right (by omega) (by omega)))
    simp [hw, this]
  · have e := ishl_u .u64 rfl 1 w (by show _ ≤ 64; omega)
    have h2 : 2 ^ w < 2 ^ 64 := Nat.pow_lt_pow_right (by omega) (by omega)
    rw [show (2 : Nat) ^ IntKind.u64.bits = 2 ^ 64 from rfl, Nat.one_mul, Nat.mod_eq_of_lt h2] at e
    have e' : ishl .u64 1 (w : Int) = ((2 ^ w : Nat) : Int) := e
    have hp := Nat.two_pow_pos w
    have e3 : irem (x : Int) ((2 ^ w : Nat) : Int) = ((x % 2 ^ w : Nat) : Int) := by
      show (x : Int).tmod _ = _
      rw [Int.tmod_eq_emod_of_nonneg (by omega)]; norm_cast
    have hne : ¬ (((2 ^ w : Nat) : Int) = 0) := by omega
    simp only [e', e3, hw, decide_false, cond_false, show ¬ ((w : Int) < 0) by omega, beq_eq_false_iff_ne.2 hne]⟩)
end Go.Proofs.YtgjbkgajkcgdfaaE
