/- The law BitpTurns. -/
import Derived.Test.YtgjbkgajkcgdfaaEvB3
namespace Go.Proofs.YtgjbkgajkcgdfaaE
open Go
set_option linter.unusedSimpArgs false
set_option linter.unusedVariables false
def f26 : Option Bool := some true
theorem E26 : EntOK FT XT 26 (en26 f26) := ⟨rfl, fun v r h => by
  have : r = true := by injection h with h; exact h.symm
  subst this
  exact ⟨200, by kernel_rfl⟩⟩
theorem mod_small {a w : Nat} (h : a < 2 * w) : a % w = if a < w then a else a - w := by
  split
  · rename_i h1; exact Nat.mod_eq_of_lt h1
  · rw [Nat.mod_eq_sub_mod (by omega)]; exact Nat.mod_eq_of_lt (by omega)
theorem turn_bit (x w k i : Nat) (hw : w ≤ 64) (hk : k < w) : (turnN x w k).testBit i = (decide (i < w) && x.testBit ((i + w - k) % w)) := by
  unfold turnN
  rw [Nat.testBit_mod_two_pow, Nat.testBit_or, Nat.testBit_mod_two_pow, Nat.testBit_mul_two_pow, Nat.testBit_div_two_pow, Nat.testBit_mod_two_pow, Nat.testBit_mod_two_pow]
  by_cases hi : i < w
  · rw [mod_small (by omega)]
    by_cases hki : k ≤ i
    · simp [hi, hki, show i < 64 by omega, show i - k < w by omega, show ¬ (i + (w - k) < w) by omega, show ¬ (i + w - k < w) by omega, show i + w - k - w = i - k by omega]
    · simp [hi, hki, show i + (w - k) < w by omega, show i + w - k < w by omega, show i + (w - k) = i + w - k by omega]
  · simp [hi]
theorem turn_turn (x w k j : Nat) (hw : w ≤ 64) (hk : k < w) (hj : j < w) : turnN (turnN x w k) w j = turnN x w ((k + j) % w) := by
  have hm : (k + j) % w < w := Nat.mod_lt _ (by omega)
  apply Nat.eq_of_testBit_eq
  intro i
  rw [turn_bit _ w j i hw hj, turn_bit _ w k _ hw hk, turn_bit x w _ i hw hm]
  by_cases hi : i < w
  · have h1 : (i + w - j) % w < w := Nat.mod_lt _ (by omega)
    simp only [hi, decide_true, Bool.true_and, h1]
    congr 1
    rw [mod_small (show i + w - j < 2 * w by omega), mod_small (show k + j < 2 * w by omega)]
    split <;> split <;> (rw [mod_small (by omega), mod_small (by omega)]; split <;> split <;> omega)
  · simp [hi]
theorem turn_lt (x w k : Nat) (hw : w ≤ 64) : turnN x w k < 2 ^ 64 := by
  have h1 : turnN x w k < 2 ^ w := Nat.mod_lt _ (Nat.two_pow_pos w)
  exact Nat.lt_of_lt_of_le h1 (Nat.pow_le_pow_right (by omega) hw)
theorem and63 (x : Int) (h0 : -2 ^ 63 ≤ x) (h : x < 2 ^ 63) : iand .i64 x 63 = x % 64 := by
  unfold iand
  rw [BitVec.toNat_and, show (BitVec.ofInt IntKind.i64.bits 63).toNat = 2 ^ 6 - 1 from rfl, Nat.and_two_pow_sub_one_eq_mod, BitVec.toNat_ofInt, show ((2 ^ IntKind.i64.bits : Nat) : Int) = 2 ^ 64 from rfl]
  rw [wrap_i64 (by omega) (by omega)]
  omega
theorem both (y m : Nat) : y / 2 ^ m * 2 ^ m ||| y % 2 ^ m = y := by
  rw [Nat.mul_comm, ← Nat.two_pow_add_eq_or_of_lt (Nat.mod_lt _ (Nat.two_pow_pos m))]
  exact Nat.div_add_mod y (2 ^ m)
def f13 (x w : Int) (l : List Int) : Option Bool :=
  if isW x ∧ (-2 ^ 63 ≤ w ∧ w < 2 ^ 63) ∧ l.length = 2 ∧ (∀ b ∈ l, -2 ^ 15 ≤ b ∧ b < 2 ^ 15) then some true else none
/-! the law's text, whatever its callees are -/
section
variable (c29 : Int → Int → Int → Option (Int × Int)) (c26 : Option Bool) (c31 : Int → Int → Int → Option (Int × Int × Int)) (c35 : Int → Int → Option Int)
theorem p13_bad {a0 a1 b0 b1 : Int} (F1 : c29 a0 a1 b0 = some (0, 1)) (F2 : c29 (0 : Int) a1 b1 = some (0, 1)) (F3 : c29 a0 a1 (b0 + b1) = some (0, 1)) (F7 : c26 = some true)
    (w0 : IntKind.i64.wrap b0 = b0) (w1 : IntKind.i64.wrap b1 = b1) (ws : iadd .i64 b0 b1 = b0 + b1) (hz : iadd .u64 (iadd .u64 0 0) 0 = 0) : p13 c29 c26 c31 c35 0 a0 a1 [b0, b1] = some true := by
  rw [p13.eq_def]
  simp [w0, w1, ws, F1, F2, F3, F7, hz]
theorem p13_far {a0 a1 b0 b1 t1 t2 a : Int} (F1 : c29 a0 a1 b0 = some (t1, 0)) (F2 : c29 t1 a1 b1 = some (t2, 0)) (F3 : c29 a0 a1 (b0 + b1) = some (t2, 0)) (F4 : c31 a0 a1 a = some (0, 0, 1)) (F7 : c26 = some true)
    (w0 : IntKind.i64.wrap b0 = b0) (w1 : IntKind.i64.wrap b1 = b1) (ws : iadd .i64 b0 b1 = b0 + b1) (hat : iand .i64 b0 63 = a) (hgt : a > a1) : p13 c29 c26 c31 c35 0 a0 a1 [b0, b1] = some true := by
  rw [p13.eq_def]
  simp [w0, w1, ws, F1, F2, F3, hat, F4, hgt, F7]
theorem p13_in {a0 a1 b0 b1 t1 t2 a u1 u3 u4 d : Int} (F1 : c29 a0 a1 b0 = some (t1, 0)) (F2 : c29 t1 a1 b1 = some (t2, 0)) (F3 : c29 a0 a1 (b0 + b1) = some (t2, 0)) (F4 : c31 a0 a1 a = some (u1, u3, 0)) (F5 : c35 a0 a1 = some u4) (F7 : c26 = some true)
    (w0 : IntKind.i64.wrap b0 = b0) (w1 : IntKind.i64.wrap b1 = b1) (ws : iadd .i64 b0 b1 = b0 + b1) (hat : iand .i64 b0 63 = a) (hgt : ¬ a > a1) (hsub : isub .i64 a1 a = d) (hd : 0 ≤ d ∧ d ≤ 64) (h64 : d = 64 → u3 = a0) (ho : ior .u64 (ishl .u64 u1 d) u3 = u4) : p13 c29 c26 c31 c35 0 a0 a1 [b0, b1] = some true := by
  rw [p13.eq_def]
  simp only [List.getElem?_cons_zero, List.getElem?_cons_succ, w0, w1, ws, F1, F2, F3, hat, F4, bne_self_eq_false, cond_false, cond_true, beq_self_eq_true, hgt, decide_false, hsub]
  by_cases h : d = 64
  · subst h
    simp [h64 rfl, F7]
  · have hlt : d < 64 := by omega
    have hnn : ¬ d < 0 := by omega
    simp [h, hlt, hnn, F5, ho, F7]
end
theorem P13 (a0 a1 b0 b1 : Int) (hx : isW a0) (hwr : -2 ^ 63 ≤ a1 ∧ a1 < 2 ^ 63) (hb0 : -2 ^ 15 ≤ b0 ∧ b0 < 2 ^ 15) (hb1 : -2 ^ 15 ≤ b1 ∧ b1 < 2 ^ 15) : p13 f29 f26 f31 f35 0 a0 a1 [b0, b1] = some true := by
  have w0 : IntKind.i64.wrap b0 = b0 := wrap_i64 (by omega) (by omega)
  have w1 : IntKind.i64.wrap b1 = b1 := wrap_i64 (by omega) (by omega)
  have ws : iadd .i64 b0 b1 = b0 + b1 := iadd_i (by omega) (by omega)
  obtain ⟨x, rfl⟩ := nat_of hx.1
  have hx2 : x < 2 ^ 64 := by have := hx.2; exact_mod_cast this
  have h0w : isW (0 : Int) := ⟨by omega, by omega⟩
  by_cases hw : wideB a1 = true
  · have hw' := wideB_iff.1 hw
    obtain ⟨w, rfl⟩ := nat_of (show 0 ≤ a1 by omega)
    have hw2 : w ≤ 64 := by omega
    have hne : ¬ ((w : Int) = 0) := by omega
    have e0 := Int.emod_nonneg b0 hne
    have e1 := Int.emod_nonneg b1 hne
    have e2 := Int.emod_lt_of_pos b0 (show (0 : Int) < w by omega)
    have e3 := Int.emod_lt_of_pos b1 (show (0 : Int) < w by omega)
    obtain ⟨k, hk⟩ := nat_of e0
    obtain ⟨j, hj⟩ := nat_of e1
    have hsum : (b0 + b1) % (w : Int) = ((k + j) % w : Nat) := by
      rw [Int.add_emod, hk, hj]; norm_cast
    have hT : isW ((turnN x w k : Nat) : Int) := ⟨by omega, by exact_mod_cast turn_lt x w k hw2⟩
    have hat := and63 b0 (by omega) (by omega)
    have ha0 := Int.emod_nonneg b0 (show (64 : Int) ≠ 0 by omega)
    have ha1 := Int.emod_lt_of_pos b0 (show (0 : Int) < 64 by omega)
    obtain ⟨a, ha⟩ := nat_of ha0
    rw [ha] at hat
    have F1 : f29 (x : Int) w b0 = some (((turnN x w k : Nat) : Int), 0) := by simp only [f29, if_pos hx, hw, if_true, Int.toNat_natCast, hk]
    have F2 : f29 ((turnN x w k : Nat) : Int) w b1 = some (((turnN x w ((k + j) % w) : Nat) : Int), 0) := by
      simp only [f29, if_pos hT, hw, if_true, Int.toNat_natCast, hj, turn_turn x w k j hw2 (show k < w by omega) (show j < w by omega)]
    have F3 : f29 (x : Int) w (b0 + b1) = some (((turnN x w ((k + j) % w) : Nat) : Int), 0) := by simp only [f29, if_pos hx, hw, if_true, Int.toNat_natCast, hsum]
    by_cases hle : (a : Int) ≤ w
    · have hsub : isub .i64 (w : Int) (a : Int) = ((w - a : Nat) : Int) := by rw [isub_i (by omega) (by omega)]; omega
      have hs2 : ((w : Int) - (a : Int)).toNat = w - a := by omega
      have hm : x % 2 ^ w < 2 ^ w := Nat.mod_lt _ (Nat.two_pow_pos w)
      have h2w : 2 ^ w ≤ 2 ^ 64 := Nat.pow_le_pow_right (by omega) hw2
      have hp : x % 2 ^ w / 2 ^ (w - a) * 2 ^ (w - a) ≤ x % 2 ^ w := Nat.div_mul_le_self _ _
      have hq : x % 2 ^ w % 2 ^ (w - a) ≤ x % 2 ^ w := Nat.mod_le _ _
      have es := ishl_u .u64 rfl (x % 2 ^ w / 2 ^ (w - a)) (w - a) (by show _ ≤ 64; omega)
      rw [show (2 : Nat) ^ IntKind.u64.bits = 2 ^ 64 from rfl, Nat.mod_eq_of_lt (show x % 2 ^ w / 2 ^ (w - a) * 2 ^ (w - a) < 2 ^ 64 by omega)] at es
      have eo := ior_u .u64 rfl (x % 2 ^ w / 2 ^ (w - a) * 2 ^ (w - a)) (x % 2 ^ w % 2 ^ (w - a)) (by show _ < 2 ^ 64; omega) (by show _ < 2 ^ 64; omega)
      rw [both] at eo
      have F4 : f31 (x : Int) w a = some (((x % 2 ^ w / 2 ^ (w - a) : Nat) : Int), ((x % 2 ^ w % 2 ^ (w - a) : Nat) : Int), 0) := by
        simp only [f31, if_pos hx, if_pos (show wideB (w : Int) = true ∧ 0 ≤ (a : Int) ∧ (a : Int) ≤ w from ⟨hw, by omega, hle⟩), Int.toNat_natCast, hs2]
      have F5 : f35 (x : Int) (w : Int) = some ((x % 2 ^ w : Nat) : Int) := by simp only [f35, if_pos (And.intro hx (show (0 : Int) ≤ w by omega)), Int.toNat_natCast]
      have F6 : w - a = 64 → ((x % 2 ^ w % 2 ^ (w - a) : Nat) : Int) = x := fun h64 => by
        have e1 : w = 64 := by omega
        rw [e1] at h64 ⊢
        rw [h64, Nat.mod_mod, Nat.mod_eq_of_lt hx2]
      exact p13_in f29 f26 f31 f35 F1 F2 F3 F4 F5 rfl w0 w1 ws hat (by omega) hsub (by omega) (fun h => F6 (by omega)) (by rw [es, eo])
    · have F4 : f31 (x : Int) w a = some (0, 0, 1) := by
        simp only [f31, if_pos hx, if_neg (show ¬ (wideB (w : Int) = true ∧ 0 ≤ (a : Int) ∧ (a : Int) ≤ w) from fun h => hle h.2.2)]
      have hgt : (a : Int) > w := by omega
      exact p13_far f29 f26 f31 f35 F1 F2 F3 F4 rfl w0 w1 ws hat hgt
  · have F1 : f29 (x : Int) a1 b0 = some (0, 1) := by simp only [f29, if_pos hx, hw, Bool.false_eq_true, if_false]
    have F2 : f29 (0 : Int) a1 b1 = some (0, 1) := by simp only [f29, if_pos h0w, hw, Bool.false_eq_true, if_false]
    have F3 : f29 (x : Int) a1 (b0 + b1) = some (0, 1) := by simp only [f29, if_pos hx, hw, Bool.false_eq_true, if_false]
    exact p13_bad f29 f26 f31 f35 F1 F2 F3 rfl w0 w1 ws (by decide)
theorem E13 : EntOK FT XT 13 (en13 f13) := ok13 f29 f26 f31 f35 E29 E26 E31 E35 (fun a0 a1 a2 r h => ⟨0, by
  simp only [f13] at h
  split at h <;> try (cases h; done)
  rename_i hc
  obtain ⟨hx, hwr, hl, hb⟩ := hc
  injection h with h; subst h
  match a2, hl with
  | [b0, b1], _ => exact P13 a0 a1 b0 b1 hx hwr (hb b0 (by simp)) (hb b1 (by simp))⟩)
theorem law13 (z0 z1 : Int) (z2 : List Int) (h0 : (Lit.int .u64 z0).wf = true) (h1 : (Lit.int .i64 z1).wf = true) (h2 : ∀ x ∈ z2, (Lit.int .i16 x).wf = true) (hs : z2.length = 2) :
    Ans FT XT 13 (encL [Sh.int .u64, Sh.int .i64, Sh.ar .i16] (z0, (z1, (z2, ())))) [] (.bool true) [] :=
  E13.2 (z0, (z1, (z2, ()))) true (if_pos ⟨wf_u rfl h0, wf_i64 h1, hs, fun b hb => wf_i16 (h2 b hb)⟩)
end Go.Proofs.YtgjbkgajkcgdfaaE
