/- Whole numbers of a kind, in plain arithmetic. -/
import Derived.Test.YtgjbkgajkcgdfaaEvP1
namespace Go.Proofs.YtgjbkgajkcgdfaaE
open Go
set_option linter.unusedSimpArgs false
set_option linter.unusedVariables false

theorem wrap_u (k : IntKind) (hk : k.signed = false) {x : Int} (h0 : 0 ≤ x) (h : x < 2 ^ k.bits) : k.wrap x = x := by
  unfold IntKind.wrap
  simp only [hk, Bool.false_and, Bool.false_eq_true, if_false]
  exact Int.emod_eq_of_lt h0 h
theorem wrap_um (k : IntKind) (hk : k.signed = false) (x : Int) : k.wrap x = x % 2 ^ k.bits := by
  unfold IntKind.wrap
  simp only [hk, Bool.false_and, Bool.false_eq_true, if_false]
theorem wrap_u64 (x : Int) : IntKind.u64.wrap x = x % 2 ^ 64 := wrap_um _ rfl _
theorem wrap_u32 (x : Int) : IntKind.u32.wrap x = x % 2 ^ 32 := wrap_um _ rfl _
theorem wrap_u16 (x : Int) : IntKind.u16.wrap x = x % 2 ^ 16 := wrap_um _ rfl _
theorem wrap_u8 (x : Int) : IntKind.u8.wrap x = x % 2 ^ 8 := wrap_um _ rfl _
theorem wrap_i64 {x : Int} (h0 : -2 ^ 63 ≤ x) (h : x < 2 ^ 63) : IntKind.i64.wrap x = x := by
  unfold IntKind.wrap
  simp [IntKind.signed, IntKind.bits]
  omega
theorem ofInt_nat (b n : Nat) (h : n < 2 ^ b) : (BitVec.ofInt b (n : Int)).toNat = n := by
  rw [BitVec.toNat_ofInt]
  have : ((n : Int) % ((2 ^ b : Nat) : Int)) = ((n % 2 ^ b : Nat) : Int) := by norm_cast
  rw [this, Int.toNat_natCast, Nat.mod_eq_of_lt h]
theorem iand_u (k : IntKind) (hk : k.signed = false) (a b : Nat) (ha : a < 2 ^ k.bits) (hb : b < 2 ^ k.bits) : iand k a b = ((a &&& b : Nat) : Int) := by
  unfold iand
  rw [BitVec.toNat_and, ofInt_nat _ _ ha, ofInt_nat _ _ hb]
  exact wrap_u k hk (by omega) (by exact_mod_cast Nat.and_lt_two_pow a hb)
theorem ior_u (k : IntKind) (hk : k.signed = false) (a b : Nat) (ha : a < 2 ^ k.bits) (hb : b < 2 ^ k.bits) : ior k a b = ((a ||| b : Nat) : Int) := by
  unfold ior
  rw [BitVec.toNat_or, ofInt_nat _ _ ha, ofInt_nat _ _ hb]
  exact wrap_u k hk (by omega) (by exact_mod_cast Nat.or_lt_two_pow ha hb)
theorem ixor_u (k : IntKind) (hk : k.signed = false) (a b : Nat) (ha : a < 2 ^ k.bits) (hb : b < 2 ^ k.bits) : ixor k a b = ((a ^^^ b : Nat) : Int) := by
  unfold ixor
  rw [BitVec.toNat_xor, ofInt_nat _ _ ha, ofInt_nat _ _ hb]
  exact wrap_u k hk (by omega) (by exact_mod_cast Nat.xor_lt_two_pow ha hb)
theorem ishl_u (k : IntKind) (hk : k.signed = false) (a n : Nat) (hn : n ≤ k.bits) : ishl k a n = ((a * 2 ^ n % 2 ^ k.bits : Nat) : Int) := by
  unfold ishl
  rw [wrap_um k hk, Int.toNat_natCast, Nat.min_eq_left hn]
  norm_cast
theorem ishr_u (k : IntKind) (a n : Nat) (hn : n ≤ k.bits) : ishr k a n = ((a / 2 ^ n : Nat) : Int) := by
  unfold ishr
  rw [Int.toNat_natCast, Nat.min_eq_left hn]
  rw [Int.fdiv_eq_ediv_of_nonneg _ (by exact_mod_cast Nat.zero_le _)]
  norm_cast
theorem iadd_u (k : IntKind) (hk : k.signed = false) (a b : Nat) : iadd k a b = (((a + b) % 2 ^ k.bits : Nat) : Int) := by
  unfold iadd
  rw [wrap_um k hk]; norm_cast
theorem iadd_i {a b : Int} (h0 : -2 ^ 63 ≤ a + b) (h : a + b < 2 ^ 63) : iadd .i64 a b = a + b := wrap_i64 h0 h
theorem isub_i {a b : Int} (h0 : -2 ^ 63 ≤ a - b) (h : a - b < 2 ^ 63) : isub .i64 a b = a - b := wrap_i64 h0 h
theorem imul_i {a b : Int} (h0 : -2 ^ 63 ≤ a * b) (h : a * b < 2 ^ 63) : imul .i64 a b = a * b := wrap_i64 h0 h
theorem geti_nat {β : Type} (l : List β) (i : Nat) : geti l (i : Int) = l[i]? := by simp [geti]
theorem wf_u {k : IntKind} (hk : k.signed = false) {n : Int} (h : (Lit.int k n).wf = true) : 0 ≤ n ∧ n < 2 ^ k.bits := by
  cases k <;> simp [IntKind.signed] at hk <;> simp [Lit.wf, IntKind.min, IntKind.max, IntKind.signed, IntKind.bits] at h ⊢ <;> omega
theorem wf_i64 {n : Int} (h : (Lit.int .i64 n).wf = true) : -2 ^ 63 ≤ n ∧ n < 2 ^ 63 := by
  simp [Lit.wf, IntKind.min, IntKind.max, IntKind.signed, IntKind.bits] at h ⊢; omega
theorem wf_i16 {n : Int} (h : (Lit.int .i16 n).wf = true) : -2 ^ 15 ≤ n ∧ n < 2 ^ 15 := by
  simp [Lit.wf, IntKind.min, IntKind.max, IntKind.signed, IntKind.bits] at h ⊢; omega
end Go.Proofs.YtgjbkgajkcgdfaaE
