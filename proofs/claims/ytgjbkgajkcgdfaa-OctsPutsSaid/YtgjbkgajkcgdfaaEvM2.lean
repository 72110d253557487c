/- Chapter 1: the number of bytes. -/
import Derived.Test.YtgjbkgajkcgdfaaEvM1
namespace Go.Proofs.YtgjbkgajkcgdfaaE
open Go
set_option linter.unusedVariables false
set_option linter.unusedSimpArgs false

theorem bor {a b : Int} (ha : 0 ≤ a) (ha' : a < 2 ^ 64) (hb : 0 ≤ b) (hb' : b < 2 ^ 64) : (BitVec.ofInt 64 a ||| BitVec.ofInt 64 b).toNat = a.toNat ||| b.toNat := by
  have h1 : (a % 2 ^ 64).toNat = a.toNat := by rw [Int.emod_eq_of_lt ha ha']
  have h2 : (b % 2 ^ 64).toNat = b.toNat := by rw [Int.emod_eq_of_lt hb hb']
  simp only [BitVec.toNat_or, BitVec.toNat_ofInt]
  norm_cast at h1 h2 ⊢
  rw [h1, h2]
def bytes (l : List Int) : Prop := ∀ c ∈ l, 0 ≤ c ∧ c < 256
theorem bytes_cons {c : Int} {l : List Int} (h : bytes (c :: l)) : (0 ≤ c ∧ c < 256) ∧ bytes l := ⟨h c (by simp), fun x hx => h x (by simp [hx])⟩
abbrev stepB : Int → Int → Int := fun n c => n * 256 + c
/-- the high one first: beneath a number whose low bits are none -/
theorem or_low {n c : Int} (k : Nat) (hn : 0 ≤ n) (h0 : 0 ≤ c) (h1 : c < 2 ^ k) : (((n * 2 ^ k).toNat ||| c.toNat : Nat) : Int) = n * 2 ^ k + c := by
  obtain ⟨a, rfl⟩ := Int.eq_ofNat_of_zero_le hn
  obtain ⟨b, rfl⟩ := Int.eq_ofNat_of_zero_le h0
  have hb : b < 2 ^ k := by exact_mod_cast h1
  have := Nat.two_pow_add_eq_or_of_lt hb a
  have e1 : ((a : Int) * 2 ^ k).toNat = 2 ^ k * a := by
    have : ((a : Int) * 2 ^ k) = ((2 ^ k * a : Nat) : Int) := by push_cast; exact Int.mul_comm _ _
    rw [this]; exact Int.toNat_natCast _
  rw [e1]
  simp only [Int.ofNat_eq_natCast, Int.toNat_natCast]
  rw [← this]
  push_cast
  rw [Int.mul_comm]
theorem pow_le {k : Nat} (h : k ≤ 64) : (2 : Int) ^ k ≤ 2 ^ 64 := by
  have : (2 : Nat) ^ k ≤ 2 ^ 64 := Nat.pow_le_pow_right (by decide) h
  exact_mod_cast this
theorem nD_eq : ∀ (l : List Int) (n : Int), bytes l → 0 ≤ n → l.length ≤ 8 → n < 2 ^ (8 * (8 - l.length)) → nD n l = l.foldl stepB n
  | [], n, _, _, _, _ => rfl
  | c :: l, n, hb, hn, hl, hlt => by
    obtain ⟨⟨c0, c1⟩, hb'⟩ := bytes_cons hb
    simp only [List.length_cons] at hl hlt
    have e : 8 * (8 - l.length) = 8 * (8 - (l.length + 1)) + 8 := by omega
    have hp : (2 : Int) ^ (8 * (8 - l.length)) = 2 ^ (8 * (8 - (l.length + 1))) * 256 := by rw [e, Int.pow_add]; rfl
    have hle := pow_le (k := 8 * (8 - l.length)) (by omega)
    have h1 : IntKind.u64.wrap (n * 256) = n * 256 := u64_wrap (by omega) (by omega)
    have h2 : IntKind.u64.wrap c = c := u64_wrap (by omega) (by omega)
    have h3 : IntKind.u64.wrap (n * 256 + c) = n * 256 + c := u64_wrap (by omega) (by omega)
    simp only [nD, h1, h2, h3, List.foldl_cons]
    exact nD_eq l _ hb' (by omega) (by omega) (by omega)
theorem gB_eq : ∀ (l : List Int) (n : Int), bytes l → 0 ≤ n → l.length ≤ 8 → n < 2 ^ (8 * (8 - l.length)) → gB n l = l.foldl stepB n
  | [], n, _, _, _, _ => rfl
  | c :: l, n, hb, hn, hl, hlt => by
    obtain ⟨⟨c0, c1⟩, hb'⟩ := bytes_cons hb
    simp only [List.length_cons] at hl hlt
    have e : 8 * (8 - l.length) = 8 * (8 - (l.length + 1)) + 8 := by omega
    have hp : (2 : Int) ^ (8 * (8 - l.length)) = 2 ^ (8 * (8 - (l.length + 1))) * 256 := by rw [e, Int.pow_add]; rfl
    have hle := pow_le (k := 8 * (8 - l.length)) (by omega)
    have h8 : (2 : Int) ^ 8 = 256 := rfl
    have h1 : IntKind.u64.wrap (n * 2 ^ 8) = n * 2 ^ 8 := u64_wrap (by omega) (by omega)
    have h2 : IntKind.u64.wrap c = c := u64_wrap (by omega) (by omega)
    have h4 : ((BitVec.ofInt 64 (n * 2 ^ 8) ||| BitVec.ofInt 64 c).toNat : Int) = n * 256 + c := by
      rw [bor (by omega) (by omega) (by omega) (by omega), or_low 8 hn c0 (by omega)]; rfl
    have h3 : IntKind.u64.wrap (n * 256 + c) = n * 256 + c := u64_wrap (by omega) (by omega)
    simp only [gB, h1, h2, h4, h3, List.foldl_cons]
    exact gB_eq l _ hb' (by omega) (by omega) (by omega)
theorem gL_eq : ∀ (l : List Int) (i : Nat) (n : Int), bytes l → 0 ≤ n → i + l.length ≤ 8 → n < 2 ^ (8 * i) → gL i n l = n + 2 ^ (8 * i) * l.foldr (fun c n => stepB n c) 0
  | [], i, n, _, _, _, _ => by simp [gL]
  | c :: l, i, n, hb, hn, hl, hlt => by
    obtain ⟨⟨c0, c1⟩, hb'⟩ := bytes_cons hb
    simp only [List.length_cons] at hl
    have hp : (2 : Int) ^ (8 * (i + 1)) = 2 ^ (8 * i) * 256 := by rw [show 8 * (i + 1) = 8 * i + 8 by omega, Int.pow_add]; rfl
    have hle := pow_le (k := 8 * (i + 1)) (by omega)
    have hpos : (0 : Int) < 2 ^ (8 * i) := Int.pow_pos (by decide)
    have hc : c * 2 ^ (8 * i) ≤ 255 * 2 ^ (8 * i) := Int.mul_le_mul_of_nonneg_right (by omega) (by omega)
    have hc0 : 0 ≤ c * 2 ^ (8 * i) := Int.mul_nonneg c0 (by omega)
    have h2 : IntKind.u64.wrap c = c := u64_wrap (by omega) (by omega)
    have h1 : IntKind.u64.wrap (c * 2 ^ (8 * i)) = c * 2 ^ (8 * i) := u64_wrap hc0 (by omega)
    have h4 : ((BitVec.ofInt 64 n ||| BitVec.ofInt 64 (c * 2 ^ (8 * i))).toNat : Int) = c * 2 ^ (8 * i) + n := by
      rw [bor hn (by omega) hc0 (by omega), Nat.or_comm, or_low (8 * i) c0 hn hlt]
    have h3 : IntKind.u64.wrap (c * 2 ^ (8 * i) + n) = c * 2 ^ (8 * i) + n := u64_wrap (by omega) (by omega)
    simp only [gL, h2, h1, h4, h3, List.foldr_cons]
    rw [gL_eq l (i + 1) _ hb' (by omega) (by omega) (by omega), hp]
    generalize l.foldr (fun c n => stepB n c) 0 = r
    generalize (2 : Int) ^ (8 * i) = p
    simp only [stepB, Int.mul_add, Int.mul_assoc, Int.mul_comm, Int.mul_left_comm]
    omega
theorem gO_eq (l : List Int) (t : Bool) (hb : bytes l) (hl : l.length ≤ 8) : gO l t = gR l t := by
  unfold gO gR
  have hpos : ∀ k : Nat, (0 : Int) < 2 ^ k := fun k => Int.pow_pos (by decide)
  cases t with
  | true =>
    simp only [if_true]
    rw [gL_eq l 0 0 hb (by omega) (by omega) (by decide), nD_eq l.reverse 0 (fun c hc => hb c (by simpa using hc)) (by omega) (by simpa using hl) (hpos _), List.foldl_reverse]
    simp
  | false =>
    simp only [Bool.false_eq_true, if_false]
    rw [gB_eq l 0 hb (by omega) hl (hpos _), nD_eq l 0 hb (by omega) hl (hpos _)]
end Go.Proofs.YtgjbkgajkcgdfaaE
