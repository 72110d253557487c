/- The first sign of bytes, and how many texts have: what the program's inner functions answer, without the builder. -/
import Derived.Test.YtchoafdpckknmaaDoorEvHU0
import Derived.Test.YtchoafdpckknmaaDoorEvLU0
import Derived.Test.YtchoafdpckknmaaDoorEvU8
import Derived.Test.YtchoafdpckknmaaDoorEvN
import Derived.KernelRfl
namespace Go.Proofs.YtchoafdpckknmaaDoorE.U0
open Go
set_option linter.unusedSimpArgs false
set_option linter.unusedVariables false
set_option maxRecDepth 4000
def h21 (l : List Int) (b : Bool) := p21 20 l b
theorem E21 : EntOK FT XT 21 (en21 h21) := ok21 fun _ _ _ h => ⟨20, h⟩
theorem get2 {a b : Nat} (ha : a < 256) (hb : b < 256) : h21 [(a : Int), (b : Int)] true = some (((a + 256 * b : Nat) : Int), 0) := by
  have e : h21 [(a : Int), (b : Int)] true = some (ior .u64 (ior .u64 0 (ishl .u64 (IntKind.wrap .u64 (a : Int)) (imul .i64 8 0))) (ishl .u64 (IntKind.wrap .u64 (b : Int)) (imul .i64 8 1)), 0) := by kernel_rfl
  have o : b * 256 ||| a = b * 256 + a := by
    have := Nat.shiftLeft_add_eq_or_of_lt (i := 8) ha b
    rw [Nat.shiftLeft_eq] at this
    exact this.symm
  rw [e, w64 (by omega), w64 (by omega), show imul .i64 8 0 = ((0 : Nat) : Int) from rfl, show imul .i64 8 1 = ((8 : Nat) : Int) from rfl, show (0 : Int) = ((0 : Nat) : Int) from rfl]
  rw [shl64 (by omega), shl64 (by omega), Nat.pow_zero, Nat.mul_one, Nat.mod_eq_of_lt (by omega), Nat.mod_eq_of_lt (by omega), or64 (by omega) (by omega), Nat.zero_or, or64 (by omega) (by omega), Nat.or_comm, show (2 : Nat) ^ 8 = 256 from rfl, o, Nat.add_comm, Nat.mul_comm]
/-- a list's first unit -/
def unit2 (l : List Nat) : Int := match l with | a :: b :: _ => ((a + 256 * b : Nat) : Int) | _ => -1
def h417 (l : List Int) := p417 h21 0 l
theorem E417 : EntOK FT XT 417 (en417 h417) := ok417 h21 E21 fun _ _ h => ⟨0, h⟩
theorem h417_is {l : List Nat} (hb : bel 256 l) : h417 (nI l) = some (unit2 l) := by
  match l, hb with
  | [], _ => rfl
  | [a], _ => rfl
  | a :: b :: r, hb =>
    have ha : a < 256 := hb a (by simp)
    have hb' : b < 256 := hb b (by simp)
    unfold h417 p417
    have hl : (nI (a :: b :: r)).length = r.length + 2 := by rw [nI_len]; rfl
    have ht : (nI (a :: b :: r)).take 2 = [(a : Int), (b : Int)] := by rw [nI_take]; rfl
    rw [hl, ht, get2 ha hb']
    simp only [show ¬ (((r.length + 2 : Nat) : Int) < 2) by omega, show ((2 : Int) ≤ ((r.length + 2 : Nat) : Int)) by omega, decide_true, decide_false, cond_true, cond_false]
    congr 1
    exact wrap_i32 (by omega) (by omega)
theorem unit2_lt {l : List Nat} (hb : bel 256 l) : -1 ≤ unit2 l ∧ unit2 l < 65536 := by
  match l, hb with
  | [], _ => decide
  | [a], _ => show (-1 : Int) ≤ -1 ∧ (-1 : Int) < 65536; omega
  | a :: b :: r, hb =>
    have ha : a < 256 := hb a (by simp)
    have hb' : b < 256 := hb b (by simp)
    show -1 ≤ ((a + 256 * b : Nat) : Int) ∧ ((a + 256 * b : Nat) : Int) < 65536
    omega
theorem unit2_neg {l : List Nat} (h : l.length < 2) : unit2 l = -1 := by
  match l, h with
  | [], _ => rfl
  | [a], _ => rfl
theorem unit2_pos {l : List Nat} (h : 2 ≤ l.length) : 0 ≤ unit2 l := by
  match l, h with
  | a :: b :: r, _ => show (0 : Int) ≤ ((a + 256 * b : Nat) : Int); omega
/-- a list's first sign, and how many bytes it has -/
def sg (l : List Nat) : Int × Int :=
  if unit2 l < 55296 ∨ 57344 ≤ unit2 l then (unit2 l, 2)
  else if 56320 ≤ unit2 l ∨ unit2 (l.drop 2) < 56320 ∨ 57344 ≤ unit2 (l.drop 2) then (0, 0)
  else (65536 + (unit2 l - 55296) * 1024 + unit2 (l.drop 2) - 56320, 4)
def h413 (l : List Int) := p413 h417 0 l
theorem E413 : EntOK FT XT 413 (en413 h413) := ok413 h417 E417 fun _ _ h => ⟨0, h⟩
theorem h413_is {l : List Nat} (hb : bel 256 l) (h2 : 2 ≤ l.length) : h413 (nI l) = some (sg l) := by
  have h0 := unit2_pos h2
  have h1 := unit2_lt hb
  have hb2 : bel 256 (l.drop 2) := bel_drop hb
  have h3 := unit2_lt hb2
  unfold h413 p413 sg
  rw [h417_is hb, nI_drop, h417_is hb2, nI_len]
  generalize unit2 l = c at *
  generalize unit2 (l.drop 2) = d at *
  by_cases c1 : c < 55296
  · simp only [c1, decide_true, cond_true, true_or, if_true]
  by_cases c2 : 57344 ≤ c
  · simp only [c1, decide_false, cond_false, ge_iff_le, c2, decide_true, cond_true, or_true, if_true]
  rw [if_neg (by omega)]
  simp only [c1, ge_iff_le, c2, decide_false, cond_false, show ((2 : Int) ≤ ((l.length : Nat) : Int)) by omega, decide_true, cond_true]
  by_cases c3 : 56320 ≤ c
  · simp only [c3, decide_true, cond_true, true_or, if_true]
  by_cases c4 : d < 56320
  · simp only [c3, c4, decide_true, decide_false, cond_true, cond_false, true_or, or_true, if_true]
  by_cases c5 : 57344 ≤ d
  · simp only [c3, c4, c5, decide_true, decide_false, cond_true, cond_false, true_or, or_true, if_true]
  rw [if_neg (by omega)]
  simp only [c3, c4, c5, decide_false, cond_false]
  have e1 : isub .i32 c 55296 = c - 55296 := wrap_i32 (by omega) (by omega)
  have e2 : ishl .i32 (c - 55296) 10 = (c - 55296) * 1024 := by
    unfold ishl
    rw [show ((2 : Int) ^ (min (10 : Int).toNat IntKind.i32.bits)) = 1024 from rfl]
    exact wrap_i32 (by omega) (by omega)
  have e3 : iadd .i32 65536 ((c - 55296) * 1024) = 65536 + (c - 55296) * 1024 := wrap_i32 (by omega) (by omega)
  have e4 : iadd .i32 (65536 + (c - 55296) * 1024) d = 65536 + (c - 55296) * 1024 + d := wrap_i32 (by omega) (by omega)
  have e5 : isub .i32 (65536 + (c - 55296) * 1024 + d) 56320 = 65536 + (c - 55296) * 1024 + d - 56320 := wrap_i32 (by omega) (by omega)
  rw [e1, e2, e3, e4, e5]
/-- what a sign is -/
theorem sg_is {l : List Nat} (hb : bel 256 l) (h2 : 2 ≤ l.length) : ∃ c k : Nat, sg l = ((c : Int), (k : Int)) ∧ (k = 0 ∨ k = 2 ∨ k = 4) ∧ k ≤ l.length ∧ c ≤ 1114111 := by
  have h0 := unit2_pos h2
  have h1 := unit2_lt hb
  have hb2 : bel 256 (l.drop 2) := bel_drop hb
  have h3 := unit2_lt hb2
  unfold sg
  by_cases c1 : unit2 l < 55296 ∨ 57344 ≤ unit2 l
  · rw [if_pos c1]
    exact ⟨(unit2 l).toNat, 2, by rw [Int.toNat_of_nonneg h0]; rfl, by omega, h2, by omega⟩
  · rw [if_neg c1]
    by_cases c2 : 56320 ≤ unit2 l ∨ unit2 (l.drop 2) < 56320 ∨ 57344 ≤ unit2 (l.drop 2)
    · rw [if_pos c2]
      exact ⟨0, 0, rfl, by omega, by omega, by omega⟩
    · rw [if_neg c2]
      have hl : 4 ≤ l.length := by
        rcases Nat.lt_or_ge (l.drop 2).length 2 with h | h
        · rw [unit2_neg h] at c2; omega
        · rw [List.length_drop] at h; omega
      exact ⟨(65536 + (unit2 l - 55296) * 1024 + unit2 (l.drop 2) - 56320).toNat, 4, by rw [Int.toNat_of_nonneg (by omega)]; rfl, by omega, hl, by omega⟩
/-! ### how many signs a text has -/
theorem L397_is (N : Nat) (q : Int → Option Int) (s : List UInt8) (hs : s.length ≤ 1000) : ∀ (l : List Nat) (pos k fuel : Nat), signs (s.drop pos) = some l → pos ≤ s.length → l.length < fuel → k ≤ pos →
    L397_0 N q fuel (k : Int) s pos = q ((k + l.length : Nat) : Int)
  | [], pos, k, fuel, h, hp, hf, hk => by
    obtain ⟨m, rfl⟩ : ∃ m, fuel = m + 1 := ⟨fuel - 1, by omega⟩
    have := signs_nil h
    simp only [L397_0, show ¬ (pos < s.length) by omega, decide_false, cond_false, List.length_nil, Nat.add_zero]
  | n :: l, pos, k, fuel, h, hp, hf, hk => by
    obtain ⟨m, rfl⟩ : ∃ m, fuel = m + 1 := ⟨fuel - 1, by omega⟩
    obtain ⟨w, h1, h2, h3, h4, h5, _⟩ := signs_step h
    simp only [List.length_cons] at hf
    simp only [L397_0, h4, decide_true, cond_true, decode_of h1]
    rw [up1 (by omega), L397_is N q s hs l (pos + w) (k + 1) m h2 h3 (by omega) (by omega)]
    congr 2
    simp; omega
def h397 (s : List UInt8) := p397 2100 s
theorem E397 : EntOK FT XT 397 (en397 h397) := ok397 fun _ _ h => ⟨2100, h⟩
theorem h397_is {s : List UInt8} {l : List Nat} (hs : s.length ≤ 1000) (h : signs s = some l) : h397 s = some ((l.length : Nat) : Int) := by
  have hl := signs_len (s := s) (pos := 0) h (by omega)
  unfold h397 p397
  rw [show (0 : Int) = ((0 : Nat) : Int) from rfl, L397_is 2100 _ s hs l 0 0 2100 h (by omega) (by omega) (by omega)]
  simp
end Go.Proofs.YtchoafdpckknmaaDoorE.U0
