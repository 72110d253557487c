/- Chapter 10: the password's digest that is asked in alive; rows held against each other. -/
import Derived.Test.YtdlmhclopdkhcaaDoorEvzM3
import Derived.KernelRfl
namespace Go.Proofs.YtdlmhclopdkhcaaDoorE
open Go
set_option linter.unusedSimpArgs false
set_option linter.unusedVariables false
set_option maxRecDepth 4000
theorem L23_is (N : Nat) (a b : List Int) (hl : a.length = b.length) (hb : a.length < 2 ^ 40) : ∀ d i fuel, i + d = a.length → d < fuel → L23_0 N (some true) fuel a b (i : Int) = some (a.drop i == b.drop i) := by
  intro d
  induction d with
  | zero =>
    intro i fuel hd hf
    obtain ⟨m, rfl⟩ : ∃ m, fuel = m + 1 := ⟨fuel - 1, by omega⟩
    simp only [L23_0, show ¬ ((i : Int) < ((a.length : Nat) : Int)) by omega, decide_false, cond_false]
    rw [List.drop_of_length_le (by omega), List.drop_of_length_le (by omega)]
    rfl
  | succ d ih =>
    intro i fuel hd hf
    obtain ⟨m, rfl⟩ : ∃ m, fuel = m + 1 := ⟨fuel - 1, by omega⟩
    have hi : i < a.length := by omega
    have hi2 : i < b.length := by omega
    rw [List.drop_eq_getElem_cons hi, List.drop_eq_getElem_cons hi2]
    simp only [L23_0, show ((i : Int) < ((a.length : Nat) : Int)) by omega, decide_true, cond_true, geti_nat, List.getElem?_eq_getElem hi, List.getElem?_eq_getElem hi2]
    by_cases e : a[i] = b[i]
    · rw [e]
      simp only [bne_self_eq_false, cond_false]
      rw [up1 (by omega), ih (i + 1) m (by omega) (by omega)]
      rw [List.cons_beq_cons, beq_self_eq_true, Bool.true_and]
    · simp only [show (a[i] != b[i]) = true from bne_iff_ne.2 e, cond_true]
      congr 1
      symm
      rw [beq_eq_false_iff_ne]
      intro h; injection h with h1 h2; exact e h1
def f23 (a b : List Int) : Option Bool := if a.length < 1099511627776 then some (a == b) else none
theorem E23 : EntOK FT XT 23 (en23 f23) := ok23 fun a b r h => ⟨a.length + 1, by
  unfold f23 at h
  split at h <;> try (cases h; done)
  rename_i hb
  unfold p23
  by_cases hl : a.length = b.length
  · simp only [hl, bne_self_eq_false, cond_false]
    rw [← hl]
    have := L23_is (a.length + 1) a b hl hb a.length 0 (a.length + 1) (by omega) (by omega)
    rw [List.drop_zero, List.drop_zero] at this
    exact this.trans h
  · simp only [show ((((a.length : Nat) : Int)) != ((b.length : Nat) : Int)) = true from bne_iff_ne.2 (by omega), cond_true]
    rw [← h]
    congr 1
    symm
    rw [beq_eq_false_iff_ne]
    intro e; exact hl (by rw [e])⟩
theorem f23_same {a : List Int} (h : a.length < 1099511627776) : f23 a a = some true := by unfold f23; rw [if_pos h, beq_self_eq_true]


/-! ### the text "clientPass": letters below 128 alone -/
def h401 (s : List UInt8) := p401 0 s
theorem E401 : EntOK FT XT 401 (en401 h401) := ok401 fun _ _ h => ⟨0, h⟩
def h396 (s : List UInt8) := p396 h401 30 s
theorem E396 : EntOK FT XT 396 (en396 h396) := ok396 h401 E401 fun _ _ h => ⟨30, h⟩
def h397 (s : List UInt8) := p397 30 s
theorem E397 : EntOK FT XT 397 (en397 h397) := ok397 fun _ _ h => ⟨30, h⟩
def h391 (s : List UInt8) := p391 h396 h397 0 s
theorem E391 : EntOK FT XT 391 (en391 h391) := ok391 h396 h397 E396 E397 fun _ _ h => ⟨0, h⟩
def h392 (s : List UInt8) := p392 h391 30 s
theorem E392 : EntOK FT XT 392 (en392 h392) := ok392 h391 E391 fun _ _ h => ⟨30, h⟩
def h387 (s : List UInt8) := p387 h391 h392 h19 30 s
theorem E387 : EntOK FT XT 387 (en387 h387) := ok387 h391 h392 h19 E391 E392 E19 fun _ _ h => ⟨30, h⟩
abbrev cpS : List UInt8 := ([(99 : UInt8), (108 : UInt8), (105 : UInt8), (101 : UInt8), (110 : UInt8), (116 : UInt8), (80 : UInt8), (97 : UInt8), (115 : UInt8), (115 : UInt8)] : List UInt8)
def cpB : List Nat := [99, 0, 108, 0, 105, 0, 101, 0, 110, 0, 116, 0, 80, 0, 97, 0, 115, 0, 115, 0]
def dgB : List Nat := [68, 235, 186, 141, 83, 18, 184, 214, 17, 71, 68, 17, 245, 105, 137, 174]
def twB : List Nat := [65, 192, 12, 88, 75, 210, 217, 28, 64, 23, 162, 161, 47, 165, 159, 63]
theorem h387_cp : h387 cpS = some (nI cpB, 0) := by kernel_rfl
theorem m4_cp : m4dig cpB = dgB := by kernel_rfl
theorem m4_dg : m4dig dgB = twB := by kernel_rfl
theorem cpB_bel : bel 256 cpB := by unfold cpB; intro x hx; simp at hx; omega
theorem dgB_bel : bel 256 dgB := by unfold dgB; intro x hx; simp at hx; omega
theorem h181_one {b : List Nat} (hb : bel 256 b) (hl : b.length ≤ 6000) : h181 [nI b] = some (nI (m4dig b)) := h181_is (b := b) (by simp) (by simp) hb hl
def h370 (s : List UInt8) := p370 h387 h181 0 s
theorem E370 : EntOK FT XT 370 (en370 h370) := ok370 h387 h181 E387 E181 fun _ _ h => ⟨0, h⟩
theorem fillT {r z : List Int} (h : r.length = z.length) : ([] ++ r) ++ List.drop (0 + r.length) z = r := by
  rw [List.nil_append, Nat.zero_add, h, List.drop_length, List.append_nil]
theorem tkT {r : List Int} {n : Nat} (h : r.length = n) : List.take n (List.drop 0 r) = r := by
  rw [List.drop_zero, ← h, List.take_length]
theorem h370_cp : h370 cpS = some (nI dgB, 0) := by
  have e : h181 [nI cpB] = some (nI dgB) := by rw [h181_one cpB_bel (by decide), m4_cp]
  unfold h370 p370
  rw [h387_cp]
  simp only [bne_self_eq_false, cond_false]
  rw [e]
  rfl
def h372 (h : List Int) := p372 h181 0 h
theorem E372 : EntOK FT XT 372 (en372 h372) := ok372 h181 E181 fun _ _ h => ⟨0, h⟩
theorem h372_dg : h372 (nI dgB) = some (nI twB) := by
  have e : h181 [nI dgB] = some (nI twB) := by rw [h181_one dgB_bel (by decide), m4_dg]
  unfold h372 p372
  rw [tkT (show (nI dgB).length = 16 from rfl), e]
  rfl
def f369 : Option Bool := some true
theorem al10 : p369 h370 h372 0 = some true := by
  have e1 : h370 ([(99 : UInt8), (108 : UInt8), (105 : UInt8), (101 : UInt8), (110 : UInt8), (116 : UInt8), (80 : UInt8), (97 : UInt8), (115 : UInt8), (115 : UInt8)] : List UInt8) = some (nI dgB, 0) := h370_cp
  unfold p369
  rw [e1]
  simp only []
  rw [fillT (show (nI dgB).length = ([(0 : Int), 0, 0, 0, 0, 0, 0, 0, 0, 0, 0, 0, 0, 0, 0, 0] : List Int).length from rfl), tkT (show (nI dgB).length = 16 from rfl), h372_dg]
  rfl
theorem E369 : EntOK FT XT 369 (en369 f369) := ok369 h370 h372 E370 E372 fun r h => ⟨0, by rw [← h]; exact al10⟩
end Go.Proofs.YtdlmhclopdkhcaaDoorE
