/- Chapter 3: words as rows of bits. -/
import Derived.Test.YtgjbkgajkcgdfaaEvB3T
namespace Go.Proofs.YtgjbkgajkcgdfaaE
open Go
set_option linter.unusedSimpArgs false
set_option linter.unusedVariables false

/-! ### rows of bits -/
def wordR : List Nat → Nat
  | [] => 0
  | b :: r => b + 2 * wordR r
def wordN (l : List Nat) : Nat := l.foldl (fun a b => 2 * a + b) 0
theorem wordN_snoc (l : List Nat) (b : Nat) : wordN (l ++ [b]) = 2 * wordN l + b := by simp [wordN]
theorem wordN_rev : ∀ l : List Nat, wordN l.reverse = wordR l
  | [] => rfl
  | b :: l => by rw [List.reverse_cons, wordN_snoc, wordN_rev l]; simp [wordR]; omega
theorem wordR_bit : ∀ (l : List Nat) (i : Nat), (∀ b ∈ l, b < 2) → (wordR l).testBit i = decide (l[i]? = some 1)
  | [], i, _ => by simp [wordR]
  | b :: l, 0, h => by
    have hb := h b (by simp)
    simp only [wordR, Nat.testBit_zero, List.getElem?_cons_zero, Option.some.injEq]
    have : (b + 2 * wordR l) % 2 = b := by omega
    rw [this]
  | b :: l, i + 1, h => by
    have hb := h b (by simp)
    rw [Nat.testBit_succ]
    have : (wordR (b :: l)) / 2 = wordR l := by simp only [wordR]; omega
    rw [this, wordR_bit l i (fun c hc => h c (by simp [hc]))]; simp
theorem wordN_bit (l : List Nat) (i : Nat) (h : ∀ b ∈ l, b < 2) : (wordN l).testBit i = decide (l.reverse[i]? = some 1) := by
  have := wordR_bit l.reverse i (fun b hb => h b (by simpa using hb))
  rw [← wordN_rev, List.reverse_reverse] at this
  exact this
theorem wordN_lt (l : List Nat) (h : ∀ b ∈ l, b < 2) : wordN l < 2 ^ l.length := by
  apply Nat.lt_pow_two_of_testBit
  intro i hi
  rw [wordN_bit l i h, List.getElem?_eq_none (by simpa using hi)]; rfl
def rowN (x w : Nat) : List Nat := (List.range w).map fun j => x / 2 ^ (w - 1 - j) % 2
theorem rowN_len (x w : Nat) : (rowN x w).length = w := by simp [rowN]
theorem rowN_lt (x w : Nat) : ∀ b ∈ rowN x w, b < 2 := by
  intro b hb
  simp only [rowN, List.mem_map] at hb
  obtain ⟨j, _, rfl⟩ := hb
  exact Nat.mod_lt _ (by omega)
theorem bit_one (x i : Nat) : decide (x / 2 ^ i % 2 = 1) = x.testBit i := by
  rw [Nat.testBit_eq_decide_div_mod_eq]
theorem rowN_get (x w j : Nat) (h : j < w) : (rowN x w)[j]? = some (x / 2 ^ (w - 1 - j) % 2) := by
  simp [rowN, h]
/-- a part of a row -/
theorem word_row (x w k i : Nat) (hk : k ≤ w) : (wordN ((rowN x w).drop k ++ (rowN x w).take k)).testBit i = (decide (i < w) && x.testBit ((i + w - k) % w)) := by
  rw [wordN_bit _ _ (fun b hb => rowN_lt x w b (by
    rcases List.mem_append.1 hb with h | h
    · exact List.mem_of_mem_drop h
    · exact List.mem_of_mem_take h))]
  by_cases hi : i < w
  · rw [List.getElem?_reverse (by simp [rowN_len]; omega)]
    have hl : ((rowN x w).drop k ++ (rowN x w).take k).length = w := by simp [rowN_len]; omega
    rw [hl]
    by_cases hik : i < k
    · rw [List.getElem?_append_right (by simp [rowN_len]; omega)]
      have e : w - 1 - i - ((rowN x w).drop k).length = k - 1 - i := by simp [rowN_len]; omega
      rw [e, List.getElem?_take_of_lt (by omega), rowN_get _ _ _ (by omega)]
      have e2 : w - 1 - (k - 1 - i) = i + w - k := by omega
      simp only [e2, Option.some.injEq, hi, decide_true, Bool.true_and, bit_one]
      rw [Nat.mod_eq_of_lt (by omega)]
    · rw [List.getElem?_append_left (by simp [rowN_len]; omega), List.getElem?_drop, rowN_get _ _ _ (by omega)]
      have e2 : w - 1 - (k + (w - 1 - i)) = i - k := by omega
      simp only [e2, Option.some.injEq, hi, decide_true, Bool.true_and, bit_one]
      rw [show i + w - k = (i - k) + w by omega, Nat.add_mod_right, Nat.mod_eq_of_lt (by omega)]
  · rw [List.getElem?_eq_none (by simp [rowN_len]; omega)]; simp [hi]
theorem word_turn (x w k : Nat) (hw : w ≤ 64) (hk : k < w) : wordN ((rowN x w).drop k ++ (rowN x w).take k) = turnN x w k := by
  apply Nat.eq_of_testBit_eq
  intro i
  rw [word_row x w k i (by omega), turn_bit x w k i hw hk]
theorem word_take (x w k : Nat) (hk : k ≤ w) : wordN ((rowN x w).take k) = x % 2 ^ w / 2 ^ (w - k) := by
  apply Nat.eq_of_testBit_eq
  intro i
  rw [wordN_bit _ _ (fun b hb => rowN_lt x w b (List.mem_of_mem_take hb)), Nat.testBit_div_two_pow, Nat.testBit_mod_two_pow]
  by_cases hi : i < k
  · rw [List.getElem?_reverse (by simp [rowN_len]; omega)]
    have hl : ((rowN x w).take k).length = k := by simp [rowN_len]; omega
    rw [hl, List.getElem?_take_of_lt (by omega), rowN_get _ _ _ (by omega)]
    have e2 : w - 1 - (k - 1 - i) = i + (w - k) := by omega
    simp only [e2, Option.some.injEq, bit_one, show i + (w - k) < w by omega, decide_true, Bool.true_and]
  · rw [List.getElem?_eq_none (by simp [rowN_len]; omega)]
    simp [show ¬ i + (w - k) < w by omega]
theorem word_drop (x w k : Nat) (hk : k ≤ w) : wordN ((rowN x w).drop k) = x % 2 ^ w % 2 ^ (w - k) := by
  apply Nat.eq_of_testBit_eq
  intro i
  rw [wordN_bit _ _ (fun b hb => rowN_lt x w b (List.mem_of_mem_drop hb)), Nat.testBit_mod_two_pow, Nat.testBit_mod_two_pow]
  by_cases hi : i < w - k
  · rw [List.getElem?_reverse (by simp [rowN_len]; omega)]
    have hl : ((rowN x w).drop k).length = w - k := by simp [rowN_len]
    rw [hl, List.getElem?_drop, rowN_get _ _ _ (by omega)]
    have e2 : w - 1 - (k + (w - k - 1 - i)) = i := by omega
    simp only [e2, Option.some.injEq, bit_one, hi, show i < w by omega, decide_true, Bool.true_and]
  · rw [List.getElem?_eq_none (by simp [rowN_len]; omega)]; simp [hi]

/-! ### the document's words -/
def nI (l : List Nat) : List Int := l.map (fun n : Nat => (n : Int))
def f55 (w : Int) : Option Bool := some (wideB w)
theorem E55 : EntOK FT XT 55 (en55 f55) := ok55 (fun a0 r h => ⟨0, by
  simp only [f55, Option.some.injEq] at h
  subst h
  unfold p55 wideB
  by_cases h1 : a0 ≥ 1
  · simp [h1]
  · simp [h1]⟩)
def f56 (x w : Int) : Option (List Int) := if isW x ∧ 0 ≤ w ∧ w ≤ 64 then some (nI (rowN x.toNat w.toNat)) else none
theorem row_fold (x w : Nat) : ∀ (d : Nat) (y : Nat) (l : List Int), d ≤ l.length → y = x → 
    ((List.range d).reverse.foldl (fun (s : Nat × List Int) i => (s.1 / 2, s.2.set i ((s.1 % 2 : Nat) : Int))) (y, l)).2 = nI (rowN x d) ++ l.drop d := by
  intro d
  induction d generalizing x with
  | zero => intro y l _ _; simp [rowN, nI]
  | succ d ih =>
    intro y l hl hy
    subst hy
    rw [List.range_succ, List.reverse_append, List.reverse_singleton, List.singleton_append, List.foldl_cons]
    rw [ih (y / 2) (y / 2) _ (by simp; omega) rfl]
    have e1 : rowN y (d + 1) = rowN (y / 2) d ++ [y % 2] := by
      simp only [rowN, List.range_succ, List.map_append, List.map_singleton]
      congr 1
      · apply List.map_congr_left
        intro j hj
        have hj' : j < d := by simpa using hj
        rw [Nat.div_div_eq_div_mul, ← Nat.pow_succ', show (d - 1 - j).succ = d + 1 - 1 - j by omega]
      · simp
    have e2 : (l.set d ((y % 2 : Nat) : Int)).drop d = ((y % 2 : Nat) : Int) :: l.drop (d + 1) := by
      rw [List.drop_eq_getElem_cons (by simp; omega)]
      simp [List.drop_set_of_lt]
    rw [e1, e2]
    simp [nI]
theorem E56 : EntOK FT XT 56 (en56 f56) := ok56 (fun a0 a1 r h => ⟨100, by
  simp only [f56] at h
  split at h <;> try (cases h; done)
  rename_i hc
  injection h with h; subst h
  obtain ⟨x, rfl⟩ := nat_of hc.1.1
  have hx2 : x < 2 ^ 64 := by have := hc.1.2; exact_mod_cast this
  obtain ⟨w, rfl⟩ := nat_of hc.2.1
  have hw : w ≤ 64 := by omega
  unfold p56
  have c1 : ((w : Int) * ((1 : Nat) : Int)) ≤ 1099511627776 := by omega
  have c2 : (w : Int) ≤ 1099511627776 := by omega
  have hs : isub .i64 (w : Int) 1 = (w : Int) - 1 := isub_i (by omega) (by omega)
  simp only [show (0 : Int) ≤ w by omega, Int.le_refl, c1, c2, decide_true, Bool.and_self, cond_true, hs, Int.toNat_natCast]
  have key := down_run (L := fun n (s : Nat × List Int) i => L56_0 100 (fun (y6 : Nat) (y7 : Nat) (y8 : List Int) => bif (decide ((0 + (y6 * 1)) ≤ (List.length y8))) then some (List.take y6 (List.drop 0 y8)) else none) n (s.1 : Int) w w i s.2)
    (g := fun s i => (s.1 / 2, s.2.set i ((s.1 % 2 : Nat) : Int))) (fin := fun s => s.2) (fun s d => s.2.length = w ∧ s.1 < 2 ^ 64 ∧ d ≤ w)
    (fun n s i hp => by
      obtain ⟨h1, h2, h3⟩ := hp
      refine ⟨⟨by simpa using h1, by show s.1 / 2 < _; omega, by omega⟩, ?_⟩
      have q1 : iquo .u64 (s.1 : Int) 2 = ((s.1 / 2 : Nat) : Int) := by
        unfold iquo
        rw [Int.tdiv_eq_ediv_of_nonneg (by omega)]
        rw [wrap_u .u64 rfl (by omega) (by show _ < 2 ^ 64; omega)]; norm_cast
      have q2 : IntKind.u8.wrap (irem (s.1 : Int) 2) = ((s.1 % 2 : Nat) : Int) := by
        unfold irem
        rw [Int.tmod_eq_emod_of_nonneg (by omega), wrap_u .u8 rfl (by omega) (by show _ < 2 ^ 8; omega)]; norm_cast
      have q3 : isub .i64 (i : Int) 1 = (i : Int) - 1 := isub_i (by omega) (by omega)
      simp only [L56_0, show (i : Int) ≥ 0 by omega, show (0 : Int) ≤ i by omega, show (i : Int) < ((w : Nat) : Int) by omega, Int.toNat_natCast, Nat.mul_one, Nat.zero_add, h1, show i < w by omega, decide_true, Bool.and_self, cond_true, q1, q2, q3])
    (fun n s hp => by
      obtain ⟨h1, h2, h3⟩ := hp
      simp [L56_0, h1, List.take_of_length_le])
    w 100 (x, List.replicate w (0 : Int)) (by omega) ⟨by simp, hx2, Nat.le_refl _⟩
  have e := row_fold x w w x (List.replicate w (0 : Int)) (by simp) rfl
  simp only [] at key
  rw [key]
  refine congrArg some (e.trans ?_)
  rw [List.drop_of_length_le (by simp)]; simp⟩)
def stepW (a b : Int) : Int := iadd .u64 (imul .u64 2 a) (IntKind.u64.wrap b)
def f57 (l : List Int) : Option Int := if l.length ≤ 2 ^ 20 then some (l.foldl stepW 0) else none
theorem E57 : EntOK FT XT 57 (en57 f57) := ok57 (fun a0 r h => ⟨2 ^ 20 + 1, by
  simp only [f57] at h
  split at h <;> try (cases h; done)
  rename_i hc
  injection h with h; subst h
  unfold p57
  refine range_fold (L := fun n s i => L57_0 (2 ^ 20 + 1) (fun (y5 : Int) => some y5) n a0 s i) (g := stepW) (fin := fun s => s) (fun _ _ => True) (fun n s i c _ hci hi => ⟨trivial, ?_⟩) (fun n s _ => ?_) _ (by omega) 0 trivial
  · have hs : iadd .i64 (i : Int) 1 = ((i + 1 : Nat) : Int) := by rw [iadd_i (by omega) (by omega)]; omega
    simp only [L57_0, show (i : Int) < ((a0.length : Nat) : Int) by omega, decide_true, cond_true, geti_nat, hci, hs]; rfl
  · simp [L57_0]⟩)
theorem word_nI (l : List Nat) (h : ∀ b ∈ l, b < 2) (hl : l.length ≤ 64) : (nI l).foldl stepW 0 = ((wordN l : Nat) : Int) := by
  have key : ∀ (r l : List Nat), (∀ b ∈ l ++ r, b < 2) → (l ++ r).length ≤ 64 → (nI r).foldl stepW ((wordN l : Nat) : Int) = ((wordN (l ++ r) : Nat) : Int) := by
    intro r
    induction r with
    | nil => intro l _ _; simp [nI]
    | cons b r ih =>
      intro l h hl
      have hb := h b (by simp)
      have hlt := wordN_lt l (fun c hc => h c (by simp [hc]))
      have hll : l.length < 64 := by simp at hl; omega
      have h2 : 2 ^ l.length * 2 ≤ 2 ^ 64 := by rw [← Nat.pow_succ]; exact Nat.pow_le_pow_right (by omega) (by omega)
      have e : stepW ((wordN l : Nat) : Int) (b : Int) = ((wordN (l ++ [b]) : Nat) : Int) := by
        rw [wordN_snoc]
        unfold stepW iadd imul
        rw [wrap_u .u64 rfl (x := (b : Int)) (by omega) (by show _ < 2 ^ 64; omega), wrap_u .u64 rfl (x := 2 * ((wordN l : Nat) : Int)) (by omega) (by show _ < 2 ^ 64; omega), wrap_u .u64 rfl (by omega) (by show _ < 2 ^ 64; omega)]
        omega
      have e2 : nI (b :: r) = (b : Int) :: nI r := rfl
      rw [e2, List.foldl_cons, e, ih (l ++ [b]) (by simpa using h) (by simpa using hl)]
      simp
  have := key l [] (by simpa using h) (by simpa using hl)
  simpa [wordN] using this
end Go.Proofs.YtgjbkgajkcgdfaaE
