/- Texts: whether they are signs alone. -/
import Derived.Test.YtchoafdpckknmaaDoorEvUa
import Derived.KernelRfl
namespace Go.Proofs.YtchoafdpckknmaaDoorE
open Go
set_option linter.unusedSimpArgs false
set_option linter.unusedVariables false
set_option maxRecDepth 4000
theorem tkd {α : Type} (k : Nat) (l : List α) : List.take (l.length - k) (List.drop k l) = List.drop k l := List.take_of_length_le (by simp)
/-! ### the kinds of first bytes -/
def lo1 (b : Nat) : Nat := if b = 224 then 160 else if b = 240 then 144 else 128
def hi1 (b : Nat) : Nat := if b = 237 then 159 else if b = 244 then 143 else 191
def sz1 (b : Nat) : Nat := if b < 194 then 1 else if b < 224 then 2 else if b < 240 then 3 else if b < 245 then 4 else 1
theorem fin1_yes {n least w : Nat} (h : least ≤ n ∧ n ≤ 1114111 ∧ ¬ (55296 ≤ n ∧ n ≤ 57343)) : fin1 n least w = some (n, w) := if_pos h
theorem fin1_no {n least w : Nat} (h : ¬ (least ≤ n ∧ n ≤ 1114111 ∧ ¬ (55296 ≤ n ∧ n ≤ 57343))) : fin1 n least w = none := if_neg h
theorem ctb_is {b : UInt8} : ctb b = true ↔ 128 ≤ b.toNat ∧ b.toNat ≤ 191 := by unfold ctb; simp
theorem valid0 {b : UInt8} {r : List UInt8} (h : 128 ≤ b.toNat) (hs : sz1 b.toNat = 1) : valid (b :: r) = false := by
  have h8 := UInt8.toNat_lt b
  have hc : b.toNat < 194 ∨ 245 ≤ b.toNat := by
    unfold sz1 at hs
    by_cases h1 : b.toNat < 194
    · exact Or.inl h1
    · rw [if_neg h1] at hs
      by_cases h2 : b.toNat < 224
      · rw [if_pos h2] at hs; cases hs
      · rw [if_neg h2] at hs
        by_cases h3 : b.toNat < 240
        · rw [if_pos h3] at hs; cases hs
        · rw [if_neg h3] at hs
          by_cases h4 : b.toNat < 245
          · rw [if_pos h4] at hs; cases hs
          · exact Or.inr (by omega)
  rw [valid_step]
  suffices hd : dec1 (b :: r) = none by rw [hd]
  rw [dec1_cons, if_neg (by omega)]
  rcases hc with hc | hc
  · by_cases h2 : b.toNat < 192
    · rw [if_pos h2]
    · rw [if_neg h2, if_pos (by omega)]
      cases r with
      | nil => rfl
      | cons x r =>
        have hx8 := UInt8.toNat_lt x
        dsimp only
        by_cases hx : ctb x
        · have := ctb_is.1 hx
          rw [if_pos hx, fin1_no (by omega)]
        · rw [if_neg hx]
  · rw [if_neg (by omega), if_neg (by omega), if_neg (by omega)]
    by_cases h2 : b.toNat < 248
    · rw [if_pos h2]
      match r with
      | [] => rfl
      | [x] => rfl
      | [x, y] => rfl
      | x :: y :: z :: r =>
        dsimp only
        by_cases hx : (ctb x && ctb y && ctb z) = true
        · rw [if_pos hx]
          simp only [Bool.and_eq_true, ctb_is] at hx
          rw [fin1_no (by omega)]
        · rw [if_neg hx]
    · rw [if_neg h2]
theorem sz_2 {b : Nat} (h : sz1 b = 2) : 194 ≤ b ∧ b < 224 := by
  unfold sz1 at h
  split at h <;> try (cases h; done)
  split at h <;> try (cases h; done)
  · omega
  split at h <;> try (cases h; done)
  split at h <;> cases h
theorem sz_3 {b : Nat} (h : sz1 b = 3) : 224 ≤ b ∧ b < 240 := by
  unfold sz1 at h
  split at h <;> try (cases h; done)
  split at h <;> try (cases h; done)
  split at h <;> try (cases h; done)
  · omega
  split at h <;> cases h
theorem sz_4 {b : Nat} (h : sz1 b = 4) : 240 ≤ b ∧ b < 245 := by
  unfold sz1 at h
  split at h <;> try (cases h; done)
  split at h <;> try (cases h; done)
  split at h <;> try (cases h; done)
  split at h <;> try (cases h; done)
  omega
theorem sz_all (b : Nat) : sz1 b = 1 ∨ sz1 b = 2 ∨ sz1 b = 3 ∨ sz1 b = 4 := by
  unfold sz1
  split
  · exact Or.inl rfl
  split
  · exact Or.inr (Or.inl rfl)
  split
  · exact Or.inr (Or.inr (Or.inl rfl))
  split
  · exact Or.inr (Or.inr (Or.inr rfl))
  · exact Or.inl rfl
/-- a byte in its range -/
def inr (b x : Nat) : Bool := !decide (x < lo1 b) && !decide (hi1 b < x)
theorem inr_is {b x : Nat} : inr b x = true ↔ lo1 b ≤ x ∧ x ≤ hi1 b := by unfold inr; simp
theorem valid2 {b : UInt8} {r : List UInt8} (hs : sz1 b.toNat = 2) : valid (b :: r) = (match r with | x :: r2 => inr b.toNat x.toNat && valid r2 | [] => false) := by
  have hb := sz_2 hs
  rw [valid_step, dec1_cons, if_neg (by omega), if_neg (by omega), if_pos (by omega)]
  cases r with
  | nil => rfl
  | cons x r =>
    have e : inr b.toNat x.toNat = ctb x := by
      rw [Bool.eq_iff_iff, inr_is, ctb_is]
      unfold lo1 hi1
      rw [if_neg (by omega), if_neg (by omega), if_neg (by omega), if_neg (by omega)]
    dsimp only
    rw [e]
    by_cases hx : ctb x
    · have := ctb_is.1 hx
      rw [if_pos hx, fin1_yes (by omega), hx]
      rfl
    · rw [if_neg hx]; simp [hx]
theorem valid3 {b : UInt8} {r : List UInt8} (hs : sz1 b.toNat = 3) : valid (b :: r) = (match r with | x :: y :: r2 => inr b.toNat x.toNat && ctb y && valid r2 | _ => false) := by
  have hb := sz_3 hs
  rw [valid_step, dec1_cons, if_neg (by omega), if_neg (by omega), if_neg (by omega), if_pos (by omega)]
  match r with
  | [] => rfl
  | [x] => rfl
  | x :: y :: r =>
    dsimp only
    have hlo : lo1 b.toNat = if b.toNat = 224 then 160 else 128 := by
      unfold lo1; split; · rfl
      · rw [if_neg (by omega)]
    have hhi : hi1 b.toNat = if b.toNat = 237 then 159 else 191 := by
      unfold hi1; split; · rfl
      · rw [if_neg (by omega)]
    by_cases hy : ctb y
    · have hy2 := ctb_is.1 hy
      by_cases hx : ctb x
      · have hx2 := ctb_is.1 hx
        rw [if_pos (by rw [hx, hy]; rfl)]
        by_cases hi : inr b.toNat x.toNat
        · have hi2 := inr_is.1 hi
          rw [fin1_yes (by rw [hlo, hhi] at hi2; split at hi2 <;> split at hi2 <;> omega), hi, hy]
          rfl
        · have hi2 : ¬ (lo1 b.toNat ≤ x.toNat ∧ x.toNat ≤ hi1 b.toNat) := fun h => hi (inr_is.2 h)
          rw [fin1_no (by rw [hlo, hhi] at hi2; split at hi2 <;> split at hi2 <;> omega)]
          simp [hi]
      · rw [if_neg (by simp [hx])]
        have hi : ¬ inr b.toNat x.toNat = true := fun h => by
          have hi2 := inr_is.1 h
          apply hx
          rw [ctb_is]
          rw [hlo, hhi] at hi2; split at hi2 <;> split at hi2 <;> omega
        simp [hi]
    · rw [if_neg (by simp [hy])]
      simp [hy]
theorem valid4 {b : UInt8} {r : List UInt8} (hs : sz1 b.toNat = 4) : valid (b :: r) = (match r with | x :: y :: z :: r2 => inr b.toNat x.toNat && ctb y && ctb z && valid r2 | _ => false) := by
  have hb := sz_4 hs
  rw [valid_step, dec1_cons, if_neg (by omega), if_neg (by omega), if_neg (by omega), if_neg (by omega), if_pos (by omega)]
  match r with
  | [] => rfl
  | [x] => rfl
  | [x, y] => rfl
  | x :: y :: z :: r =>
    dsimp only
    have hlo : lo1 b.toNat = if b.toNat = 240 then 144 else 128 := by
      unfold lo1; rw [if_neg (by omega)]
    have hhi : hi1 b.toNat = if b.toNat = 244 then 143 else 191 := by
      unfold hi1; rw [if_neg (by omega)]
    by_cases hy : ctb y
    · have hy2 := ctb_is.1 hy
      by_cases hz : ctb z
      · have hz2 := ctb_is.1 hz
        by_cases hx : ctb x
        · have hx2 := ctb_is.1 hx
          rw [if_pos (by rw [hx, hy, hz]; rfl)]
          by_cases hi : inr b.toNat x.toNat
          · have hi2 := inr_is.1 hi
            rw [fin1_yes (by rw [hlo, hhi] at hi2; split at hi2 <;> split at hi2 <;> omega), hi, hy, hz]
            rfl
          · have hi2 : ¬ (lo1 b.toNat ≤ x.toNat ∧ x.toNat ≤ hi1 b.toNat) := fun h => hi (inr_is.2 h)
            rw [fin1_no (by rw [hlo, hhi] at hi2; split at hi2 <;> split at hi2 <;> omega)]
            simp [hi]
        · rw [if_neg (by simp [hx])]
          have hi : ¬ inr b.toNat x.toNat = true := fun h => by
            have hi2 := inr_is.1 h
            apply hx
            rw [ctb_is]
            rw [hlo, hhi] at hi2; split at hi2 <;> split at hi2 <;> omega
          simp [hi]
      · rw [if_neg (by simp [hz])]
        simp [hz]
    · rw [if_neg (by simp [hy])]
      simp [hy]
/-! ### words -/
def h401 (s : List UInt8) := p401 0 s
theorem E401 : EntOK FT XU 401 (en401 h401) := ok401 fun _ _ h => ⟨0, h⟩
theorem h401_is {l : List UInt8} (h : 8 ≤ l.length) : h401 l = some ((wd l : Nat) : Int) := by
  match l, h with
  | a :: b :: c :: d :: e :: f :: g :: i :: r, _ =>
    refine Eq.trans ?_ (congrArg some (word_is a b c d e f g i))
    kernel_rfl
theorem wd_zero (l : List UInt8) : (iand .u64 ((wd l : Nat) : Int) (9259542123273814144 : Int) == (0 : Int)) = decide (wd l &&& mk80 = 0) := by
  rw [show iand .u64 ((wd l : Nat) : Int) (9259542123273814144 : Int) = ((wd l &&& mk80 : Nat) : Int) from iand_u .u64 rfl (wd l) mk80 (wd_lt l) (by decide)]
  rw [Bool.eq_iff_iff, beq_iff_eq, decide_eq_true_iff]
  omega
theorem or_zero {a b : Nat} (ha : a < 2 ^ 64) (hb : b < 2 ^ 64) : (iand .u64 (ior .u64 ((a : Nat) : Int) ((b : Nat) : Int)) (9259542123273814144 : Int) == (0 : Int)) = decide ((a ||| b) &&& mk80 = 0) := by
  rw [show ior .u64 (a : Int) (b : Int) = ((a ||| b : Nat) : Int) from ior_u .u64 rfl a b ha hb]
  rw [show iand .u64 ((a ||| b : Nat) : Int) (9259542123273814144 : Int) = (((a ||| b) &&& mk80 : Nat) : Int) from iand_u .u64 rfl _ mk80 (Nat.or_lt_two_pow ha hb) (by decide)]
  rw [Bool.eq_iff_iff, beq_iff_eq, decide_eq_true_iff]
  omega
theorem or4_zero {a b c d : Nat} (ha : a < 2 ^ 64) (hb : b < 2 ^ 64) (hc : c < 2 ^ 64) (hd : d < 2 ^ 64) : (iand .u64 (ior .u64 (ior .u64 (a : Int) (b : Int)) (ior .u64 (c : Int) (d : Int))) (9259542123273814144 : Int) == (0 : Int)) = decide (((a ||| b) ||| (c ||| d)) &&& mk80 = 0) := by
  rw [show ior .u64 (a : Int) (b : Int) = ((a ||| b : Nat) : Int) from ior_u .u64 rfl a b ha hb, show ior .u64 (c : Int) (d : Int) = ((c ||| d : Nat) : Int) from ior_u .u64 rfl c d hc hd]
  exact or_zero (Nat.or_lt_two_pow ha hb) (Nat.or_lt_two_pow hc hd)
theorem valid_8 {l : List UInt8} (h8 : 8 ≤ l.length) (h : wd l &&& mk80 = 0) : valid (l.drop 8) = valid l := (valid_skip 8 l (wd_asc h8 h)).symm
theorem L396_1_is (N : Nat) (q : List UInt8 → Option Bool) : ∀ (fuel : Nat) (v : List UInt8), v.length < fuel → ∃ k, L396_1 h401 N q fuel v = q (v.drop k) ∧ valid (v.drop k) = valid v := by
  intro fuel
  induction fuel with
  | zero => intro v h; omega
  | succ m ih =>
    intro v h
    by_cases h1 : 32 < v.length
    · have g1 := h401_is (l := v) (by omega)
      have g2 := h401_is (l := v.drop 8) (by rw [List.length_drop]; omega)
      have g3 := h401_is (l := v.drop 16) (by rw [List.length_drop]; omega)
      have g4 := h401_is (l := v.drop 24) (by rw [List.length_drop]; omega)
      have w1 := wd_lt v
      have w2 := wd_lt (v.drop 8)
      have w3 := wd_lt (v.drop 16)
      have w4 := wd_lt (v.drop 24)
      by_cases hz : ((wd v ||| wd (v.drop 8)) ||| (wd (v.drop 16) ||| wd (v.drop 24))) &&& mk80 = 0
      · obtain ⟨k, e1, e2⟩ := ih (v.drop 32) (by rw [List.length_drop]; omega)
        refine ⟨32 + k, ?_, ?_⟩
        · simp only [L396_1, show (((v.length : Nat) : Int) > 32) by omega, tkd, g1, g2, g3, g4, show ((8 : Int) ≤ ((v.length : Nat) : Int)) by omega, show ((16 : Int) ≤ ((v.length : Nat) : Int)) by omega, show ((24 : Int) ≤ ((v.length : Nat) : Int)) by omega, show ((32 : Int) ≤ ((v.length : Nat) : Int)) by omega, decide_true, cond_true, or4_zero w1 w2 w3 w4, hz, e1, List.drop_drop]
        · rw [← List.drop_drop, e2]
          obtain ⟨z1, z2⟩ := or_asc hz
          obtain ⟨z3, z4⟩ := or_asc z1
          obtain ⟨z5, z6⟩ := or_asc z2
          have y1 := valid_8 (l := v) (by omega) z3
          have y2 := valid_8 (l := v.drop 8) (by rw [List.length_drop]; omega) z4
          have y3 := valid_8 (l := v.drop 16) (by rw [List.length_drop]; omega) z5
          have y4 := valid_8 (l := v.drop 24) (by rw [List.length_drop]; omega) z6
          rw [List.drop_drop] at y2 y3 y4
          rw [y4, y3, y2, y1]
      · refine ⟨0, ?_, rfl⟩
        simp only [L396_1, show (((v.length : Nat) : Int) > 32) by omega, tkd, g1, g2, g3, g4, show ((8 : Int) ≤ ((v.length : Nat) : Int)) by omega, show ((16 : Int) ≤ ((v.length : Nat) : Int)) by omega, show ((24 : Int) ≤ ((v.length : Nat) : Int)) by omega, show ((32 : Int) ≤ ((v.length : Nat) : Int)) by omega, decide_true, cond_true, or4_zero w1 w2 w3 w4, hz, decide_false, cond_false, List.drop_zero]
    · refine ⟨0, ?_, rfl⟩
      simp only [L396_1, show ¬ (((v.length : Nat) : Int) > 32) by omega, decide_false, cond_false, List.drop_zero]
/-! ### the table -/
def tchk (b : Nat) : Bool :=
  match (List.drop (b * 1) vt0)[0]? with
  | none => false
  | some x =>
    decide (0 ≤ ishr .u8 x (4 : Int)) && decide (ishr .u8 x (4 : Int) < 16) && decide (2 ≤ (List.drop ((Int.toNat (ishr .u8 x (4 : Int))) * 2) vt1).length)
     && (sz1 b == 1 || List.take 2 (List.drop 0 (List.drop ((Int.toNat (ishr .u8 x (4 : Int))) * 2) vt1)) == [((lo1 b : Nat) : Int), ((hi1 b : Nat) : Int)])
     && (IntKind.wrap .i64 (iand .u8 x (7 : Int)) == ((sz1 b : Nat) : Int))
theorem tchk_all : ((List.range 128).all fun k => tchk (128 + k)) = true := by kernel_rfl
theorem tab_of {b : Nat} (h : 128 ≤ b) (h2 : b < 256) : ∃ x t, (List.drop (b * 1) vt0)[0]? = some x ∧ (0 : Int) ≤ ishr .u8 x (4 : Int) ∧ ishr .u8 x (4 : Int) < 16 ∧ 2 ≤ (List.drop ((Int.toNat (ishr .u8 x (4 : Int))) * 2) vt1).length
   ∧ List.take 2 (List.drop 0 (List.drop ((Int.toNat (ishr .u8 x (4 : Int))) * 2) vt1)) = t ∧ t.length = 2 ∧ (sz1 b = 1 ∨ t = [((lo1 b : Nat) : Int), ((hi1 b : Nat) : Int)]) ∧ IntKind.wrap .i64 (iand .u8 x (7 : Int)) = ((sz1 b : Nat) : Int) := by
  have hc := List.all_eq_true.1 tchk_all (b - 128) (by simp; omega)
  rw [show 128 + (b - 128) = b by omega] at hc
  unfold tchk at hc
  cases hx : (List.drop (b * 1) vt0)[0]? with
  | none => rw [hx] at hc; cases hc
  | some x =>
    rw [hx] at hc
    simp only [Bool.and_eq_true, Bool.or_eq_true, decide_eq_true_eq, beq_iff_eq] at hc
    obtain ⟨⟨⟨⟨c1, c2⟩, c3⟩, c4⟩, c5⟩ := hc
    exact ⟨x, _, rfl, c1, c2, c3, rfl, by rw [List.drop_zero, List.length_take]; omega, c4, c5⟩
end Go.Proofs.YtchoafdpckknmaaDoorE
