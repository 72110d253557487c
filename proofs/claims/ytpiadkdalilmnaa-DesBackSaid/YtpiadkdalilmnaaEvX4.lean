/- DES: bytes; the laws. -/
import Derived.Test.YtpiadkdalilmnaaEvX3
namespace Go.Proofs.YtpiadkdalilmnaaE
open Go
set_option linter.unusedSimpArgs false
set_option linter.unusedVariables false
/-! ### numbers of bytes -/
def numB (l : List Nat) : Nat := l.foldl (fun a b => a * 256 + b) 0
theorem numB_snoc (l : List Nat) (b : Nat) : numB (l ++ [b]) = numB l * 256 + b := by simp [numB]
theorem fold_lt : ∀ (l : List Nat) (a : Nat), (∀ b ∈ l, b < 256) → l.foldl (fun a b => a * 256 + b) a < (a + 1) * 256 ^ l.length
  | [], a, _ => by simp
  | b :: l, a, h => by
    have h1 := fold_lt l (a * 256 + b) (fun x hx => h x (by simp [hx]))
    have h2 := h b (by simp)
    rw [List.foldl_cons, List.length_cons, Nat.pow_succ]
    have h3 : (a * 256 + b + 1) * 256 ^ l.length ≤ (a + 1) * 256 * 256 ^ l.length := Nat.mul_le_mul_right _ (by omega)
    rw [Nat.mul_comm (256 ^ l.length) 256, ← Nat.mul_assoc]
    omega
theorem numB_lt (l : List Nat) (h : ∀ b ∈ l, b < 256) : numB l < 256 ^ l.length := by
  have := fold_lt l 0 h
  rw [Nat.zero_add, Nat.one_mul] at this
  exact this
theorem numB_step {l : List Nat} {i : Nat} (hi : i < l.length) : numB (l.take (i + 1)) = numB (l.take i) * 256 + l[i] := by
  rw [List.take_add_one, List.getElem?_eq_getElem hi, ← numB_snoc]; rfl
theorem numB_small {l : List Nat} (h : ∀ b ∈ l, b < 256) {i : Nat} (hi : i < l.length) (hl : l.length ≤ 8) : numB (l.take i) < 2 ^ 56 := by
  have h1 := numB_lt (l.take i) (fun b hb => h b (List.mem_of_mem_take hb))
  rw [List.length_take, Nat.min_eq_left (by omega)] at h1
  have : 256 ^ i ≤ 256 ^ 7 := Nat.pow_le_pow_right (by omega) (by omega)
  exact Nat.lt_of_lt_of_le h1 (by simpa using this)
theorem L21_is (N : Nat) (q : Int → Option (Int × Int)) (l : List Nat) (hb : ∀ b ∈ l, b < 256) (hl : l.length ≤ 8) : ∀ (d i fuel : Nat), i + d = l.length → d < fuel →
    L21_0 N q fuel false ((numB (l.take i) : Nat) : Int) (nI l) ((l.length : Nat) : Int) (i : Int) = q ((numB l : Nat) : Int) := by
  intro d
  induction d with
  | zero =>
    intro i fuel hd hf
    obtain ⟨m, rfl⟩ : ∃ m, fuel = m + 1 := ⟨fuel - 1, by omega⟩
    simp only [L21_0, show ¬ ((i : Int) < ((l.length : Nat) : Int)) by omega, decide_false, cond_false]
    rw [List.take_of_length_le (by omega)]
  | succ d ih =>
    intro i fuel hd hf
    obtain ⟨m, rfl⟩ : ∃ m, fuel = m + 1 := ⟨fuel - 1, by omega⟩
    have hi : i < l.length := by omega
    have e1 : geti (nI l) (i : Int) = some ((l[i] : Nat) : Int) := by rw [geti_nat, nI_get, List.getElem?_eq_getElem hi]; rfl
    have hbi := hb l[i] (List.getElem_mem _)
    have hs := numB_small hb hi hl
    have hor : ior .u64 (ishl .u64 ((numB (l.take i) : Nat) : Int) 8) ((l[i] : Nat) : Int) = ((numB (l.take i) * 256 + l[i] : Nat) : Int) := by
      rw [show ishl .u64 ((numB (l.take i) : Nat) : Int) 8 = ((numB (l.take i) * 2 ^ 8 % 18446744073709551616 : Nat) : Int) from shl64 (n := 8) (by omega), Nat.mod_eq_of_lt (by omega), or64 (by omega) (by omega), or8 8 (by omega)]
    simp only [L21_0, show (i : Int) < ((l.length : Nat) : Int) by omega, decide_true, cond_true, e1, cond_false]
    rw [w64 (by omega), hor, up1d (by omega), ← numB_step hi]
    exact ih (i + 1) m (by omega) (by omega)
theorem h21_8 {l : List Nat} (hb : ∀ b ∈ l, b < 256) (hl : l.length = 8) : h21 (nI l) false = some (((numB l : Nat) : Int), 0) := by
  unfold h21 p21
  simp only [nI_len, hl, show ¬ (((8 : Nat) : Int) < 1) by omega, show ¬ (((8 : Nat) : Int) > 8) by omega, decide_false, cond_false]
  have := L21_is 20 (fun y7 => some (y7, 0)) l hb (by omega) 8 0 20 (by omega) (by omega)
  rw [hl] at this
  exact this
theorem L51_is (N : Nat) (q : Int → Option Int) (l : List Nat) (hb : ∀ b ∈ l, b < 256) (hl : l.length ≤ 8) : ∀ (d i fuel : Nat), i + d = l.length → d < fuel →
    L51_0 N q fuel (nI l) ((numB (l.take i) : Nat) : Int) (i : Int) = q ((numB l : Nat) : Int) := by
  intro d
  induction d with
  | zero =>
    intro i fuel hd hf
    obtain ⟨m, rfl⟩ : ∃ m, fuel = m + 1 := ⟨fuel - 1, by omega⟩
    simp only [L51_0, nI_len, show ¬ ((i : Int) < ((l.length : Nat) : Int)) by omega, decide_false, cond_false]
    rw [List.take_of_length_le (by omega)]
  | succ d ih =>
    intro i fuel hd hf
    obtain ⟨m, rfl⟩ : ∃ m, fuel = m + 1 := ⟨fuel - 1, by omega⟩
    have hi : i < l.length := by omega
    have e1 : geti (nI l) (i : Int) = some ((l[i] : Nat) : Int) := by rw [geti_nat, nI_get, List.getElem?_eq_getElem hi]; rfl
    have hbi := hb l[i] (List.getElem_mem _)
    have hs := numB_small hb hi hl
    have hor : iadd .u64 (imul .u64 ((numB (l.take i) : Nat) : Int) 256) ((l[i] : Nat) : Int) = ((numB (l.take i) * 256 + l[i] : Nat) : Int) := by
      rw [show imul .u64 ((numB (l.take i) : Nat) : Int) 256 = ((numB (l.take i) * 256 % 18446744073709551616 : Nat) : Int) from mul64 _ 256, Nat.mod_eq_of_lt (by omega), add64, Nat.mod_eq_of_lt (by omega)]
    simp only [L51_0, nI_len, show (i : Int) < ((l.length : Nat) : Int) by omega, decide_true, cond_true, e1]
    rw [w64 (by omega), hor, up1d (by omega), ← numB_step hi]
    exact ih (i + 1) m (by omega) (by omega)
def h51 (l : List Int) := p51 20 l
theorem E51 : EntOK FT XT 51 (en51 h51) := ok51 fun _ _ h => ⟨20, h⟩
theorem h51_8 {l : List Nat} (hb : ∀ b ∈ l, b < 256) (hl : l.length = 8) : h51 (nI l) = some ((numB l : Nat) : Int) := by
  unfold h51 p51
  exact L51_is 20 (fun y5 => some y5) l hb (by omega) 8 0 20 (by omega) (by omega)
def h50 (x w : Int) := p50 20 x w
theorem E50 : EntOK FT XT 50 (en50 h50) := ok50 fun _ _ _ h => ⟨20, h⟩
def bq (x : Int) : Nat → Int
  | 0 => x
  | n + 1 => iquo .u64 (bq x n) 256
theorem h50_at (x : Int) : h50 x 8 = some [IntKind.wrap .u8 (irem (bq x 7) 256), IntKind.wrap .u8 (irem (bq x 6) 256), IntKind.wrap .u8 (irem (bq x 5) 256), IntKind.wrap .u8 (irem (bq x 4) 256), IntKind.wrap .u8 (irem (bq x 3) 256), IntKind.wrap .u8 (irem (bq x 2) 256), IntKind.wrap .u8 (irem (bq x 1) 256), IntKind.wrap .u8 (irem (bq x 0) 256)] := by kernel_rfl
theorem bq_is {x : Nat} (hx : x < 2 ^ 64) : ∀ n : Nat, bq (x : Int) n = ((x / 256 ^ n : Nat) : Int)
  | 0 => by rw [bq, Nat.pow_zero, Nat.div_one]
  | n + 1 => by
    rw [bq, bq_is hx n, show (256 : Int) = ((256 : Nat) : Int) from rfl, quou (Nat.lt_of_le_of_lt (Nat.div_le_self _ _) hx), Nat.div_div_eq_div_mul, Nat.pow_succ]
theorem h50_8 {x : Nat} (hx : x < 2 ^ 64) : h50 (x : Int) 8 = some (nI (le8 x).reverse) := by
  have w : ∀ n : Nat, IntKind.wrap .u8 (irem (bq (x : Int) n) 256) = ((x / 256 ^ n % 256 : Nat) : Int) := fun n => by
    rw [bq_is hx n, show (256 : Int) = ((256 : Nat) : Int) from rfl, irem_n, w8, Nat.mod_mod]
  rw [h50_at, w, w, w, w, w, w, w, w]
  show some (nI [x / 256 ^ 7 % 256, x / 256 ^ 6 % 256, x / 256 ^ 5 % 256, x / 256 ^ 4 % 256, x / 256 ^ 3 % 256, x / 256 ^ 2 % 256, x / 256 ^ 1 % 256, x / 256 ^ 0 % 256]) = some (nI [x / 2 ^ 56 % 256, x / 2 ^ 48 % 256, x / 2 ^ 40 % 256, x / 2 ^ 32 % 256, x / 2 ^ 24 % 256, x / 2 ^ 16 % 256, x / 2 ^ 8 % 256, x % 256])
  rw [show 256 ^ 7 = 2 ^ 56 from rfl, show 256 ^ 6 = 2 ^ 48 from rfl, show 256 ^ 5 = 2 ^ 40 from rfl, show 256 ^ 4 = 2 ^ 32 from rfl, show 256 ^ 3 = 2 ^ 24 from rfl, show 256 ^ 2 = 2 ^ 16 from rfl, show 256 ^ 1 = 2 ^ 8 from rfl, Nat.pow_zero, Nat.div_one]
/-! ### seven bytes -/
def sevenR (key block : List Nat) : List Nat := (le8 (wordN (turnR (rowN (numB block) 64) (keysR (rowN (numB (spreadN key)) 64))))).reverse
section
variable {c24 : List Int → Option ((List Int) × Int)} {c21 : List Int → Bool → Option (Int × Int)} {c254 c255 : Int → Int → Option Int} {c19 : Int → Int → Bool → Option ((List Int) × Int)} {c36 : List Int → Option ((List Int) × Int)} {c51 : List Int → Option Int} {c50 : Int → Int → Option (List Int)}
theorem p252_is {N : Nat} {a b : List Int} {s o : List Int} {x y r : Int} (ha : a.length = 7) (hb : b.length = 8) (F24 : c24 a = some (s, 0)) (F1 : c21 s false = some (x, 0)) (F2 : c21 b false = some (y, 0)) (F3 : c254 x y = some r) (F4 : c19 r 8 false = some (o, 0)) : p252 c24 c21 c254 c19 N a b = some (o, 0) := by
  unfold p252
  simp only [ha, hb, bne_self_eq_false, cond_false, F24, F1, F2, F3, F4]
  rfl
theorem p252_bad {N : Nat} {a b : List Int} (h : ¬ (a.length = 7 ∧ b.length = 8)) : p252 c24 c21 c254 c19 N a b = some ([], 1) := by
  unfold p252
  by_cases ha : a.length = 7
  · rw [show ((((List.length a) : Nat) : Int) != 7) = false by rw [ha]; rfl, cond_false, show ((((List.length b) : Nat) : Int) != 8) = true from bne_iff_ne.2 (by omega), cond_true]
  · rw [show ((((List.length a) : Nat) : Int) != 7) = true from bne_iff_ne.2 (by omega), cond_true]
theorem p253_is {N : Nat} {a b : List Int} {s o : List Int} {x y r : Int} (ha : a.length = 7) (hb : b.length = 8) (F24 : c36 a = some (s, 0)) (F1 : c51 s = some x) (F2 : c51 b = some y) (F3 : c255 x y = some r) (F4 : c50 r 8 = some o) : p253 c36 c51 c255 c50 N a b = some (o, 0) := by
  unfold p253
  simp only [ha, hb, bne_self_eq_false, cond_false, F24, F1, F2, F3, F4]
  rfl
theorem p253_bad {N : Nat} {a b : List Int} (h : ¬ (a.length = 7 ∧ b.length = 8)) : p253 c36 c51 c255 c50 N a b = some ([], 1) := by
  unfold p253
  by_cases ha : a.length = 7
  · rw [show ((((List.length a) : Nat) : Int) != 7) = false by rw [ha]; rfl, cond_false, show ((((List.length b) : Nat) : Int) != 8) = true from bne_iff_ne.2 (by omega), cond_true]
  · rw [show ((((List.length a) : Nat) : Int) != 7) = true from bne_iff_ne.2 (by omega), cond_true]
end
def h252 (a b : List Int) := p252 f24 h21 h254 h19 0 a b
theorem E252 : EntOK FT XT 252 (en252 h252) := ok252 f24 h21 h254 h19 E24 E21 E254 E19 fun _ _ _ h => ⟨0, h⟩
def h253 (a b : List Int) := p253 f24 h51 h255 h50 0 a b
theorem E253 : EntOK FT XT 253 (en253 h253) := ok253 f24 h51 h255 h50 E36 E51 E255 E50 fun _ _ _ h => ⟨0, h⟩
theorem nat8_nI (l : List Nat) : nat8 (nI l) = l := by
  unfold nat8 nI
  rw [List.map_map]
  exact (List.map_congr_left (fun x _ => by simp)).trans (List.map_id l)
theorem f24_is {a : List Nat} (hb : ∀ b ∈ a, b < 256) (hl : a.length = 7) : f24 (nI a) = some (nI (spreadN a), 0) := by
  unfold f24
  rw [if_pos ⟨fun b hb' => by
    obtain ⟨x, hx, rfl⟩ := List.mem_map.1 hb'
    have := hb x hx
    omega, by rw [nI_len, hl]; omega⟩, if_pos (by rw [nI_len, hl]), nat8_nI]
theorem spread_len (m : List Nat) : (spreadN m).length = 8 := by unfold spreadN; rw [List.length_map, List.length_range']
theorem num8_lt {l : List Nat} (hb : ∀ b ∈ l, b < 256) (hl : l.length = 8) : numB l < 2 ^ 64 := by
  have := numB_lt l hb
  rw [hl] at this
  exact this
theorem seven_is {a b : List Nat} (ha : ∀ x ∈ a, x < 256) (hb : ∀ x ∈ b, x < 256) (hal : a.length = 7) (hbl : b.length = 8) : h252 (nI a) (nI b) = some (nI (sevenR a b), 0) ∧ h253 (nI a) (nI b) = some (nI (sevenR a b), 0) := by
  have k1 := num8_lt (l := spreadN a) (fun x hx => spread_lt x hx) (spread_len a)
  have k2 := num8_lt hb hbl
  have k3 := word_turn64 (bits_rowN (numB b) 64) (keysR (rowN (numB (spreadN a)) 64))
  exact ⟨p252_is (by rw [nI_len, hal]) (by rw [nI_len, hbl]) (f24_is ha hal) (h21_8 (fun x hx => spread_lt x hx) (spread_len a)) (h21_8 hb hbl) (h254_is k1 k2) (put_be8 _),
    p253_is (by rw [nI_len, hal]) (by rw [nI_len, hbl]) (f24_is ha hal) (h51_8 (fun x hx => spread_lt x hx) (spread_len a)) (h51_8 hb hbl) (h255_is k1 k2) (h50_8 k3)⟩
/-! ### the probe -/
theorem known : wordN (turnR (rowN 81985529216486895 64) (keysR (rowN 1383827165325090801 64))) = 9648983453391827973 := by kernel_rfl
theorem p251_is {c252 : List Int → List Int → Option ((List Int) × Int)} {c254 c245 : Int → Int → Option Int} {N : Nat} {l : List Int} (F1 : c252 [0, 0, 0, 0, 0, 0, 0] [0, 0, 0, 0, 0, 0, 0, 0] = some (l, 0)) (hl : l.length = 8) (F2 : c254 1383827165325090801 81985529216486895 = some 9648983453391827973) (F3 : c245 1 0 = some 14) : p251 c252 c254 c245 N = some true := by
  unfold p251
  rw [F1, F2, F3]
  simp only [hl]
  rfl
def f251 : Option Bool := some true
theorem h254_known : h254 1383827165325090801 81985529216486895 = some 9648983453391827973 := by
  have := h254_is (k := 1383827165325090801) (x := 81985529216486895) (by omega) (by omega)
  rw [known] at this
  exact this
theorem E251 : EntOK FT XT 251 (en251 f251) := ok251 h252 h254 h245 E252 E254 E245 fun r h => ⟨0, by
  rw [← h]
  exact p251_is (l := nI (sevenR [0, 0, 0, 0, 0, 0, 0] [0, 0, 0, 0, 0, 0, 0, 0])) (seven_is (a := [0, 0, 0, 0, 0, 0, 0]) (b := [0, 0, 0, 0, 0, 0, 0, 0]) (by decide) (by decide) rfl rfl).1 (by rw [nI_len]; rfl) h254_known (by kernel_rfl)⟩
/-! ### the laws -/
theorem u64_of {x : Int} (h : (Lit.int .u64 x).wf = true) : ∃ n : Nat, x = n ∧ n < 2 ^ 64 := by
  have := wf_u (k := .u64) rfl h
  exact ⟨x.toNat, by omega, by have h2 := this.2; have h3 : x < 2 ^ 64 := h2; omega⟩
theorem bytes_of {l : List Int} (h : ∀ x ∈ l, (Lit.int .u8 x).wf = true) : ∃ r : List Nat, l = nI r ∧ ∀ b ∈ r, b < 256 := by
  refine ⟨l.map Int.toNat, ?_, fun b hb => ?_⟩
  · unfold nI
    rw [List.map_map]
    exact ((List.map_congr_left (fun x hx => by have := (wf_u (k := .u8) rfl (h x hx)).1; show ((x.toNat : Nat) : Int) = x; omega)).trans (List.map_id l)).symm
  · obtain ⟨x, hx, rfl⟩ := List.mem_map.1 hb
    have h1 := wf_u (k := .u8) rfl (h x hx)
    have h2 : x < 256 := h1.2
    omega
section
variable {c245 c246 c249 c250 c254 c255 c256 c257 : Int → Int → Option Int} {c247 c248 : Int → Option (List Int)} {c251 : Option Bool} {c252 c253 : List Int → List Int → Option ((List Int) × Int)} {c23 : List Int → List Int → Option Bool}
theorem p240_is (A : c251 = some true) {N : Nat} {n k x a b : Int} {l : List Int} (F1 : c245 n k = some a) (F2 : c246 n k = some a) (F3 : c247 k = some l) (F4 : c248 k = some l) (hl : l.length = 16) (F5 : c249 x k = some b) (F6 : c250 x k = some b) : p240 c245 c246 c247 c248 c249 c250 c251 N n k x = some true := by
  unfold p240
  simp only [F1, F2, F3, F4, hl, F5, F6, A, beq_self_eq_true, cond_true, Bool.and_self]
theorem p242_is (A : c251 = some true) {N : Nat} {k x a b : Int} (F1 : c254 k x = some a) (F2 : c255 k x = some a) (F3 : c256 k x = some b) (F4 : c257 k x = some b) : p242 c254 c255 c256 c257 c251 N k x = some true := by
  unfold p242
  simp only [F1, F2, F3, F4, A, beq_self_eq_true, cond_true]
theorem p243_is (A : c251 = some true) {N : Nat} {k x z k' a b : Int} (F1 : c254 k x = some a) (F2 : c256 k a = some x) (F3 : c256 k x = some b) (F4 : c254 k b = some x) (hk : ixor .u64 k (iand .u64 z 72340172838076673) = k') (F5 : c254 k' x = some a) : p243 c254 c256 c251 N k x z = some true := by
  unfold p243
  simp only [F1, F2, F3, F4, hk, F5, A, beq_self_eq_true, cond_true]
theorem p244_is (A : c251 = some true) {N : Nat} {k x k' x' a b : Int} (hk : ixor .u64 18446744073709551615 k = k') (hx : ixor .u64 18446744073709551615 x = x') (F1 : c254 k' x' = some (ixor .u64 18446744073709551615 a)) (F2 : c254 k x = some a) (F3 : c256 k' x' = some (ixor .u64 18446744073709551615 b)) (F4 : c256 k x = some b) : p244 c254 c256 c251 N k x = some true := by
  unfold p244
  simp only [hk, hx, F1, F2, F3, F4, A, beq_self_eq_true, cond_true]
theorem p241_is (A : c251 = some true) {N : Nat} {a b l : List Int} {e : Int} (F : a.length ≤ 100 → b.length ≤ 100 → c252 a b = some (l, e) ∧ c253 a b = some (l, e) ∧ c23 l l = some true) : p241 c251 c252 c253 c23 N a b = some true := by
  unfold p241
  by_cases h1 : a.length ≤ 100
  · by_cases h2 : b.length ≤ 100
    · obtain ⟨G1, G2, G3⟩ := F h1 h2
      rw [show decide ((((List.length a) : Nat) : Int) > 100) = false from decide_eq_false (by omega), cond_false, show decide ((((List.length b) : Nat) : Int) > 100) = false from decide_eq_false (by omega), cond_false]
      simp only [G1, G2, G3, A, beq_self_eq_true, cond_true]
    · rw [show decide ((((List.length a) : Nat) : Int) > 100) = false from decide_eq_false (by omega), cond_false, show decide ((((List.length b) : Nat) : Int) > 100) = true from decide_eq_true (by omega), cond_true, A]
  · rw [show decide ((((List.length a) : Nat) : Int) > 100) = true from decide_eq_true (by omega), cond_true, A]
end
def f240 (n k x : Int) : Option Bool := if (Lit.int .u64 k).wf = true ∧ (Lit.int .u32 x).wf = true then some true else none
theorem E240 : EntOK FT XT 240 (en240 f240) := ok240 h245 h246 h247 h248 h249 h250 f251 E245 E246 E247 E248 E249 E250 E251 fun n k x r h => ⟨0, by
  unfold f240 at h
  split at h <;> try (cases h; done)
  rename_i hc
  rw [← h]
  obtain ⟨k, rfl, hk⟩ := u64_of hc.1
  have hx := wf_u (k := .u32) rfl hc.2
  obtain ⟨y, rfl⟩ : ∃ y : Nat, x = y := ⟨x.toNat, by omega⟩
  have hy : y < 2 ^ 32 := by have h2 : ((y : Nat) : Int) < 2 ^ 32 := hx.2; omega
  exact p240_is rfl (l := nI (wkeys (keysR (rowN k 64)))) ((box_same hk).trans (h246_is hk)) (h246_is hk) (h247_is hk) (h248_is hk) (by rw [wkeys_len, keysR_len]) (h249_is hy hk) (h250_is hy hk)⟩
theorem law240 (z0 z1 z2 : Int) (h0 : (Lit.int .i64 z0).wf = true) (h1 : (Lit.int .u64 z1).wf = true) (h2 : (Lit.int .u32 z2).wf = true) : Ans FT XT 240 (encL [Sh.int .i64, Sh.int .u64, Sh.int .u32] (z0, (z1, (z2, ())))) [] (.bool true) [] :=
  E240.2 (z0, (z1, (z2, ()))) true (if_pos ⟨h1, h2⟩)
def f242 (k x : Int) : Option Bool := if (Lit.int .u64 k).wf = true ∧ (Lit.int .u64 x).wf = true then some true else none
theorem E242 : EntOK FT XT 242 (en242 f242) := ok242 h254 h255 h256 h257 f251 E254 E255 E256 E257 E251 fun k x r h => ⟨0, by
  unfold f242 at h
  split at h <;> try (cases h; done)
  rename_i hc
  rw [← h]
  obtain ⟨k, rfl, hk⟩ := u64_of hc.1
  obtain ⟨x, rfl, hx⟩ := u64_of hc.2
  exact p242_is rfl (h254_is hk hx) (h255_is hk hx) (h256_is hk hx) (h257_is hk hx)⟩
theorem law242 (z0 z1 : Int) (h0 : (Lit.int .u64 z0).wf = true) (h1 : (Lit.int .u64 z1).wf = true) : Ans FT XT 242 (encL [Sh.int .u64, Sh.int .u64] (z0, (z1, ()))) [] (.bool true) [] :=
  E242.2 (z0, (z1, ())) true (if_pos ⟨h0, h1⟩)
def f243 (k x z : Int) : Option Bool := if (Lit.int .u64 k).wf = true ∧ (Lit.int .u64 x).wf = true ∧ (Lit.int .u64 z).wf = true then some true else none
theorem mod64 {x : Nat} (hx : x < 2 ^ 64) : wordN (rowN x 64) = x := by rw [word_rowN, Nat.mod_eq_of_lt hx]
theorem E243 : EntOK FT XT 243 (en243 f243) := ok243 h254 h256 f251 E254 E256 E251 fun k x z r h => ⟨0, by
  unfold f243 at h
  split at h <;> try (cases h; done)
  rename_i hc
  rw [← h]
  obtain ⟨k, rfl, hk⟩ := u64_of hc.1
  obtain ⟨x, rfl, hx⟩ := u64_of hc.2.1
  obtain ⟨z, rfl, hz⟩ := u64_of hc.2.2
  have hr := bits_rowN x 64
  have t1 := turnR_bits hr (keysR (rowN k 64))
  have t2 := turnR_bits hr (keysR (rowN k 64)).reverse
  have g1 := h256_is hk (word_lt t1)
  rw [row_word t1, turnR_back hr, mod64 hx] at g1
  have g2 := h254_is hk (word_lt t2)
  have hb := turnR_back hr (keysR (rowN k 64)).reverse
  rw [List.reverse_reverse] at hb
  rw [row_word t2, hb, mod64 hx] at g2
  have ha : iand .u64 (z : Int) 72340172838076673 = ((z &&& 72340172838076673 : Nat) : Int) := iand_u .u64 rfl z 72340172838076673 hz (by show _ < 2 ^ 64; omega)
  have hlt : z &&& 72340172838076673 < 2 ^ 64 := Nat.lt_of_le_of_lt Nat.and_le_left hz
  have g3 := h254_is (Nat.xor_lt_two_pow hk hlt) hx
  rw [keys_low] at g3
  exact p243_is rfl (h254_is hk hx) g1 (h256_is hk hx) g2 (by rw [ha, xor64 hk hlt]) g3⟩
theorem law243 (z0 z1 z2 : Int) (h0 : (Lit.int .u64 z0).wf = true) (h1 : (Lit.int .u64 z1).wf = true) (h2 : (Lit.int .u64 z2).wf = true) : Ans FT XT 243 (encL [Sh.int .u64, Sh.int .u64, Sh.int .u64] (z0, (z1, (z2, ())))) [] (.bool true) [] :=
  E243.2 (z0, (z1, (z2, ()))) true (if_pos ⟨h0, h1, h2⟩)
def f244 (k x : Int) : Option Bool := if (Lit.int .u64 k).wf = true ∧ (Lit.int .u64 x).wf = true then some true else none
theorem E244 : EntOK FT XT 244 (en244 f244) := ok244 h254 h256 f251 E254 E256 E251 fun k x r h => ⟨0, by
  unfold f244 at h
  split at h <;> try (cases h; done)
  rename_i hc
  rw [← h]
  obtain ⟨k, rfl, hk⟩ := u64_of hc.1
  obtain ⟨x, rfl, hx⟩ := u64_of hc.2
  have hm : (18446744073709551615 : Nat) < 2 ^ 64 := by omega
  have hk' := Nat.xor_lt_two_pow hm hk
  have hx' := Nat.xor_lt_two_pow hm hx
  have hr := bits_rowN x 64
  have hkb := keysR_bits (bits_rowN k 64)
  have t1 := turnR_bits hr (keysR (rowN k 64))
  have t2 := turnR_bits hr (keysR (rowN k 64)).reverse
  have g1 := h254_is hk' hx'
  rw [row_not, row_not, keysR_neg (bits_rowN k 64), turnR_neg hr hkb, word_not t1] at g1
  have g2 := h256_is hk' hx'
  rw [row_not, row_not, keysR_neg (bits_rowN k 64), ← List.map_reverse, turnR_neg hr (fun y hy => hkb y (List.mem_reverse.1 hy)), word_not t2] at g2
  exact p244_is rfl (xor64 hm hk) (xor64 hm hx) (g1.trans (congrArg some (xor64 hm (word_lt t1)).symm)) (h254_is hk hx) (g2.trans (congrArg some (xor64 hm (word_lt t2)).symm)) (h256_is hk hx)⟩
theorem law244 (z0 z1 : Int) (h0 : (Lit.int .u64 z0).wf = true) (h1 : (Lit.int .u64 z1).wf = true) : Ans FT XT 244 (encL [Sh.int .u64, Sh.int .u64] (z0, (z1, ()))) [] (.bool true) [] :=
  E244.2 (z0, (z1, ())) true (if_pos ⟨h0, h1⟩)
open Classical in
noncomputable def f241 (a b : List Int) : Option Bool := if (∀ x ∈ a, (Lit.int .u8 x).wf = true) ∧ (∀ x ∈ b, (Lit.int .u8 x).wf = true) then some true else none
theorem E241 : EntOK FT XT 241 (en241 f241) := ok241 f251 h252 h253 f23 E251 E252 E253 E23 fun a b r h => ⟨0, by
  unfold f241 at h
  split at h <;> try (cases h; done)
  rename_i hc
  rw [← h]
  obtain ⟨a, rfl, ha⟩ := bytes_of hc.1
  obtain ⟨b, rfl, hb⟩ := bytes_of hc.2
  by_cases hs : a.length = 7 ∧ b.length = 8
  · obtain ⟨g1, g2⟩ := seven_is ha hb hs.1 hs.2
    exact p241_is rfl fun _ _ => ⟨g1, g2, by unfold f23; rw [if_pos (by rw [nI_len]; show (le8 _).reverse.length ≤ _; rw [List.length_reverse]; show 8 ≤ 2 ^ 20; omega)]; simp⟩
  · have hs' : ¬ ((nI a).length = 7 ∧ (nI b).length = 8) := by rw [nI_len, nI_len]; exact hs
    exact p241_is (l := []) (e := 1) rfl fun _ _ => ⟨p252_bad hs', p253_bad hs', rfl⟩⟩
theorem law241 (z0 z1 : List Int) (h0 : z0.length ≤ maxLen ∧ ∀ x ∈ z0, (Lit.int .u8 x).wf = true) (h1 : z1.length ≤ maxLen ∧ ∀ x ∈ z1, (Lit.int .u8 x).wf = true) : Ans FT XT 241 (encL [Sh.sl (.int .u8), Sh.sl (.int .u8)] (z0, (z1, ()))) [] (.bool true) [] :=
  E241.2 (z0, (z1, ())) true (if_pos ⟨h0.2, h1.2⟩)
end Go.Proofs.YtpiadkdalilmnaaE
