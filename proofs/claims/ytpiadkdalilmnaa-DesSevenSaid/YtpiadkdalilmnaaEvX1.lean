/- DES by rows of bits; the document's answer. -/
import Derived.Test.YtpiadkdalilmnaaEvD0
namespace Go.Proofs.YtpiadkdalilmnaaE
open Go
set_option linter.unusedSimpArgs false
set_option linter.unusedVariables false
/-! ### the tables -/
def tFirst : List Nat := [58, 50, 42, 34, 26, 18, 10, 2, 60, 52, 44, 36, 28, 20, 12, 4, 62, 54, 46, 38, 30, 22, 14, 6, 64, 56, 48, 40, 32, 24, 16, 8, 57, 49, 41, 33, 25, 17, 9, 1, 59, 51, 43, 35, 27, 19, 11, 3, 61, 53, 45, 37, 29, 21, 13, 5, 63, 55, 47, 39, 31, 23, 15, 7]
def tLast : List Nat := [40, 8, 48, 16, 56, 24, 64, 32, 39, 7, 47, 15, 55, 23, 63, 31, 38, 6, 46, 14, 54, 22, 62, 30, 37, 5, 45, 13, 53, 21, 61, 29, 36, 4, 44, 12, 52, 20, 60, 28, 35, 3, 43, 11, 51, 19, 59, 27, 34, 2, 42, 10, 50, 18, 58, 26, 33, 1, 41, 9, 49, 17, 57, 25]
def tWide : List Nat := [32, 1, 2, 3, 4, 5, 4, 5, 6, 7, 8, 9, 8, 9, 10, 11, 12, 13, 12, 13, 14, 15, 16, 17, 16, 17, 18, 19, 20, 21, 20, 21, 22, 23, 24, 25, 24, 25, 26, 27, 28, 29, 28, 29, 30, 31, 32, 1]
def tMix : List Nat := [16, 7, 20, 21, 29, 12, 28, 17, 1, 15, 23, 26, 5, 18, 31, 10, 2, 8, 24, 14, 32, 27, 3, 9, 19, 13, 30, 6, 22, 11, 4, 25]
def tKeys : List Nat := [57, 49, 41, 33, 25, 17, 9, 1, 58, 50, 42, 34, 26, 18, 10, 2, 59, 51, 43, 35, 27, 19, 11, 3, 60, 52, 44, 36, 63, 55, 47, 39, 31, 23, 15, 7, 62, 54, 46, 38, 30, 22, 14, 6, 61, 53, 45, 37, 29, 21, 13, 5, 28, 20, 12, 4]
def tRounds : List Nat := [14, 17, 11, 24, 1, 5, 3, 28, 15, 6, 21, 10, 23, 19, 12, 4, 26, 8, 16, 7, 27, 20, 13, 2, 41, 52, 31, 37, 47, 55, 30, 40, 51, 45, 33, 48, 44, 49, 39, 56, 34, 53, 46, 42, 50, 36, 29, 32]
def boxT : Nat → List Nat
  | 1 => [14, 4, 13, 1, 2, 15, 11, 8, 3, 10, 6, 12, 5, 9, 0, 7, 0, 15, 7, 4, 14, 2, 13, 1, 10, 6, 12, 11, 9, 5, 3, 8, 4, 1, 14, 8, 13, 6, 2, 11, 15, 12, 9, 7, 3, 10, 5, 0, 15, 12, 8, 2, 4, 9, 1, 7, 5, 11, 3, 14, 10, 0, 6, 13]
  | 2 => [15, 1, 8, 14, 6, 11, 3, 4, 9, 7, 2, 13, 12, 0, 5, 10, 3, 13, 4, 7, 15, 2, 8, 14, 12, 0, 1, 10, 6, 9, 11, 5, 0, 14, 7, 11, 10, 4, 13, 1, 5, 8, 12, 6, 9, 3, 2, 15, 13, 8, 10, 1, 3, 15, 4, 2, 11, 6, 7, 12, 0, 5, 14, 9]
  | 3 => [10, 0, 9, 14, 6, 3, 15, 5, 1, 13, 12, 7, 11, 4, 2, 8, 13, 7, 0, 9, 3, 4, 6, 10, 2, 8, 5, 14, 12, 11, 15, 1, 13, 6, 4, 9, 8, 15, 3, 0, 11, 1, 2, 12, 5, 10, 14, 7, 1, 10, 13, 0, 6, 9, 8, 7, 4, 15, 14, 3, 11, 5, 2, 12]
  | 4 => [7, 13, 14, 3, 0, 6, 9, 10, 1, 2, 8, 5, 11, 12, 4, 15, 13, 8, 11, 5, 6, 15, 0, 3, 4, 7, 2, 12, 1, 10, 14, 9, 10, 6, 9, 0, 12, 11, 7, 13, 15, 1, 3, 14, 5, 2, 8, 4, 3, 15, 0, 6, 10, 1, 13, 8, 9, 4, 5, 11, 12, 7, 2, 14]
  | 5 => [2, 12, 4, 1, 7, 10, 11, 6, 8, 5, 3, 15, 13, 0, 14, 9, 14, 11, 2, 12, 4, 7, 13, 1, 5, 0, 15, 10, 3, 9, 8, 6, 4, 2, 1, 11, 10, 13, 7, 8, 15, 9, 12, 5, 6, 3, 0, 14, 11, 8, 12, 7, 1, 14, 2, 13, 6, 15, 0, 9, 10, 4, 5, 3]
  | 6 => [12, 1, 10, 15, 9, 2, 6, 8, 0, 13, 3, 4, 14, 7, 5, 11, 10, 15, 4, 2, 7, 12, 9, 5, 6, 1, 13, 14, 0, 11, 3, 8, 9, 14, 15, 5, 2, 8, 12, 3, 7, 0, 4, 10, 1, 13, 11, 6, 4, 3, 2, 12, 9, 5, 15, 10, 11, 14, 1, 7, 6, 0, 8, 13]
  | 7 => [4, 11, 2, 14, 15, 0, 8, 13, 3, 12, 9, 7, 5, 10, 6, 1, 13, 0, 11, 7, 4, 9, 1, 10, 14, 3, 5, 12, 2, 15, 8, 6, 1, 4, 11, 13, 12, 3, 7, 14, 10, 15, 6, 8, 0, 5, 9, 2, 6, 11, 13, 8, 1, 4, 10, 7, 9, 5, 0, 15, 14, 2, 3, 12]
  | 8 => [13, 2, 8, 4, 6, 15, 11, 1, 10, 9, 3, 14, 5, 0, 12, 7, 1, 15, 13, 8, 10, 3, 7, 4, 12, 5, 6, 11, 0, 14, 9, 2, 7, 11, 4, 1, 9, 12, 14, 2, 0, 6, 10, 13, 15, 3, 5, 8, 2, 1, 14, 7, 4, 10, 8, 13, 15, 12, 9, 0, 3, 5, 6, 11]
  | _ => List.replicate 64 0

/-! ### rows and words -/
def bits (w : Nat) (l : List Nat) : Prop := l.length = w ∧ ∀ b ∈ l, b < 2
theorem bits_rowN (x w : Nat) : bits w (rowN x w) := ⟨rowN_len x w, rowN_lt x w⟩
theorem getD_lt {l : List Nat} (h : ∀ b ∈ l, b < 2) (i : Nat) : l.getD i 0 < 2 := by
  rw [List.getD_eq_getElem?_getD]
  cases hh : l[i]? with
  | none => exact Nat.zero_lt_two
  | some b => exact h b (List.mem_of_getElem? hh)
def byT (row : List Nat) (t : List Nat) : List Nat := t.map fun i => row.getD (i - 1) 0
theorem bits_byT {w : Nat} {row : List Nat} (h : bits w row) (t : List Nat) : bits t.length (byT row t) := by
  refine ⟨by unfold byT; rw [List.length_map], fun b hb => ?_⟩
  unfold byT at hb
  obtain ⟨i, _, rfl⟩ := List.mem_map.1 hb
  exact getD_lt h.2 _
theorem bits_app {a b : Nat} {l r : List Nat} (h : bits a l) (g : bits b r) : bits (a + b) (l ++ r) :=
  ⟨by rw [List.length_append, h.1, g.1], fun x hx => (List.mem_append.1 hx).elim (h.2 x) (g.2 x)⟩
theorem bits_take {w n : Nat} {l : List Nat} (h : bits w l) (hn : n ≤ w) : bits n (l.take n) :=
  ⟨by rw [List.length_take, h.1]; omega, fun x hx => h.2 x (List.mem_of_mem_take hx)⟩
theorem bits_drop {w n : Nat} {l : List Nat} (h : bits w l) : bits (w - n) (l.drop n) :=
  ⟨by rw [List.length_drop, h.1], fun x hx => h.2 x (List.mem_of_mem_drop hx)⟩
def xorL (a b : List Nat) : List Nat := List.zipWith (· ^^^ ·) a b
theorem xor2 {a b : Nat} (ha : a < 2) (hb : b < 2) : a ^^^ b < 2 := Nat.xor_lt_two_pow (n := 1) ha hb
theorem bits_xor {w : Nat} {l r : List Nat} (h : bits w l) (g : bits w r) : bits w (xorL l r) := by
  refine ⟨by unfold xorL; rw [List.length_zipWith, h.1, g.1, Nat.min_self], fun x hx => ?_⟩
  unfold xorL at hx
  obtain ⟨i, hi⟩ := List.mem_iff_getElem?.1 hx
  rw [List.getElem?_zipWith] at hi
  cases h1 : l[i]? with
  | none => rw [h1] at hi; cases hi
  | some a =>
    cases h2 : r[i]? with
    | none => rw [h1, h2] at hi; cases hi
    | some b =>
      rw [h1, h2] at hi
      injection hi with hi
      rw [← hi]
      exact xor2 (h.2 a (List.mem_of_getElem? h1)) (g.2 b (List.mem_of_getElem? h2))
theorem row_word {w : Nat} {l : List Nat} (h : bits w l) : rowN (wordN l) w = l := by
  apply List.ext_getElem?
  intro j
  by_cases hj : j < w
  · rw [rowN_get' _ _ _ hj, wordN_bit l _ h.2, List.getElem?_reverse (by rw [h.1]; omega), h.1, show w - 1 - (w - 1 - j) = j by omega]
    obtain ⟨b, hl⟩ : ∃ b, l[j]? = some b := ⟨_, List.getElem?_eq_getElem (by rw [h.1]; exact hj)⟩
    rw [hl]
    have := h.2 b (List.mem_of_getElem? hl)
    have : b = 0 ∨ b = 1 := by omega
    rcases this with rfl | rfl <;> rfl
  · rw [rowN_none _ _ _ (by omega), List.getElem?_eq_none (by rw [h.1]; omega)]
theorem word_lt {w : Nat} {l : List Nat} (h : bits w l) : wordN l < 2 ^ w := by have := wordN_lt l h.2; rwa [h.1] at this
theorem word_app {a b : Nat} {l r : List Nat} (hl : bits a l) (hr : bits b r) : wordN (l ++ r) = wordN l * 2 ^ b + wordN r := by
  have h1 := rowN_app (wordN l) (wordN r) a b (word_lt hr)
  rw [row_word hl, row_word hr] at h1
  rw [h1, word_rowN, Nat.mod_eq_of_lt]
  have h2 := word_lt hl
  have h3 := word_lt hr
  rw [Nat.pow_add]
  have : (wordN l + 1) * 2 ^ b ≤ 2 ^ a * 2 ^ b := Nat.mul_le_mul_right _ h2
  rw [Nat.add_mul] at this
  omega
theorem row_xor (x y w : Nat) : xorL (rowN x w) (rowN y w) = rowN (x ^^^ y) w := by
  apply List.ext_getElem?
  intro j
  unfold xorL
  rw [List.getElem?_zipWith]
  by_cases hj : j < w
  · rw [rowN_get' _ _ _ hj, rowN_get' _ _ _ hj, rowN_get' _ _ _ hj, Nat.testBit_xor]
    cases x.testBit (w - 1 - j) <;> cases y.testBit (w - 1 - j) <;> rfl
  · rw [rowN_none _ _ _ (by omega), rowN_none _ _ _ (by omega), rowN_none _ _ _ (by omega)]
theorem word_xor {w : Nat} {l r : List Nat} (h : bits w l) (g : bits w r) : wordN (xorL l r) = wordN l ^^^ wordN r := by
  have := row_xor (wordN l) (wordN r) w
  rw [row_word h, row_word g] at this
  rw [this, word_rowN, Nat.mod_eq_of_lt (Nat.xor_lt_two_pow (word_lt h) (word_lt g))]
theorem rowN_mod (x w : Nat) : rowN (x % 2 ^ w) w = rowN x w := by rw [← word_rowN, row_word (bits_rowN x w)]
/-! ### boxes -/
def idxR (six : List Nat) : Nat := 16 * (2 * six.getD 0 0 + six.getD 5 0) + wordN ((six.drop 1).take 4)
def digR (n : Nat) (six : List Nat) : Nat := (boxT n).getD (idxR six) 0
theorem box_lt : ∀ n i : Nat, (boxT n).getD i 0 < 16 := by
  intro n i
  have h8 : ∀ n, ∀ b ∈ boxT n, b < 16 := fun n => by
    unfold boxT
    split <;> first | decide | (intro b hb; rw [List.eq_of_mem_replicate hb]; omega)
  rw [List.getD_eq_getElem?_getD]
  cases hh : (boxT n)[i]? with
  | none => exact Nat.zero_lt_succ _
  | some b => exact h8 n b (List.mem_of_getElem? hh)
theorem boxT_len (n : Nat) : (boxT n).length = 64 := by
  unfold boxT
  split <;> rfl
theorem idx_lt {six : List Nat} (h : bits 6 six) : idxR six < 64 := by
  have h1 := getD_lt h.2 0
  have h2 := getD_lt h.2 5
  have h3 := word_lt (bits_take (n := 4) (bits_drop (n := 1) h) (by omega))
  unfold idxR
  omega
/-! ### the word of a round, keys, blocks -/
def sixes (x : List Nat) (i : Nat) : List Nat := (x.drop (6 * i)).take 6
def nibs (x : List Nat) (k : Nat) : List Nat := (List.range k).flatMap fun i => rowN (digR (i + 1) (sixes x i)) 4
theorem nibs_succ (x : List Nat) (k : Nat) : nibs x (k + 1) = nibs x k ++ rowN (digR (k + 1) (sixes x k)) 4 := by
  unfold nibs
  rw [List.range_succ, List.flatMap_append]
  simp
theorem bits_nibs (x : List Nat) : ∀ k, bits (4 * k) (nibs x k)
  | 0 => ⟨rfl, fun b hb => by cases hb⟩
  | k + 1 => by rw [nibs_succ]; exact bits_app (bits_nibs x k) (bits_rowN _ _)
def fR (half key : List Nat) : List Nat := byT (nibs (xorL (byT half tWide) key) 8) tMix
theorem bits_fR {half key : List Nat} : bits 32 (fR half key) := bits_byT (bits_nibs _ 8) tMix
def rot (n : Nat) (l : List Nat) : List Nat := l.drop n ++ l.take n
theorem bits_rot {w n : Nat} {l : List Nat} (h : bits w l) (hn : n ≤ w) : bits w (rot n l) := by
  have := bits_app (bits_drop (n := n) h) (bits_take h hn)
  rwa [show w - n + n = w by omega] at this
def shs : List Nat := [1, 1, 2, 2, 2, 2, 2, 2, 1, 2, 2, 2, 2, 2, 2, 1]
def keysGo (c d : List Nat) : List Nat → List (List Nat)
  | [] => []
  | n :: ns => byT (rot n c ++ rot n d) tRounds :: keysGo (rot n c) (rot n d) ns
def keysR (row : List Nat) : List (List Nat) := keysGo ((byT row tKeys).take 28) ((byT row tKeys).drop 28) shs
theorem keysGo_bits : ∀ (ns : List Nat) (c d : List Nat), (∀ n ∈ ns, n ≤ 28) → bits 28 c → bits 28 d → ∀ k ∈ keysGo c d ns, bits 48 k
  | [], c, d, _, _, _, k, hk => by cases hk
  | n :: ns, c, d, hn, hc, hd, k, hk => by
    have c1 := bits_rot hc (hn n (by simp))
    have d1 := bits_rot hd (hn n (by simp))
    rcases List.mem_cons.1 hk with rfl | hk
    · exact bits_byT (bits_app c1 d1) tRounds
    · exact keysGo_bits ns _ _ (fun m hm => hn m (by simp [hm])) c1 d1 k hk
theorem keysGo_len : ∀ (ns : List Nat) (c d : List Nat), (keysGo c d ns).length = ns.length
  | [], _, _ => rfl
  | n :: ns, c, d => by rw [keysGo, List.length_cons, List.length_cons, keysGo_len ns]
theorem keysR_bits {row : List Nat} (h : bits 64 row) : ∀ k ∈ keysR row, bits 48 k := by
  have hb : bits 56 (byT row tKeys) := bits_byT h tKeys
  exact keysGo_bits shs _ _ (by decide) (bits_take hb (by omega)) (bits_drop (n := 28) hb)
theorem keysR_len (row : List Nat) : (keysR row).length = 16 := keysGo_len shs _ _
def goR : List (List Nat) → List Nat × List Nat → List Nat × List Nat
  | [], s => s
  | k :: ks, s => goR ks (s.2, xorL s.1 (fR s.2 k))
def turnR (row : List Nat) (ks : List (List Nat)) : List Nat :=
  let s := goR ks ((byT row tFirst).take 32, (byT row tFirst).drop 32)
  byT (s.2 ++ s.1) tLast
theorem goR_bits : ∀ (ks : List (List Nat)) (s : List Nat × List Nat), bits 32 s.1 → bits 32 s.2 → bits 32 (goR ks s).1 ∧ bits 32 (goR ks s).2
  | [], s, h1, h2 => ⟨h1, h2⟩
  | k :: ks, s, h1, h2 => goR_bits ks _ h2 (bits_xor h1 bits_fR)
theorem turnR_bits {row : List Nat} (h : bits 64 row) (ks : List (List Nat)) : bits 64 (turnR row ks) := by
  have hb : bits 64 (byT row tFirst) := bits_byT h tFirst
  have := goR_bits ks ((byT row tFirst).take 32, (byT row tFirst).drop 32) (bits_take hb (by omega)) (bits_drop (n := 32) hb)
  exact bits_byT (bits_app this.2 this.1) tLast
/-! ### the document's functions -/
theorem up1d {i : Nat} (h : i < 2 ^ 62) : iadd .i64 (i : Int) 1 = ((i + 1 : Nat) : Int) := by rw [iadd_i (by omega) (by omega)]; omega
theorem subd {a b : Nat} (h : b ≤ a) (h2 : a < 2 ^ 62) : isub .i64 (a : Int) (b : Int) = ((a - b : Nat) : Int) := by rw [isub_i (by omega) (by omega)]; omega
theorem xorb {a b : Nat} (ha : a < 256) (hb : b < 256) : ixor .u8 (a : Int) (b : Int) = ((a ^^^ b : Nat) : Int) := ixor_u .u8 rfl a b ha hb
theorem nI_getD {l : List Nat} {i : Nat} (h : i < l.length) : (nI l)[i]? = some ((l.getD i 0 : Nat) : Int) := by
  rw [nI_get, List.getD_eq_getElem?_getD, List.getElem?_eq_getElem h]; rfl
theorem L273_is (N : Nat) (q : Nat → List Int → Option (List Int)) (row t : List Nat) (ht : ∀ i ∈ t, 1 ≤ i ∧ i ≤ row.length) (hl : t.length ≤ 1000) (hr : row.length ≤ 1000) : ∀ (d i fuel : Nat), i + d = t.length → d < fuel →
    L273_0 N q fuel (nI row) (nI t) i (i : Int) (nI (byT row (t.take i))) = q t.length (nI (byT row t)) := by
  intro d
  induction d with
  | zero =>
    intro i fuel hd hf
    obtain ⟨m, rfl⟩ : ∃ m, fuel = m + 1 := ⟨fuel - 1, by omega⟩
    obtain rfl : i = t.length := by omega
    simp only [L273_0, nI_len, Int.lt_irrefl, decide_false, cond_false]
    rw [List.take_length]
  | succ d ih =>
    intro i fuel hd hf
    obtain ⟨m, rfl⟩ : ∃ m, fuel = m + 1 := ⟨fuel - 1, by omega⟩
    have hi : i < t.length := by omega
    have e1 : (nI t)[i]? = some ((t[i] : Nat) : Int) := by rw [nI_get, List.getElem?_eq_getElem hi]; rfl
    have hti := ht t[i] (List.getElem_mem _)
    have e2 : isub .i64 ((t[i] : Nat) : Int) 1 = ((t[i] - 1 : Nat) : Int) := subd (b := 1) (by omega) (by omega)
    have e3 : byT row (t.take (i + 1)) = byT row (t.take i) ++ [row.getD (t[i] - 1) 0] := by
      unfold byT
      rw [List.take_add_one, List.getElem?_eq_getElem hi, List.map_append]; rfl
    have e4 : (byT row (t.take i)).length = i := by unfold byT; rw [List.length_map, List.length_take]; omega
    simp only [L273_0, nI_len, show (i : Int) < ((t.length : Nat) : Int) by omega, decide_true, cond_true, geti_nat, e1, e2, nI_getD (l := row) (i := t[i] - 1) (by omega), e4, Nat.mul_one, beq_self_eq_true, show i + 1 ≤ 1099511627776 by omega, Bool.and_self]
    rw [up1d (by omega), show ([((row.getD (t[i] - 1) 0 : Nat) : Int)] : List Int) = nI [row.getD (t[i] - 1) 0] from rfl, nI_app, ← e3]
    exact ih (i + 1) m (by omega) (by omega)
def h273 (a b : List Int) := p273 100 a b
theorem E273 : EntOK FT XT 273 (en273 h273) := ok273 fun _ _ _ h => ⟨100, h⟩
theorem h273_is {row t : List Nat} (ht : ∀ i ∈ t, 1 ≤ i ∧ i ≤ row.length) (hl : t.length ≤ 64) (hr : row.length ≤ 1000) : h273 (nI row) (nI t) = some (nI (byT row t)) := by
  unfold h273 p273
  refine (L273_is 100 _ row t ht (by omega) hr t.length 0 100 (by omega) (by omega)).trans ?_
  have e : (byT row t).length = t.length := by unfold byT; rw [List.length_map]
  simp only [nI_len, e, Nat.zero_add, Nat.mul_one, Nat.le_refl, decide_true, cond_true, List.drop_zero]
  rw [List.take_of_length_le (by rw [nI_len, e]; exact Nat.le_refl _)]
theorem L276_is (N : Nat) (q : Nat → Nat → List Int → Option (List Int)) (w n4 : Nat) (a b : List Nat) (ha : bits w a) (hb : bits w b) (hw : w ≤ 1000) : ∀ (d i fuel : Nat), i + d = w → d < fuel →
    L276_0 N q fuel (nI a) (nI b) w n4 (i : Int) (nI (xorL (a.take i) (b.take i) ++ List.replicate (w - i) 0)) = q w n4 (nI (xorL a b)) := by
  intro d
  induction d with
  | zero =>
    intro i fuel hd hf
    obtain ⟨m, rfl⟩ : ∃ m, fuel = m + 1 := ⟨fuel - 1, by omega⟩
    obtain rfl : i = w := by omega
    simp only [L276_0, nI_len, ha.1, Int.lt_irrefl, decide_false, cond_false]
    rw [List.take_of_length_le (by rw [ha.1]; exact Nat.le_refl _), List.take_of_length_le (by rw [hb.1]; exact Nat.le_refl _), Nat.sub_self, List.replicate_zero, List.append_nil]
  | succ d ih =>
    intro i fuel hd hf
    obtain ⟨m, rfl⟩ : ∃ m, fuel = m + 1 := ⟨fuel - 1, by omega⟩
    have hi : i < a.length := by rw [ha.1]; omega
    have hi2 : i < b.length := by rw [hb.1]; omega
    have e1 : (nI a)[i]? = some ((a[i] : Nat) : Int) := by rw [nI_get, List.getElem?_eq_getElem hi]; rfl
    have e2 : (nI b)[i]? = some ((b[i] : Nat) : Int) := by rw [nI_get, List.getElem?_eq_getElem hi2]; rfl
    have b1 := ha.2 a[i] (List.getElem_mem _)
    have b2 := hb.2 b[i] (List.getElem_mem _)
    have hx : (xorL (a.take i) (b.take i)).length = i := by unfold xorL; rw [List.length_zipWith, List.length_take, List.length_take]; omega
    have e3 : xorL (a.take (i + 1)) (b.take (i + 1)) = xorL (a.take i) (b.take i) ++ [a[i] ^^^ b[i]] := by
      unfold xorL
      rw [List.take_add_one, List.take_add_one, List.getElem?_eq_getElem hi, List.getElem?_eq_getElem hi2, List.zipWith_append (by rw [List.length_take, List.length_take]; omega)]
      rfl
    have e4 : (xorL (a.take i) (b.take i) ++ List.replicate (w - i) 0).set i (a[i] ^^^ b[i]) = xorL (a.take (i + 1)) (b.take (i + 1)) ++ List.replicate (w - (i + 1)) 0 := by
      rw [List.set_append_right _ _ (by rw [hx]; exact Nat.le_refl _), hx, Nat.sub_self, show w - i = (w - (i + 1)) + 1 by omega, List.replicate_succ, List.set_cons_zero, e3, List.append_assoc]
      rfl
    have e5 : (nI (xorL (a.take i) (b.take i) ++ List.replicate (w - i) 0)).length = w := by rw [nI_len, List.length_append, hx, List.length_replicate]; omega
    have e6 : ∀ (l : List Nat) (j y : Nat), (nI l).set j (y : Int) = nI (l.set j y) := fun l j y => by unfold nI; rw [List.map_set]
    simp only [L276_0, nI_len, ha.1, show (i : Int) < ((w : Nat) : Int) by omega, decide_true, cond_true, geti_nat, e1, e2, show (0 : Int) ≤ (i : Int) by omega, Bool.and_self, Int.toNat_natCast, Nat.zero_add, Nat.mul_one]
    have hlt : i < (xorL (a.take i) (b.take i) ++ List.replicate (w - i) 0).length := by rw [List.length_append, hx, List.length_replicate]; omega
    simp only [hlt, decide_true, cond_true]
    rw [up1d (by omega), xorb (by omega) (by omega), e6, e4]
    exact ih (i + 1) m (by omega) (by omega)
def h276 (a b : List Int) := p276 100 a b
theorem E276 : EntOK FT XT 276 (en276 h276) := ok276 fun _ _ _ h => ⟨100, h⟩
theorem h276_is {w : Nat} {a b : List Nat} (ha : bits w a) (hb : bits w b) (hw : w < 100) : h276 (nI a) (nI b) = some (nI (xorL a b)) := by
  unfold h276 p276
  have hx := (bits_xor ha hb).1
  simp only [nI_len, ha.1, show (0 : Int) ≤ ((w : Nat) : Int) by omega, Int.le_refl, show ((w : Nat) : Int) * ((1 : Nat) : Int) ≤ 1099511627776 by omega, show ((w : Nat) : Int) ≤ 1099511627776 by omega, decide_true, Bool.and_self, cond_true, Int.toNat_natCast]
  rw [show (List.replicate w (0 : Int)) = nI (List.replicate w 0) by unfold nI; rw [List.map_replicate]; rfl]
  refine (L276_is 100 _ w w a b ha hb (by omega) w 0 100 (by omega) (by omega)).trans ?_
  simp only [nI_len, hx, Nat.zero_add, Nat.mul_one, Nat.le_refl, decide_true, cond_true, List.drop_zero]
  rw [List.take_of_length_le (by rw [nI_len, hx]; exact Nat.le_refl _)]
/-! boxes -/
def h271 (n : Int) := p271 0 n
theorem E271 : EntOK FT XT 271 (en271 h271) := ok271 fun _ _ h => ⟨0, h⟩
theorem h271_in : ∀ n : Nat, 1 ≤ n → n ≤ 8 → h271 (n : Int) = some (nI (boxT n)) := by
  intro n h1 h2
  have : n = 1 ∨ n = 2 ∨ n = 3 ∨ n = 4 ∨ n = 5 ∨ n = 6 ∨ n = 7 ∨ n = 8 := by omega
  rcases this with rfl | rfl | rfl | rfl | rfl | rfl | rfl | rfl <;> rfl
theorem h271_out {n : Int} (h : ¬ (1 ≤ n ∧ n ≤ 8)) : h271 n = some (nI (List.replicate 64 0)) := by
  unfold h271 p271
  rw [beq_eq_false_iff_ne.2 (by omega), cond_false, beq_eq_false_iff_ne.2 (by omega), cond_false, beq_eq_false_iff_ne.2 (by omega), cond_false, beq_eq_false_iff_ne.2 (by omega), cond_false, beq_eq_false_iff_ne.2 (by omega), cond_false, beq_eq_false_iff_ne.2 (by omega), cond_false, beq_eq_false_iff_ne.2 (by omega), cond_false, beq_eq_false_iff_ne.2 (by omega), cond_false]
  rfl
def numR (n : Int) : Nat := if 1 ≤ n ∧ n ≤ 8 then n.toNat else 0
theorem h271_is (n : Int) : h271 n = some (nI (boxT (numR n))) := by
  unfold numR
  split
  · rename_i h
    have := h271_in n.toNat (by omega) (by omega)
    rwa [show ((n.toNat : Nat) : Int) = n by omega] at this
  · rename_i h
    exact h271_out h
section
variable {c57 : List Int → Option Int} {c271 : Int → Option (List Int)}
theorem p259_is {N : Nat} {n : Int} {six : List Nat} (h : bits 6 six) (F57 : c57 (nI ((six.drop 1).take 4)) = some ((wordN ((six.drop 1).take 4) : Nat) : Int)) (F271 : c271 n = some (nI (boxT (numR n)))) : p259 c57 c271 N n (nI six) = some ((digR (numR n) six : Nat) : Int) := by
  unfold p259
  have g0 : geti (nI six) 0 = some ((six.getD 0 0 : Nat) : Int) := by rw [show (0 : Int) = ((0 : Nat) : Int) from rfl, geti_nat, nI_getD (by rw [h.1]; omega)]
  have g5 : geti (nI six) 5 = some ((six.getD 5 0 : Nat) : Int) := by rw [show (5 : Int) = ((5 : Nat) : Int) from rfl, geti_nat, nI_getD (by rw [h.1]; omega)]
  have b0 := getD_lt h.2 0
  have b5 := getD_lt h.2 5
  have hlt := idx_lt h
  have hw := word_lt (bits_take (n := 4) (bits_drop (n := 1) h) (by omega))
  rw [g0, g5]
  simp only [nI_len, h.1, show (5 : Nat) ≤ 6 by omega, decide_true, cond_true, nI_drop, nI_take, F57, F271]
  have e : iadd .i64 (imul .i64 16 (iadd .i64 (imul .i64 2 (IntKind.wrap .i64 ((six.getD 0 0 : Nat) : Int))) (IntKind.wrap .i64 ((six.getD 5 0 : Nat) : Int)))) (IntKind.wrap .i64 ((wordN ((six.drop 1).take 4) : Nat) : Int)) = ((idxR six : Nat) : Int) := by
    unfold idxR at *
    generalize six.getD 0 0 = a at *
    generalize six.getD 5 0 = b at *
    generalize wordN ((six.drop 1).take 4) = c at *
    rw [wrap_i64 (by omega) (by omega), wrap_i64 (by omega) (by omega), wrap_i64 (by omega) (by omega)]
    have m1 : imul .i64 2 (a : Int) = ((2 * a : Nat) : Int) := by unfold imul; rw [wrap_i64 (by omega) (by omega)]; omega
    have a1 : iadd .i64 ((2 * a : Nat) : Int) (b : Int) = ((2 * a + b : Nat) : Int) := by rw [iadd_i (by omega) (by omega)]; omega
    have m2 : imul .i64 16 ((2 * a + b : Nat) : Int) = ((16 * (2 * a + b) : Nat) : Int) := by unfold imul; rw [wrap_i64 (by omega) (by omega)]; omega
    rw [m1, a1, m2, iadd_i (by omega) (by omega)]
    omega
  rw [e, geti_nat, nI_getD (by rw [boxT_len]; exact hlt)]
  rfl
end
def h259 (n : Int) (l : List Int) := p259 f57 h271 0 n l
theorem E259 : EntOK FT XT 259 (en259 h259) := ok259 f57 h271 E57 E271 fun _ _ _ h => ⟨0, h⟩
theorem h259_is {n : Int} {six : List Nat} (h : bits 6 six) : h259 n (nI six) = some ((digR (numR n) six : Nat) : Int) :=
  p259_is h (f57_nI _ (fun b hb => h.2 b (List.mem_of_mem_drop (List.mem_of_mem_take hb))) (by rw [List.length_take]; omega)) (h271_is n)
theorem tab_ok {w : Nat} {t : List Nat} (h : t.all (fun i => Nat.ble 1 i && Nat.ble i w) = true) : ∀ i ∈ t, 1 ≤ i ∧ i ≤ w := fun i hi => by
  have := List.all_eq_true.1 h i hi
  rw [Bool.and_eq_true] at this
  exact ⟨Nat.le_of_ble_eq_true this.1, Nat.le_of_ble_eq_true this.2⟩
theorem first_ok : ∀ i ∈ tFirst, 1 ≤ i ∧ i ≤ 64 := tab_ok (by kernel_rfl)
theorem last_ok : ∀ i ∈ tLast, 1 ≤ i ∧ i ≤ 64 := tab_ok (by kernel_rfl)
/-! tables -/
def h274 := p274 0
theorem E274 : EntOK FT XT 274 (en274 h274) := ok274 fun _ h => ⟨0, h⟩
def h275 := p275 0
theorem E275 : EntOK FT XT 275 (en275 h275) := ok275 fun _ h => ⟨0, h⟩
def h277 := p277 0
theorem E277 : EntOK FT XT 277 (en277 h277) := ok277 fun _ h => ⟨0, h⟩
def h278 := p278 0
theorem E278 : EntOK FT XT 278 (en278 h278) := ok278 fun _ h => ⟨0, h⟩
def h281 := p281 0
theorem E281 : EntOK FT XT 281 (en281 h281) := ok281 fun _ h => ⟨0, h⟩
def h282 := p282 0
theorem E282 : EntOK FT XT 282 (en282 h282) := ok282 fun _ h => ⟨0, h⟩
/-! a round's word -/
section
variable {c277 c278 : Option (List Int)} {c273 c276 : List Int → List Int → Option (List Int)} {c259 : Int → List Int → Option Int} {c56 : Int → Int → Option (List Int)}
theorem L267_is (N : Nat) (q : Nat → List Int → Option (List Int)) (x : List Nat) (hx : bits 48 x) (F259 : ∀ (n : Int) (six : List Nat), bits 6 six → c259 n (nI six) = some ((digR (numR n) six : Nat) : Int)) (F56 : ∀ d : Nat, d < 16 → c56 (d : Int) 4 = some (nI (rowN d 4))) : ∀ (d i fuel : Nat), i + d = 8 → d < fuel →
    L267_0 c277 c273 c276 c259 c56 c278 N q fuel (nI x) (4 * i) (i : Int) (nI (nibs x i)) = q 32 (nI (nibs x 8)) := by
  intro d
  induction d with
  | zero =>
    intro i fuel hd hf
    obtain ⟨m, rfl⟩ : ∃ m, fuel = m + 1 := ⟨fuel - 1, by omega⟩
    obtain rfl : i = 8 := by omega
    rfl
  | succ d ih =>
    intro i fuel hd hf
    obtain ⟨m, rfl⟩ : ∃ m, fuel = m + 1 := ⟨fuel - 1, by omega⟩
    have m1 : imul .i64 6 (i : Int) = ((6 * i : Nat) : Int) := by unfold imul; rw [wrap_i64 (by omega) (by omega)]; omega
    have a1 : iadd .i64 ((6 * i : Nat) : Int) 6 = ((6 * i + 6 : Nat) : Int) := by rw [iadd_i (by omega) (by omega)]; omega
    have hs : bits 6 (sixes x i) := ⟨by unfold sixes; rw [List.length_take, List.length_drop, hx.1]; omega, fun b hb => hx.2 b (List.mem_of_mem_drop (List.mem_of_mem_take hb))⟩
    have hf1 := F259 ((i + 1 : Nat) : Int) (sixes x i) hs
    have hn : numR ((i + 1 : Nat) : Int) = i + 1 := by unfold numR; rw [if_pos (by omega)]; omega
    rw [hn] at hf1
    have hd16 : digR (i + 1) (sixes x i) < 16 := box_lt _ _
    have hw : IntKind.wrap .u64 ((digR (i + 1) (sixes x i) : Nat) : Int) = ((digR (i + 1) (sixes x i) : Nat) : Int) := wrap_u .u64 rfl (by omega) (by show _ < (2 : Int) ^ 64; omega)
    have hb := bits_nibs x i
    have e1 : List.take ((6 * i + 6) - (6 * i)) (List.drop (6 * i) (nI x)) = nI (sixes x i) := by
      rw [nI_drop, nI_take, show 6 * i + 6 - 6 * i = 6 by omega]; rfl
    simp only [L267_0, show (i : Int) < 8 by omega, decide_true, cond_true, m1, a1, nI_len, hx.1, show (0 : Int) ≤ ((6 * i + 6 : Nat) : Int) by omega, show ((6 * i + 6 : Nat) : Int) ≤ ((48 : Nat) : Int) by omega, Bool.and_self, show (0 : Int) ≤ ((6 * i : Nat) : Int) by omega, Int.toNat_natCast, show ((6 * i : Nat) : Int) ≤ ((6 * i + 6 : Nat) : Int) by omega, e1, up1d (show i < 2 ^ 62 by omega), hf1, hw, F56 _ hd16, hb.1, rowN_len, Nat.mul_one, beq_self_eq_true, show 4 * i + 4 ≤ 1099511627776 by omega, nI_app, ← nibs_succ]
    exact ih (i + 1) m (by omega) (by omega)
theorem p267_is {half key : List Nat} (hh : bits 32 half) (hk : bits 48 key) (F277 : c277 = some (nI tWide)) (F278 : c278 = some (nI tMix)) (F1 : c273 (nI half) (nI tWide) = some (nI (byT half tWide))) (F2 : c276 (nI (byT half tWide)) (nI key) = some (nI (xorL (byT half tWide) key)))
    (F3 : ∀ r : List Nat, bits 32 r → c273 (nI r) (nI tMix) = some (nI (byT r tMix))) (F259 : ∀ (n : Int) (six : List Nat), bits 6 six → c259 n (nI six) = some ((digR (numR n) six : Nat) : Int)) (F56 : ∀ d : Nat, d < 16 → c56 (d : Int) 4 = some (nI (rowN d 4))) :
    p267 c277 c273 c276 c259 c56 c278 100 (nI half) (nI key) = some (nI (fR half key)) := by
  unfold p267
  have hx : bits 48 (xorL (byT half tWide) key) := bits_xor (bits_byT hh tWide) hk
  have hb := bits_nibs (xorL (byT half tWide) key) 8
  rw [F277, F278]
  simp only [F1, F2]
  refine (L267_is 100 _ _ hx F259 F56 8 0 100 (by omega) (by omega)).trans ?_
  simp only [nI_len, hb.1, show 0 + 32 * 1 ≤ 4 * 8 by omega, decide_true, cond_true, List.drop_zero]
  rw [List.take_of_length_le (by rw [nI_len, hb.1]; omega), F3 _ hb]
  rfl
end
def h267 (a b : List Int) := p267 h277 h273 h276 h259 f56 h278 100 a b
theorem E267 : EntOK FT XT 267 (en267 h267) := ok267 h277 h273 h276 h259 f56 h278 E277 E273 E276 E259 E56 E278 fun _ _ _ h => ⟨100, h⟩
theorem f56_4 {d : Nat} (h : d < 16) : f56 (d : Int) 4 = some (nI (rowN d 4)) := by
  unfold f56
  rw [if_pos ⟨⟨by omega, by omega⟩, by omega, by omega⟩]
  rfl
theorem f56_is {x w : Nat} (hx : x < 2 ^ 64) (hw : w ≤ 64) : f56 (x : Int) (w : Int) = some (nI (rowN x w)) := by
  unfold f56
  rw [if_pos ⟨⟨by omega, by exact_mod_cast hx⟩, by omega, by omega⟩]
  rfl
theorem h267_is {half key : List Nat} (hh : bits 32 half) (hk : bits 48 key) : h267 (nI half) (nI key) = some (nI (fR half key)) :=
  p267_is hh hk rfl rfl (h273_is (by rw [hh.1]; decide) (by decide) (by rw [hh.1]; omega)) (h276_is (w := 48) (bits_byT hh tWide) hk (by omega)) (fun r hr => h273_is (by rw [hr.1]; decide) (by decide) (by rw [hr.1]; omega)) (fun n six h => h259_is h) fun d hd => f56_4 hd
/-! keys -/
theorem row_range {α : Type} {z : α} {l : List α} {w : Nat} (h : l.length = w) : l = (List.range w).map fun i => l.getD i z := by
  apply List.ext_getElem?
  intro j
  by_cases hj : j < w
  · rw [List.getElem?_map, List.getElem?_range hj, List.getElem?_eq_getElem (by omega)]
    show _ = some (l.getD j z)
    rw [List.getD_eq_getElem?_getD, List.getElem?_eq_getElem (by omega)]; rfl
  · rw [List.getElem?_eq_none (by omega), List.getElem?_eq_none (by rw [List.length_map, List.length_range]; omega)]
theorem p264_is {c56 : Int → Int → Option (List Int)} {a : Int} (f : Nat → Nat) (F : c56 a 64 = some (nI ((List.range 64).map f))) : p264 c56 h274 h273 h275 100 a = some ((keysR ((List.range 64).map f)).map nI) := by
  unfold p264
  rw [F]
  kernel_rfl
def h264 (a : Int) := p264 f56 h274 h273 h275 100 a
theorem E264 : EntOK FT XT 264 (en264 h264) := ok264 f56 h274 h273 h275 E56 E274 E273 E275 fun _ _ h => ⟨100, h⟩
theorem h264_is {x : Nat} (hx : x < 2 ^ 64) : h264 (x : Int) = some ((keysR (rowN x 64)).map nI) := by
  have e := row_range (z := 0) (rowN_len x 64)
  rw [e]
  exact p264_is _ (by rw [← e]; exact f56_is (w := 64) hx (by omega))
/-! blocks -/
section
variable {c56 : Int → Int → Option (List Int)} {c281 c282 : Option (List Int)} {c273 c267 c276 : List Int → List Int → Option (List Int)} {c57 : List Int → Option Int}
theorem L269_is (N : Nat) (q : List Int → List Int → Option Int) (ks : List (List Nat)) (hk : ∀ k ∈ ks, bits 48 k) (hkl : ks.length ≤ 64) (F267 : ∀ half key : List Nat, bits 32 half → bits 48 key → c267 (nI half) (nI key) = some (nI (fR half key))) (F276 : ∀ a b : List Nat, bits 32 a → bits 32 b → c276 (nI a) (nI b) = some (nI (xorL a b))) :
    ∀ (d i fuel : Nat) (l r : List Nat), i + d = ks.length → d < fuel → bits 32 l → bits 32 r → L269_0 c56 c281 c273 c267 c276 c282 c57 N q fuel (ks.map nI) (nI l) (nI r) (i : Int) = q (nI (goR (ks.drop i) (l, r)).1) (nI (goR (ks.drop i) (l, r)).2) := by
  intro d
  induction d with
  | zero =>
    intro i fuel l r hd hf hl hr
    obtain ⟨m, rfl⟩ : ∃ m, fuel = m + 1 := ⟨fuel - 1, by omega⟩
    simp only [L269_0, List.length_map, show ¬ ((i : Int) < ((ks.length : Nat) : Int)) by omega, decide_false, cond_false]
    rw [List.drop_of_length_le (by omega)]
    rfl
  | succ d ih =>
    intro i fuel l r hd hf hl hr
    obtain ⟨m, rfl⟩ : ∃ m, fuel = m + 1 := ⟨fuel - 1, by omega⟩
    have hi : i < ks.length := by omega
    have hki := hk ks[i] (List.getElem_mem _)
    have e1 : geti (ks.map nI) (i : Int) = some (nI ks[i]) := by rw [geti_nat, List.getElem?_map, List.getElem?_eq_getElem hi]; rfl
    simp only [L269_0, List.length_map, show (i : Int) < ((ks.length : Nat) : Int) by omega, decide_true, cond_true, e1, F267 r ks[i] hr hki, F276 l _ hl bits_fR]
    rw [up1d (by omega), ih (i + 1) m r _ (by omega) (by omega) hr (bits_xor hl bits_fR), List.drop_eq_getElem_cons hi]
    rfl
theorem p269_is {x : Nat} {a : Int} {ks : List (List Nat)} (hk : ∀ k ∈ ks, bits 48 k) (hkl : ks.length ≤ 64) (F56 : c56 a 64 = some (nI (rowN x 64))) (F281 : c281 = some (nI tFirst)) (F282 : c282 = some (nI tLast)) (F273 : ∀ r : List Nat, bits 64 r → c273 (nI r) (nI tFirst) = some (nI (byT r tFirst)) ∧ c273 (nI r) (nI tLast) = some (nI (byT r tLast)))
    (F267 : ∀ half key : List Nat, bits 32 half → bits 48 key → c267 (nI half) (nI key) = some (nI (fR half key))) (F276 : ∀ a b : List Nat, bits 32 a → bits 32 b → c276 (nI a) (nI b) = some (nI (xorL a b))) (F57 : ∀ r : List Nat, bits 64 r → c57 (nI r) = some ((wordN r : Nat) : Int)) :
    p269 c56 c281 c273 c267 c276 c282 c57 100 a (ks.map nI) = some ((wordN (turnR (rowN x 64) ks) : Nat) : Int) := by
  unfold p269
  have hb : bits 64 (byT (rowN x 64) tFirst) := bits_byT (bits_rowN x 64) tFirst
  rw [F56, F281, F282]
  simp only [(F273 _ (bits_rowN x 64)).1, nI_len, hb.1, show (32 : Nat) ≤ 64 by omega, decide_true, cond_true, nI_take, nI_drop]
  have h1 := bits_take (n := 32) hb (by omega)
  have h2 := bits_drop (n := 32) hb
  have hg := goR_bits ks (List.take 32 (byT (rowN x 64) tFirst), List.drop 32 (byT (rowN x 64) tFirst)) h1 h2
  refine (L269_is 100 _ ks hk hkl F267 F276 ks.length 0 100 _ _ (by omega) (by omega) h1 h2).trans ?_
  rw [List.drop_zero]
  have h64 := bits_app hg.2 hg.1
  have hfin : turnR (rowN x 64) ks = byT ((goR ks (List.take 32 (byT (rowN x 64) tFirst), List.drop 32 (byT (rowN x 64) tFirst))).2 ++ (goR ks (List.take 32 (byT (rowN x 64) tFirst), List.drop 32 (byT (rowN x 64) tFirst))).1) tLast := rfl
  rw [hfin]
  generalize goR ks (List.take 32 (byT (rowN x 64) tFirst), List.drop 32 (byT (rowN x 64) tFirst)) = s at *
  simp only [nI_len, hg.1.1, hg.2.1, Nat.mul_one, show (32 : Nat) ≤ 1099511627776 by omega, decide_true, Bool.and_self, cond_true, beq_self_eq_true, show (32 + 32 : Nat) ≤ 1099511627776 by omega, nI_app, h64.1, Nat.zero_add, Nat.le_refl, List.drop_zero]
  rw [List.take_of_length_le (by rw [nI_len, h64.1]; exact Nat.le_refl _)]
  have hf := (F273 _ h64).2
  simp only [hf, F57 _ (bits_byT h64 tLast)]
end
def h269 (a : Int) (l : List (List Int)) := p269 f56 h281 h273 h267 h276 h282 f57 100 a l
theorem E269 : EntOK FT XT 269 (en269 h269) := ok269 f56 h281 h273 h267 h276 h282 f57 E56 E281 E273 E267 E276 E282 E57 fun _ _ _ h => ⟨100, h⟩
theorem h281_is : h281 = some (nI tFirst) := rfl
theorem h282_is : h282 = some (nI tLast) := rfl
theorem h273_first {r : List Nat} (hr : bits 64 r) : h273 (nI r) (nI tFirst) = some (nI (byT r tFirst)) := h273_is (by rw [hr.1]; exact first_ok) (Nat.le_refl _) (by rw [hr.1]; omega)
theorem h273_last {r : List Nat} (hr : bits 64 r) : h273 (nI r) (nI tLast) = some (nI (byT r tLast)) := h273_is (by rw [hr.1]; exact last_ok) (Nat.le_refl _) (by rw [hr.1]; omega)
theorem f56_64 {x : Nat} (hx : x < 2 ^ 64) : f56 (x : Int) 64 = some (nI (rowN x 64)) := f56_is (w := 64) hx (by omega)
theorem f57_64 {r : List Nat} (hr : bits 64 r) : f57 (nI r) = some ((wordN r : Nat) : Int) := f57_nI r hr.2 (by rw [hr.1]; omega)
theorem h276_32 {a b : List Nat} (h1 : bits 32 a) (h2 : bits 32 b) : h276 (nI a) (nI b) = some (nI (xorL a b)) := h276_is h1 h2 (by omega)
theorem h269_is {x : Nat} (hx : x < 2 ^ 64) {ks : List (List Nat)} (hk : ∀ k ∈ ks, bits 48 k) (hkl : ks.length ≤ 64) : h269 (x : Int) (ks.map nI) = some ((wordN (turnR (rowN x 64) ks) : Nat) : Int) := by
  unfold h269
  exact p269_is hk hkl (f56_64 hx) h281_is h282_is (fun r hr => ⟨h273_first hr, h273_last hr⟩) (fun h k h1 h2 => h267_is h1 h2) (fun a b h1 h2 => h276_32 h1 h2) fun r hr => f57_64 hr
theorem p255_is {c264 : Int → Option (List (List Int))} {c269 : Int → List (List Int) → Option Int} {N : Nat} {k b : Int} {l : List (List Int)} {r : Int} (F1 : c264 k = some l) (F2 : c269 b l = some r) : p255 c264 c269 N k b = some r := by
  unfold p255
  simp only [F1, F2]
def h255 (k b : Int) := p255 h264 h269 0 k b
theorem E255 : EntOK FT XT 255 (en255 h255) := ok255 h264 h269 E264 E269 fun _ _ _ h => ⟨0, h⟩
theorem h255_is {k x : Nat} (hk : k < 2 ^ 64) (hx : x < 2 ^ 64) : h255 (k : Int) (x : Int) = some ((wordN (turnR (rowN x 64) (keysR (rowN k 64))) : Nat) : Int) := by
  exact p255_is (h264_is hk) (h269_is hx (keysR_bits (bits_rowN k 64)) (by rw [keysR_len]; omega))
def h257 (k b : Int) := p257 h264 h269 100 k b
theorem E257 : EntOK FT XT 257 (en257 h257) := ok257 h264 h269 E264 E269 fun _ _ _ h => ⟨100, h⟩
theorem back16 {c264 : Int → Option (List (List Int))} {c269 : Int → List (List Int) → Option Int} (b : Int) (f : Nat → List Int) :
    L257_0 c264 c269 100 (fun (y8 : Int) (y9 : Nat) (y10 : List V) =>
      bif (decide ((0 + (y9 * 1)) ≤ (List.length y10))) then
        match rowsOf (Sh.sl (Sh.int .u8)) y9 (List.take (y9 * 1) (List.drop 0 y10)) with
        | none => none
        | some x11 =>
          match c269 y8 x11 with
          | none => none
          | some r12 =>
            some r12
      else none) 100 b ((List.range 16).map f) 0 15 [] = (match c269 b ((List.range 16).map f).reverse with | none => none | some r12 => some r12) := by kernel_rfl
theorem p257_is {c264 : Int → Option (List (List Int))} {c269 : Int → List (List Int) → Option Int} {k b : Int} {l : List (List Int)} {r : Int} (F1 : c264 k = some l) (hl : l.length = 16) (F2 : c269 b l.reverse = some r) : p257 c264 c269 100 k b = some r := by
  unfold p257
  simp only [F1, hl]
  have e := row_range (z := ([] : List Int)) hl
  rw [e]
  refine (back16 b _).trans ?_
  rw [← e, F2]
theorem h257_is {k x : Nat} (hk : k < 2 ^ 64) (hx : x < 2 ^ 64) : h257 (k : Int) (x : Int) = some ((wordN (turnR (rowN x 64) (keysR (rowN k 64)).reverse) : Nat) : Int) := by
  have hl := keysR_len (rowN k 64)
  have hb := keysR_bits (bits_rowN k 64)
  have h1 := h269_is hx (ks := (keysR (rowN k 64)).reverse) (fun k hk => hb k (List.mem_reverse.1 hk)) (by rw [List.length_reverse, hl]; omega)
  exact p257_is (h264_is hk) (by rw [List.length_map, hl]) (by rw [← List.map_reverse]; exact h1)
end Go.Proofs.YtpiadkdalilmnaaE
