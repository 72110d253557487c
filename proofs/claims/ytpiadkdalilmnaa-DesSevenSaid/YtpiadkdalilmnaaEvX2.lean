/- DES: the program's functions, by the rows of their words. -/
import Derived.Test.YtpiadkdalilmnaaEvD1
namespace Go.Proofs.YtpiadkdalilmnaaE
open Go
set_option linter.unusedSimpArgs false
set_option linter.unusedVariables false
/-! ### a digit's place -/
def h66 (s : List UInt8) (c : Int) : Option Int := some (firstIdx ⟨s.toArray⟩ c.toNat.toUInt8)
theorem E66 : EntOK FT XT 66 (en66 h66) := ⟨rfl, fun v r h => by
  obtain ⟨s, c, _⟩ := v
  injection h with h
  subst h
  exact ⟨1, rfl⟩⟩
def h65 (s : List UInt8) (c : Int) := p65 h66 0 s c
theorem E65 : EntOK FT XT 65 (en65 h65) := ok65 h66 E66 fun _ _ _ h => ⟨0, h⟩
def h63 (s : List UInt8) (c : Int) := p63 h65 0 s c
theorem E63 : EntOK FT XT 63 (en63 h63) := ok63 h65 E65 fun _ _ _ h => ⟨0, h⟩
def h258 := p258 0
theorem E258 : EntOK FT XT 258 (en258 h258) := ok258 fun _ h => ⟨0, h⟩
def h245 (n x : Int) := p245 h258 h63 0 n x
theorem E245 : EntOK FT XT 245 (en245 h245) := ok245 h258 h63 E258 E63 fun _ _ _ h => ⟨0, h⟩
/-- a row's digit at a place -/
def atRow (row : List UInt8) (i : Int) : Option Int :=
  match geti row i with
  | none => none
  | some x =>
    match h63 [(48 : UInt8), (49 : UInt8), (50 : UInt8), (51 : UInt8), (52 : UInt8), (53 : UInt8), (54 : UInt8), (55 : UInt8), (56 : UInt8), (57 : UInt8), (65 : UInt8), (66 : UInt8), (67 : UInt8), (68 : UInt8), (69 : UInt8), (70 : UInt8)] ((x.toNat : Nat) : Int) with
    | none => none
    | some r => some (IntKind.wrap .u64 r)
def rowS : Nat → List UInt8
  | 1 => (h258.getD ([], [], [], [], [], [], [], [])).1
  | 2 => (h258.getD ([], [], [], [], [], [], [], [])).2.1
  | 3 => (h258.getD ([], [], [], [], [], [], [], [])).2.2.1
  | 4 => (h258.getD ([], [], [], [], [], [], [], [])).2.2.2.1
  | 5 => (h258.getD ([], [], [], [], [], [], [], [])).2.2.2.2.1
  | 6 => (h258.getD ([], [], [], [], [], [], [], [])).2.2.2.2.2.1
  | 7 => (h258.getD ([], [], [], [], [], [], [], [])).2.2.2.2.2.2.1
  | _ => (h258.getD ([], [], [], [], [], [], [], [])).2.2.2.2.2.2.2
def place (x : Int) : Int := iadd .u64 (imul .u64 16 (ior .u64 (iand .u64 (ishr .u64 x 4) 2) (iand .u64 x 1))) (iand .u64 (ishr .u64 x 1) 15)
theorem h245_at (x : Int) : h245 1 x = atRow (rowS 1) (place x) ∧ h245 2 x = atRow (rowS 2) (place x) ∧ h245 3 x = atRow (rowS 3) (place x) ∧ h245 4 x = atRow (rowS 4) (place x) ∧ h245 5 x = atRow (rowS 5) (place x) ∧ h245 6 x = atRow (rowS 6) (place x) ∧ h245 7 x = atRow (rowS 7) (place x) ∧ h245 8 x = atRow (rowS 8) (place x) :=
  ⟨by kernel_rfl, by kernel_rfl, by kernel_rfl, by kernel_rfl, by kernel_rfl, by kernel_rfl, by kernel_rfl, by kernel_rfl⟩
theorem h245_out {n x : Int} (h : ¬ (1 ≤ n ∧ n ≤ 8)) : h245 n x = some 0 := by
  unfold h245 p245
  by_cases h1 : n < 1
  · rw [show decide (n < 1) = true from decide_eq_true h1]; rfl
  · rw [show decide (n < 1) = false from decide_eq_false h1, show decide (n > 8) = true from decide_eq_true (by omega)]; rfl
def placeN (y : Nat) : Nat := 16 * (2 * (y / 32 % 2) + y % 2) + y / 2 % 16
theorem and1 (x : Nat) : x &&& 1 = x % 2 := Nat.and_two_pow_sub_one_eq_mod (n := 1) x
theorem and15 (x : Nat) : x &&& 15 = x % 16 := Nat.and_two_pow_sub_one_eq_mod (n := 4) x
theorem and2 (x : Nat) : x &&& 2 = 2 * (x / 2 % 2) := by
  apply Nat.eq_of_testBit_eq
  intro i
  rw [Nat.testBit_and, show (2 : Nat) = 2 ^ 1 from rfl, Nat.testBit_two_pow_mul, Nat.testBit_two_pow]
  by_cases h : i = 1
  · subst h
    simp only [Nat.le_refl, decide_true, Bool.true_and, Nat.sub_self, Bool.and_true]
    rw [Nat.testBit_zero, Nat.testBit_eq_decide_div_mod_eq, Nat.mod_mod]
  · rw [show decide (1 = i) = false from decide_eq_false (fun e => h e.symm), Bool.and_false]
    by_cases h2 : 1 ≤ i
    · rw [show decide (i ≥ 1) = true from decide_eq_true h2, Bool.true_and, Nat.testBit_lt_two_pow]
      have : 2 ^ 1 ≤ 2 ^ (i - 1) := Nat.pow_le_pow_right (by omega) (by omega)
      have := Nat.mod_lt (x / 2 ^ 1) (show 0 < 2 ^ 1 by decide)
      omega
    · rw [show decide (i ≥ 1) = false from decide_eq_false h2, Bool.false_and]
theorem place_is {x : Nat} (hx : x < 2 ^ 64) : place (x : Int) = ((placeN x : Nat) : Int) := by
  unfold place placeN
  have s4 : ishr .u64 (x : Int) 4 = ((x / 16 : Nat) : Int) := shr64n (a := x) (n := 4) (by omega)
  have s1 : ishr .u64 (x : Int) 1 = ((x / 2 : Nat) : Int) := shr64n (a := x) (n := 1) (by omega)
  have hand : ∀ a b : Nat, a < 2 ^ 64 → b < 2 ^ 64 → iand .u64 (a : Int) (b : Int) = ((a &&& b : Nat) : Int) := fun a b ha hb => iand_u .u64 rfl a b ha hb
  rw [s4, s1, show (2 : Int) = ((2 : Nat) : Int) from rfl, show (1 : Int) = ((1 : Nat) : Int) from rfl, show (15 : Int) = ((15 : Nat) : Int) from rfl, show (16 : Int) = ((16 : Nat) : Int) from rfl, hand _ _ (by omega) (by omega), hand _ _ (by omega) (by omega), hand _ _ (by omega) (by omega), and2, and1, and15]
  have h2 : x / 16 / 2 % 2 = x / 32 % 2 := by omega
  rw [h2]
  have hor : ior .u64 ((2 * (x / 32 % 2) : Nat) : Int) ((x % 2 : Nat) : Int) = ((2 * (x / 32 % 2) + x % 2 : Nat) : Int) := by
    rw [or64 (by omega) (by omega)]
    have := or8 (x := x / 32 % 2) (b := x % 2) 1 (by omega)
    rw [Nat.mul_comm 2, show (2 : Nat) = 2 ^ 1 from rfl]
    rw [this]
  rw [hor, mul64, Nat.mod_eq_of_lt (by omega), add64, Nat.mod_eq_of_lt (by omega)]
theorem rows_all : ((List.range 8).all fun n => (List.range 64).all fun i => atRow (rowS (n + 1)) ((i : Nat) : Int) == some (((boxT (n + 1)).getD i 0 : Nat) : Int)) = true := by kernel_rfl
theorem atRow_is {n i : Nat} (h1 : 1 ≤ n) (h8 : n ≤ 8) (hi : i < 64) : atRow (rowS n) (i : Int) = some (((boxT n).getD i 0 : Nat) : Int) := by
  have := List.all_eq_true.1 rows_all (n - 1) (List.mem_range.2 (by omega))
  have := List.all_eq_true.1 this i (List.mem_range.2 hi)
  rw [show n - 1 + 1 = n by omega] at this
  exact eq_of_beq this
theorem h245_in {n x : Nat} (h1 : 1 ≤ n) (h8 : n ≤ 8) (hx : x < 2 ^ 64) : h245 (n : Int) (x : Int) = some (((boxT n).getD (placeN x) 0 : Nat) : Int) := by
  have hp : placeN x < 64 := by unfold placeN; omega
  have ha := atRow_is h1 h8 hp
  rw [← place_is hx] at ha
  rw [← ha]
  obtain ⟨g1, g2, g3, g4, g5, g6, g7, g8⟩ := h245_at (x : Int)
  have : n = 1 ∨ n = 2 ∨ n = 3 ∨ n = 4 ∨ n = 5 ∨ n = 6 ∨ n = 7 ∨ n = 8 := by omega
  rcases this with rfl | rfl | rfl | rfl | rfl | rfl | rfl | rfl
  · exact g1
  · exact g2
  · exact g3
  · exact g4
  · exact g5
  · exact g6
  · exact g7
  · exact g8
/-- the place that a row of six bits tells -/
theorem idx_row (x : Nat) : idxR (rowN x 6) = placeN x := by
  unfold idxR placeN
  have e : rowN x 6 = [x / 2 ^ 5 % 2, x / 2 ^ 4 % 2, x / 2 ^ 3 % 2, x / 2 ^ 2 % 2, x / 2 ^ 1 % 2, x / 2 ^ 0 % 2] := rfl
  rw [e]
  show 16 * (2 * (x / 2 ^ 5 % 2) + x / 2 ^ 0 % 2) + (2 * (2 * (2 * (2 * 0 + x / 2 ^ 4 % 2) + x / 2 ^ 3 % 2) + x / 2 ^ 2 % 2) + x / 2 ^ 1 % 2) = _
  have h0 : x / 2 ^ 0 = x := by omega
  have h2 : x / 2 ^ 2 = x / 2 / 2 := by omega
  have h3 : x / 2 ^ 3 = x / 2 / 2 / 2 := by omega
  have h4 : x / 2 ^ 4 = x / 2 / 2 / 2 / 2 := by omega
  have h5 : x / 2 ^ 5 = x / 32 := by omega
  rw [h0, h2, h3, h4, h5, Nat.pow_one]
  generalize x / 2 = y
  generalize hz : y / 2 = z
  generalize hu : z / 2 = u
  generalize hv : u / 2 = v
  omega
theorem h245_row {n x : Nat} (h1 : 1 ≤ n) (h8 : n ≤ 8) (hx : x < 2 ^ 64) : h245 (n : Int) (x : Int) = some ((digR n (rowN x 6) : Nat) : Int) := by
  rw [h245_in h1 h8 hx]
  unfold digR
  rw [idx_row]
theorem p246_is {c56 : Int → Int → Option (List Int)} {c259 : Int → List Int → Option Int} {N : Nat} {n x : Int} {l : List Int} {d : Nat} (F1 : c56 x 6 = some l) (F2 : c259 n l = some (d : Int)) (hd : d < 16) : p246 c56 c259 N n x = some (d : Int) := by
  unfold p246
  simp only [F1, F2]
  rw [w64 (by omega)]
def h246 (n x : Int) := p246 f56 h259 0 n x
theorem E246 : EntOK FT XT 246 (en246 h246) := ok246 f56 h259 E56 E259 fun _ _ _ h => ⟨0, h⟩
theorem h246_is {n : Int} {x : Nat} (hx : x < 2 ^ 64) : h246 n (x : Int) = some ((digR (numR n) (rowN x 6) : Nat) : Int) :=
  p246_is (f56_is (w := 6) hx (by omega)) (h259_is (bits_rowN x 6)) (box_lt _ _)
theorem dig0 (six : List Nat) : digR 0 six = 0 := by
  unfold digR
  rw [List.getD_eq_getElem?_getD]
  show ((List.replicate 64 0)[idxR six]?).getD 0 = 0
  rw [List.getElem?_replicate]
  split <;> rfl
theorem box_same {n : Int} {x : Nat} (hx : x < 2 ^ 64) : h245 n (x : Int) = h246 n (x : Int) := by
  rw [h246_is hx]
  unfold numR
  by_cases h : 1 ≤ n ∧ n ≤ 8
  · rw [if_pos h]
    have := h245_row (n := n.toNat) (x := x) (by omega) (by omega) hx
    rwa [show ((n.toNat : Nat) : Int) = n by omega] at this
  · rw [if_neg h, h245_out h, dig0]; rfl
/-! ### words by tables -/
def h272 (a b : Int) := p272 100 a b
theorem E272 : EntOK FT XT 272 (en272 h272) := ok272 fun _ _ _ h => ⟨100, h⟩
def h283 (a : Int) := p283v0 0 a
theorem R283 : REntOK FT XT 283 (rn283v0 h283) := ok283v0 fun _ _ h => ⟨0, h⟩
def h2 (l : List (List Int)) := p2 h283 100 l
theorem E2 : EntOK FT XT 2 (en2 h2) := ok2 h283 R283 fun _ _ h => ⟨100, h⟩
def h261 := p261 h272 h2 0
theorem E261 : EntOK FT XT 261 (en261 h261) := ok261 h272 h2 E272 E2 fun _ h => ⟨0, h⟩
theorem h261_is : h261 = some (nI tKeys) := by kernel_rfl
def h279 := p279 h272 100
theorem E279 : EntOK FT XT 279 (en279 h279) := ok279 h272 E272 fun _ h => ⟨100, h⟩
theorem h279_is : h279 = some (nI tFirst) := by kernel_rfl
def h280 := p280 h279 100
theorem E280 : EntOK FT XT 280 (en280 h280) := ok280 h279 E279 fun _ h => ⟨100, h⟩
theorem h280_is : h280 = some (nI tLast) := by kernel_rfl
def h265 := p265 100
theorem E265 : EntOK FT XT 265 (en265 h265) := ok265 fun _ h => ⟨100, h⟩
theorem h265_is : h265 = some (nI tWide) := by kernel_rfl
def h266 := p266 0
theorem E266 : EntOK FT XT 266 (en266 h266) := ok266 fun _ h => ⟨0, h⟩
theorem h266_is : h266 = some (nI tMix) := rfl
def h263 := p263 0
theorem E263 : EntOK FT XT 263 (en263 h263) := ok263 fun _ h => ⟨0, h⟩
theorem h263_is : h263 = some (nI tRounds) := rfl
def h262 (n : Int) := p262 0 n
theorem E262 : EntOK FT XT 262 (en262 h262) := ok262 fun _ _ h => ⟨0, h⟩
theorem h262_all : ((List.range 16).all fun i => h262 ((i : Nat) : Int) == some ((shs.getD i 0 : Nat) : Int)) = true := by kernel_rfl
theorem h262_is {i : Nat} (h : i < 16) : h262 (i : Int) = some ((shs.getD i 0 : Nat) : Int) := eq_of_beq (List.all_eq_true.1 h262_all i (List.mem_range.2 h))
theorem p260_is {c27 : Int → Int → List Int → Option (Int × Int)} {N : Nat} {x w : Int} {t : List Int} {r e : Int} (F : c27 x w t = some (r, e)) : p260 c27 N x w t = some r := by
  unfold p260
  simp only [F]
def h260 (x w : Int) (t : List Int) := p260 f27 0 x w t
theorem E260 : EntOK FT XT 260 (en260 h260) := ok260 f27 E27 fun _ _ _ _ h => ⟨0, h⟩
theorem by_is {x w : Nat} {t : List Nat} (hx : x < 2 ^ 64) (h1 : 1 ≤ w) (h64 : w ≤ 64) (ht : ∀ i ∈ t, 1 ≤ i ∧ i ≤ w) (hl : t.length ≤ 64) : h260 (x : Int) (w : Int) (nI t) = some ((wordN (byT (rowN x w) t) : Nat) : Int) := by
  have hw : wideB (w : Int) = true := wideB_iff.2 ⟨by omega, by omega⟩
  have hlt : (nI t).length ≤ 64 := by rw [nI_len]; exact hl
  have hmem : ∀ i ∈ nI t, ∃ j ∈ t, i = (j : Int) := fun i hi => by
    obtain ⟨j, hj, rfl⟩ := List.mem_map.1 hi
    exact ⟨j, hj, rfl⟩
  have hok : okT (w : Int) (nI t) = true := by
    unfold okT
    rw [List.all_eq_true]
    intro i hi
    obtain ⟨j, hj, rfl⟩ := hmem i hi
    have := ht j hj
    rw [Bool.and_eq_true]
    exact ⟨decide_eq_true (by omega), decide_eq_true (by omega)⟩
  have hbad := tab_bad (x : Int) (w : Int) (nI t) (0, false)
  rw [hok] at hbad
  have hb2 : (tabI (x : Int) (w : Int) (nI t)).2 = false := hbad
  have hword := tab_word (x : Int) (w : Int) (nI t) hlt
  have he : (nI t).map (bitN (x : Int) (w : Int)) = byT (rowN x w) t := by
    unfold nI byT
    rw [List.map_map]
    apply List.map_congr_left
    intro i hi
    have hi2 := ht i hi
    show bitN (x : Int) (w : Int) (i : Int) = (rowN x w).getD (i - 1) 0
    unfold bitN
    rw [if_pos ⟨hw, by omega, by omega⟩, List.getD_eq_getElem?_getD, rowN_get _ _ _ (by omega), show ((w : Int) - (i : Int)).toNat = w - 1 - (i - 1) by omega]
    rfl
  rw [he] at hword
  refine p260_is (e := 0) ?_
  unfold f27
  rw [if_pos ⟨⟨by omega, by exact_mod_cast hx⟩, fun i hi => by
    obtain ⟨j, hj, rfl⟩ := hmem i hi
    have := ht j hj
    omega⟩, if_pos ⟨hw, hlt⟩, hb2, hword]
  rfl
/-! ### round keys -/
theorem turn_is {c : Nat} {n : Nat} (hn : n < 28) {l : List Nat} (hl : bits 28 l) (hc : c = wordN l) : f29 (c : Int) 28 (n : Int) = some (((wordN (rot n l) : Nat) : Int), 0) := by
  subst hc
  have hlt := word_lt hl
  unfold f29
  rw [if_pos ⟨by omega, by have : (2 : Nat) ^ 28 ≤ 2 ^ 64 := Nat.pow_le_pow_right (by omega) (by omega); exact_mod_cast Nat.lt_of_lt_of_le hlt this⟩, if_pos (by decide)]
  have e : ((n : Int) % 28).toNat = n := by omega
  have e2 := word_turn (wordN l) 28 n (by omega) hn
  rw [row_word hl] at e2
  rw [e, Int.toNat_natCast, show (28 : Int).toNat = 28 from rfl, ← e2]
  rfl
theorem ior_app {a b : Nat} {l r : List Nat} (hl : bits a l) (hr : bits b r) (h : a + b ≤ 64) : ior .u64 (ishl .u64 ((wordN l : Nat) : Int) (b : Int)) ((wordN r : Nat) : Int) = ((wordN (l ++ r) : Nat) : Int) := by
  have h1 := word_lt hl
  have h2 := word_lt hr
  have h3 := word_lt (bits_app hl hr)
  rw [word_app hl hr] at h3 ⊢
  have hp : 2 ^ (a + b) ≤ 2 ^ 64 := Nat.pow_le_pow_right (by omega) h
  have hp2 : 2 ^ b ≤ 2 ^ 64 := Nat.pow_le_pow_right (by omega) (by omega)
  rw [shl64 (by omega), Nat.mod_eq_of_lt (by omega), or64 (by omega) (by omega), or8 b h2]
def wkeys (ks : List (List Nat)) : List Nat := ks.map wordN
theorem keysGo_take (c d : List Nat) : ∀ (ns : List Nat) , True := fun _ => trivial
section
variable {c261 c263 : Option (List Int)} {c260 : Int → Int → List Int → Option Int} {c31 : Int → Int → Int → Option (Int × Int × Int)} {c262 : Int → Option Int} {c29 : Int → Int → Int → Option (Int × Int)}
theorem L247_is (N : Nat) (q : List Int → List Int → Option (List Int)) (v7 : List Int) (F262 : ∀ i : Nat, i < 16 → c262 (i : Int) = some ((shs.getD i 0 : Nat) : Int)) (F29 : ∀ (n : Nat) (l : List Nat), n < 28 → bits 28 l → c29 ((wordN l : Nat) : Int) 28 (n : Int) = some (((wordN (rot n l) : Nat) : Int), 0))
    (F263 : c263 = some (nI tRounds)) (F260 : ∀ l : List Nat, bits 56 l → c260 ((wordN l : Nat) : Int) 56 (nI tRounds) = some ((wordN (byT l tRounds) : Nat) : Int)) : ∀ (d i fuel : Nat) (c e : List Nat) (out : List Nat), i + d = 16 → d < fuel → bits 28 c → bits 28 e → out.length = 16 →
    L247_0 c261 c260 c31 c262 c29 c263 N q fuel ((wordN c : Nat) : Int) ((wordN e : Nat) : Int) (i : Int) v7 (nI out) = q v7 (nI (out.take i ++ wkeys (keysGo c e (shs.drop i)))) := by
  subst F263
  intro d
  induction d with
  | zero =>
    intro i fuel c e out hd hf hc he ho
    obtain ⟨m, rfl⟩ : ∃ m, fuel = m + 1 := ⟨fuel - 1, by omega⟩
    obtain rfl : i = 16 := by omega
    rw [List.take_of_length_le (by omega)]
    show q v7 (nI out) = q v7 (nI (out ++ []))
    rw [List.append_nil]
  | succ d ih =>
    intro i fuel c e out hd hf hc he ho
    obtain ⟨m, rfl⟩ : ∃ m, fuel = m + 1 := ⟨fuel - 1, by omega⟩
    have hi : i < shs.length := by show i < 16; omega
    have hsh : shs.getD i 0 = shs[i] := by rw [List.getD_eq_getElem?_getD, List.getElem?_eq_getElem hi]; rfl
    have hs28 : shs.getD i 0 < 28 := by
      have : ∀ j : Fin 16, shs.getD j.1 0 < 28 := by decide
      exact this ⟨i, by omega⟩
    have c1 := bits_rot hc (show shs.getD i 0 ≤ 28 by omega)
    have e1 := bits_rot he (show shs.getD i 0 ≤ 28 by omega)
    have hap : ior .u64 (ishl .u64 ((wordN (rot (shs.getD i 0) c) : Nat) : Int) 28) ((wordN (rot (shs.getD i 0) e) : Nat) : Int) = ((wordN (rot (shs.getD i 0) c ++ rot (shs.getD i 0) e) : Nat) : Int) := ior_app (a := 28) (b := 28) c1 e1 (by omega)
    have hset : ∀ (l : List Nat) (j y : Nat), (nI l).set j (y : Int) = nI (l.set j y) := fun l j y => by unfold nI; rw [List.map_set]
    simp only [L247_0, show (i : Int) < 16 by omega, decide_true, cond_true, F262 i (by omega), F29 _ _ hs28 hc, F29 _ _ hs28 he, hap, F260 _ (bits_app c1 e1), show (0 : Int) ≤ (i : Int) by omega, Bool.and_self, Int.toNat_natCast, Nat.zero_add, Nat.mul_one, nI_len, ho, show i < 16 by omega, hset]
    rw [up1d (by omega), ih (i + 1) m _ _ _ (by omega) (by omega) c1 e1 (by rw [List.length_set]; exact ho)]
    congr 2
    rw [List.drop_eq_getElem_cons hi, ← hsh, keysGo]
    show _ = out.take i ++ (wordN (byT (rot (shs.getD i 0) c ++ rot (shs.getD i 0) e) tRounds) :: wkeys (keysGo (rot (shs.getD i 0) c) (rot (shs.getD i 0) e) (shs.drop (i + 1))))
    generalize wordN (byT (rot (shs.getD i 0) c ++ rot (shs.getD i 0) e) tRounds) = y
    have ht : (out.set i y).take (i + 1) = out.take i ++ [y] := by
      rw [List.take_set, List.take_add_one, List.getElem?_eq_getElem (show i < out.length by omega), List.set_append_right _ _ (by rw [List.length_take]; omega), List.length_take, Nat.min_eq_left (by omega), Nat.sub_self]
      rfl
    rw [ht, List.append_assoc]
    rfl
theorem p247_is {x : Nat} (F261 : c261 = some (nI tKeys)) (F1 : c260 (x : Int) 64 (nI tKeys) = some ((wordN (byT (rowN x 64) tKeys) : Nat) : Int)) (F31 : ∀ l : List Nat, bits 56 l → c31 ((wordN l : Nat) : Int) 56 28 = some (((wordN (l.take 28) : Nat) : Int), ((wordN (l.drop 28) : Nat) : Int), 0))
    (F262 : ∀ i : Nat, i < 16 → c262 (i : Int) = some ((shs.getD i 0 : Nat) : Int)) (F29 : ∀ (n : Nat) (l : List Nat), n < 28 → bits 28 l → c29 ((wordN l : Nat) : Int) 28 (n : Int) = some (((wordN (rot n l) : Nat) : Int), 0))
    (F263 : c263 = some (nI tRounds)) (F260 : ∀ l : List Nat, bits 56 l → c260 ((wordN l : Nat) : Int) 56 (nI tRounds) = some ((wordN (byT l tRounds) : Nat) : Int)) : p247 c261 c260 c31 c262 c29 c263 100 (x : Int) = some (nI (wkeys (keysR (rowN x 64)))) := by
  unfold p247
  have hb : bits 56 (byT (rowN x 64) tKeys) := bits_byT (bits_rowN x 64) tKeys
  rw [F261]
  simp only [F1, F31 _ hb]
  refine (L247_is 100 _ _ F262 F29 F263 F260 16 0 100 _ _ (List.replicate 16 0) (by omega) (by omega) (bits_take hb (by omega)) (bits_drop (n := 28) hb) rfl).trans ?_
  have hl : (wkeys (keysR (rowN x 64))).length = 16 := by unfold wkeys; rw [List.length_map, keysR_len]
  have e : nI (List.take 0 (List.replicate 16 0) ++ wkeys (keysGo (List.take 28 (byT (rowN x 64) tKeys)) (List.drop 28 (byT (rowN x 64) tKeys)) (List.drop 0 shs))) = nI (wkeys (keysR (rowN x 64))) := rfl
  rw [e]
  generalize wkeys (keysR (rowN x 64)) = K at *
  have e1 : List.take 16 (List.drop 0 (nI K)) = nI K := by rw [List.drop_zero, List.take_of_length_le (by rw [nI_len]; omega)]
  simp only [e1]
  rw [show List.take 0 ([(0 : Int), (0 : Int), (0 : Int), (0 : Int), (0 : Int), (0 : Int), (0 : Int), (0 : Int), (0 : Int), (0 : Int), (0 : Int), (0 : Int), (0 : Int), (0 : Int), (0 : Int), (0 : Int)] : List Int) = ([] : List Int) from rfl, List.nil_append]
  have e2 : List.take 16 (nI K) = nI K := List.take_of_length_le (by rw [nI_len]; omega)
  simp [nI_len, hl, e2]
end
def h247 (x : Int) := p247 h261 h260 f31 h262 f29 h263 100 x
theorem E247 : EntOK FT XT 247 (en247 h247) := ok247 h261 h260 f31 h262 f29 h263 E261 E260 E31 E262 E29 E263 fun _ _ h => ⟨100, h⟩
theorem split_is {l : List Nat} (hl : bits 56 l) : f31 ((wordN l : Nat) : Int) 56 28 = some (((wordN (l.take 28) : Nat) : Int), ((wordN (l.drop 28) : Nat) : Int), 0) := by
  have hlt := word_lt hl
  have e1 := word_take (wordN l) 56 28 (by omega)
  have e2 := word_drop (wordN l) 56 28 (by omega)
  rw [row_word hl] at e1 e2
  unfold f31
  rw [if_pos ⟨by omega, by have : (2 : Nat) ^ 56 ≤ 2 ^ 64 := Nat.pow_le_pow_right (by omega) (by omega); exact_mod_cast Nat.lt_of_lt_of_le hlt this⟩, if_pos ⟨by decide, by omega, by omega⟩, e1, e2]
  rfl
theorem keys_ok : ∀ i ∈ tKeys, 1 ≤ i ∧ i ≤ 64 := tab_ok (by kernel_rfl)
theorem rounds_ok : ∀ i ∈ tRounds, 1 ≤ i ∧ i ≤ 56 := tab_ok (by kernel_rfl)
theorem wide_ok : ∀ i ∈ tWide, 1 ≤ i ∧ i ≤ 32 := tab_ok (by kernel_rfl)
theorem mix_ok : ∀ i ∈ tMix, 1 ≤ i ∧ i ≤ 32 := tab_ok (by kernel_rfl)
theorem lt64 {w x : Nat} (h : x < 2 ^ w) (hw : w ≤ 64) : x < 2 ^ 64 := Nat.lt_of_lt_of_le h (Nat.pow_le_pow_right (by omega) hw)
theorem by_row {w : Nat} {l : List Nat} (hl : bits w l) (h1 : 1 ≤ w) (h64 : w ≤ 64) {t : List Nat} (ht : ∀ i ∈ t, 1 ≤ i ∧ i ≤ w) (htl : t.length ≤ 64) : h260 ((wordN l : Nat) : Int) (w : Int) (nI t) = some ((wordN (byT l t) : Nat) : Int) := by
  have := by_is (x := wordN l) (t := t) (lt64 (word_lt hl) h64) h1 h64 ht htl
  rwa [row_word hl] at this
theorem h247_is {x : Nat} (hx : x < 2 ^ 64) : h247 (x : Int) = some (nI (wkeys (keysR (rowN x 64)))) :=
  p247_is h261_is (by_is (w := 64) hx (by omega) (by omega) keys_ok (Nat.le_of_ble_eq_true rfl)) (fun l hl => split_is hl) (fun i hi => h262_is hi) (fun n l hn hl => turn_is hn hl rfl) h263_is fun l hl => by_row (w := 56) hl (by omega) (by omega) rounds_ok (Nat.le_of_ble_eq_true rfl)
end Go.Proofs.YtpiadkdalilmnaaE
