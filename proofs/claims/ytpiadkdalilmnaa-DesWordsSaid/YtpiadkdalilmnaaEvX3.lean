/- DES: the program's blocks; the laws. -/
import Derived.Test.YtpiadkdalilmnaaEvX2
namespace Go.Proofs.YtpiadkdalilmnaaE
open Go
set_option linter.unusedSimpArgs false
set_option linter.unusedVariables false
theorem nI_set' (l : List Nat) (j y : Nat) : (nI l).set j (y : Int) = nI (l.set j y) := by unfold nI; rw [List.map_set]
theorem take_set1 {l : List Nat} {i y : Nat} (h : i < l.length) : (l.set i y).take (i + 1) = l.take i ++ [y] := by
  rw [List.take_set, List.take_add_one, List.getElem?_eq_getElem h, List.set_append_right _ _ (by rw [List.length_take]; omega), List.length_take, Nat.min_eq_left (by omega), Nat.sub_self]
  rfl
/-! ### the document's round keys as words -/
section
variable {c264 : Int → Option (List (List Int))} {c57 : List Int → Option Int}
theorem L248_is (N : Nat) (q : List Int → List Int → Option (List Int)) (v4 : List Int) (ks : List (List Nat)) (hk : ks.length = 16) (hkb : ∀ k ∈ ks, bits 48 k) (F57 : ∀ l : List Nat, bits 48 l → c57 (nI l) = some ((wordN l : Nat) : Int)) : ∀ (d i fuel : Nat) (out : List Nat), i + d = 16 → d < fuel → out.length = 16 →
    L248_0 c264 c57 N q fuel (ks.map nI) (i : Int) v4 (nI out) = q v4 (nI (out.take i ++ wkeys (ks.drop i))) := by
  intro d
  induction d with
  | zero =>
    intro i fuel out hd hf ho
    obtain ⟨m, rfl⟩ : ∃ m, fuel = m + 1 := ⟨fuel - 1, by omega⟩
    obtain rfl : i = 16 := by omega
    rw [List.take_of_length_le (by omega), List.drop_of_length_le (by omega)]
    show q v4 (nI out) = q v4 (nI (out ++ []))
    rw [List.append_nil]
  | succ d ih =>
    intro i fuel out hd hf ho
    obtain ⟨m, rfl⟩ : ∃ m, fuel = m + 1 := ⟨fuel - 1, by omega⟩
    have hi : i < ks.length := by omega
    have e1 : geti (ks.map nI) (i : Int) = some (nI ks[i]) := by rw [geti_nat, List.getElem?_map, List.getElem?_eq_getElem hi]; rfl
    simp only [L248_0, show (i : Int) < 16 by omega, decide_true, cond_true, e1, F57 _ (hkb ks[i] (List.getElem_mem _)), show (0 : Int) ≤ (i : Int) by omega, Bool.and_self, Int.toNat_natCast, Nat.zero_add, Nat.mul_one, nI_len, ho, show i < 16 by omega, nI_set']
    rw [up1d (by omega), ih (i + 1) m _ (by omega) (by omega) (by rw [List.length_set]; exact ho), take_set1 (by omega), List.drop_eq_getElem_cons hi, List.append_assoc]
    rfl
theorem p248_is {x : Int} {ks : List (List Nat)} (hk : ks.length = 16) (hkb : ∀ k ∈ ks, bits 48 k) (F264 : c264 x = some (ks.map nI)) (F57 : ∀ l : List Nat, bits 48 l → c57 (nI l) = some ((wordN l : Nat) : Int)) : p248 c264 c57 100 x = some (nI (wkeys ks)) := by
  unfold p248
  rw [F264]
  refine (L248_is 100 _ _ ks hk hkb F57 16 0 100 (List.replicate 16 0) (by omega) (by omega) rfl).trans ?_
  have hl : (wkeys ks).length = 16 := by unfold wkeys; rw [List.length_map, hk]
  rw [show nI (List.take 0 (List.replicate 16 0) ++ wkeys (List.drop 0 ks)) = nI (wkeys ks) from rfl]
  generalize wkeys ks = K at *
  have e1 : List.take 16 (List.drop 0 (nI K)) = nI K := by rw [List.drop_zero, List.take_of_length_le (by rw [nI_len]; omega)]
  simp only [e1]
  rw [show List.take 0 ([(0 : Int), (0 : Int), (0 : Int), (0 : Int), (0 : Int), (0 : Int), (0 : Int), (0 : Int), (0 : Int), (0 : Int), (0 : Int), (0 : Int), (0 : Int), (0 : Int), (0 : Int), (0 : Int)] : List Int) = ([] : List Int) from rfl, List.nil_append]
  have e2 : List.take 16 (nI K) = nI K := List.take_of_length_le (by rw [nI_len]; omega)
  simp [nI_len, hl, e2]
end
def h248 (x : Int) := p248 h264 f57 100 x
theorem E248 : EntOK FT XT 248 (en248 h248) := ok248 h264 f57 E264 E57 fun _ _ h => ⟨100, h⟩
theorem h248_is {x : Nat} (hx : x < 2 ^ 64) : h248 (x : Int) = some (nI (wkeys (keysR (rowN x 64)))) :=
  p248_is (keysR_len _) (keysR_bits (bits_rowN x 64)) (h264_is hx) fun l hl => f57_nI l hl.2 (by rw [hl.1]; omega)
/-! ### a round's word -/
section
variable {c265 c266 : Option (List Int)} {c260 : Int → Int → List Int → Option Int} {c245 : Int → Int → Option Int}
theorem sixes_row (x i : Nat) (h : i < 8) : rowN (x / 2 ^ (6 * (7 - i))) 6 = sixes (rowN x 48) i := by
  unfold sixes
  rw [rowN_drop x 48 (6 * i) (by omega), rowN_take x (48 - 6 * i) 6 (by omega), show 48 - 6 * i - 6 = 6 * (7 - i) by omega]
theorem L249_is (N : Nat) (q : Int → Option Int) (x : Nat) (hx : x < 2 ^ 64) (F245 : ∀ n y : Nat, 1 ≤ n → n ≤ 8 → y < 2 ^ 64 → c245 (n : Int) (y : Int) = some ((digR n (rowN y 6) : Nat) : Int)) : ∀ (d i fuel : Nat), i + d = 8 → d < fuel →
    L249_0 c265 c260 c245 c266 N q fuel (x : Int) ((wordN (nibs (rowN x 48) i) : Nat) : Int) (i : Int) = q ((wordN (nibs (rowN x 48) 8) : Nat) : Int) := by
  intro d
  induction d with
  | zero =>
    intro i fuel hd hf
    obtain ⟨m, rfl⟩ : ∃ m, fuel = m + 1 := ⟨fuel - 1, by omega⟩
    obtain rfl : i = 8 := by omega
    rfl
  | succ d ih =>
    intro i fuel hd hf
    obtain ⟨m, rfl⟩ : ∃ m, fuel = m + 1 := ⟨fuel - 1, by omega⟩
    have s1 : isub .i64 7 (i : Int) = ((7 - i : Nat) : Int) := subd (a := 7) (by omega) (by omega)
    have m1 : imul .i64 6 ((7 - i : Nat) : Int) = ((6 * (7 - i) : Nat) : Int) := by unfold imul; rw [wrap_i64 (by omega) (by omega)]; omega
    have hsh : ishr .u64 (x : Int) ((6 * (7 - i) : Nat) : Int) = ((x / 2 ^ (6 * (7 - i)) : Nat) : Int) := shr64n (by omega)
    have hd16 : digR (i + 1) (sixes (rowN x 48) i) < 16 := box_lt _ _
    have hf1 := F245 (i + 1) (x / 2 ^ (6 * (7 - i))) (by omega) (by omega) (Nat.lt_of_le_of_lt (Nat.div_le_self _ _) hx)
    rw [sixes_row x i (by omega)] at hf1
    have hw : wordN (rowN (digR (i + 1) (sixes (rowN x 48) i)) 4) = digR (i + 1) (sixes (rowN x 48) i) := by rw [word_rowN, Nat.mod_eq_of_lt (by omega)]
    have hap := ior_app (a := 4 * i) (b := 4) (bits_nibs (rowN x 48) i) (bits_rowN (digR (i + 1) (sixes (rowN x 48) i)) 4) (by omega)
    rw [hw, ← nibs_succ] at hap
    have hap' : ior .u64 (ishl .u64 ((wordN (nibs (rowN x 48) i) : Nat) : Int) 4) ((digR (i + 1) (sixes (rowN x 48) i) : Nat) : Int) = ((wordN (nibs (rowN x 48) (i + 1)) : Nat) : Int) := hap
    simp only [L249_0, show (i : Int) < 8 by omega, decide_true, cond_true, s1, m1, show ¬ (((6 * (7 - i) : Nat) : Int) < 0) by omega, decide_false, cond_false, hsh, up1d (show i < 2 ^ 62 by omega), hf1, hap']
    exact ih (i + 1) m (by omega) (by omega)
theorem p249_is {x k : Nat} (hx : x < 2 ^ 32) (hk : k < 2 ^ 64) (F265 : c265 = some (nI tWide)) (F266 : c266 = some (nI tMix)) (F1 : c260 (x : Int) 32 (nI tWide) = some ((wordN (byT (rowN x 32) tWide) : Nat) : Int)) (F245 : ∀ n y : Nat, 1 ≤ n → n ≤ 8 → y < 2 ^ 64 → c245 (n : Int) (y : Int) = some ((digR n (rowN y 6) : Nat) : Int))
    (F2 : ∀ l : List Nat, bits 32 l → c260 ((wordN l : Nat) : Int) 32 (nI tMix) = some ((wordN (byT l tMix) : Nat) : Int)) : p249 c265 c260 c245 c266 100 (x : Int) (k : Int) = some ((wordN (fR (rowN x 32) (rowN k 48)) : Nat) : Int) := by
  unfold p249
  have hb : bits 48 (byT (rowN x 32) tWide) := bits_byT (bits_rowN x 32) tWide
  have hlt := lt64 (word_lt hb) (by omega)
  have hxor : ixor .u64 ((wordN (byT (rowN x 32) tWide) : Nat) : Int) (k : Int) = ((wordN (byT (rowN x 32) tWide) ^^^ k : Nat) : Int) := ixor_u .u64 rfl _ _ hlt hk
  have hrow : rowN (wordN (byT (rowN x 32) tWide) ^^^ k) 48 = xorL (byT (rowN x 32) tWide) (rowN k 48) := by rw [← row_xor, row_word hb]
  rw [F265, w64 (by omega)]
  simp only [F1, hxor]
  refine (L249_is 100 _ _ (Nat.xor_lt_two_pow hlt hk) F245 8 0 100 (by omega) (by omega)).trans ?_
  rw [hrow, F266]
  have h32 : bits 32 (nibs (xorL (byT (rowN x 32) tWide) (rowN k 48)) 8) := bits_nibs _ 8
  simp only [F2 _ h32]
  rw [show byT (nibs (xorL (byT (rowN x 32) tWide) (rowN k 48)) 8) tMix = fR (rowN x 32) (rowN k 48) from rfl, w32, Nat.mod_eq_of_lt (word_lt (bits_fR (half := rowN x 32) (key := rowN k 48)))]
end
def h249 (x k : Int) := p249 h265 h260 h245 h266 100 x k
theorem E249 : EntOK FT XT 249 (en249 h249) := ok249 h265 h260 h245 h266 E265 E260 E245 E266 fun _ _ _ h => ⟨100, h⟩
theorem h249_is {x k : Nat} (hx : x < 2 ^ 32) (hk : k < 2 ^ 64) : h249 (x : Int) (k : Int) = some ((wordN (fR (rowN x 32) (rowN k 48)) : Nat) : Int) :=
  p249_is hx hk h265_is h266_is (by_is (w := 32) (by omega) (by omega) (by omega) wide_ok (Nat.le_of_ble_eq_true rfl)) (fun n y h1 h2 h3 => h245_row h1 h2 h3) fun l hl => by_row (w := 32) hl (by omega) (by omega) mix_ok (Nat.le_of_ble_eq_true rfl)
theorem p250_is {c56 : Int → Int → Option (List Int)} {c267 : List Int → List Int → Option (List Int)} {c57 : List Int → Option Int} {N x k : Nat} (hx : x < 2 ^ 32) (F1 : c56 (x : Int) 32 = some (nI (rowN x 32))) (F2 : c56 (k : Int) 48 = some (nI (rowN k 48))) (F3 : c267 (nI (rowN x 32)) (nI (rowN k 48)) = some (nI (fR (rowN x 32) (rowN k 48)))) (F4 : c57 (nI (fR (rowN x 32) (rowN k 48))) = some ((wordN (fR (rowN x 32) (rowN k 48)) : Nat) : Int)) :
    p250 c56 c267 c57 N (x : Int) (k : Int) = some ((wordN (fR (rowN x 32) (rowN k 48)) : Nat) : Int) := by
  unfold p250
  rw [w64 (by omega), F1, F2]
  simp only [F3, F4]
  rw [w32, Nat.mod_eq_of_lt (word_lt (bits_fR (half := rowN x 32) (key := rowN k 48)))]
def h250 (x k : Int) := p250 f56 h267 f57 0 x k
theorem E250 : EntOK FT XT 250 (en250 h250) := ok250 f56 h267 f57 E56 E267 E57 fun _ _ _ h => ⟨0, h⟩
theorem h250_is {x k : Nat} (hx : x < 2 ^ 32) (hk : k < 2 ^ 64) : h250 (x : Int) (k : Int) = some ((wordN (fR (rowN x 32) (rowN k 48)) : Nat) : Int) :=
  p250_is hx (f56_is (w := 32) (by omega) (by omega)) (f56_is (w := 48) hk (by omega)) (h267_is (bits_rowN x 32) (bits_rowN k 48)) (f57_nI _ bits_fR.2 (by rw [bits_fR.1]; omega))
/-! ### blocks -/
section
variable {c279 c280 : Option (List Int)} {c260 : Int → Int → List Int → Option Int} {c249 : Int → Int → Option Int}
theorem L268_is (N : Nat) (q : Int → Int → Option Int) (ks : List (List Nat)) (hk : ∀ k ∈ ks, bits 48 k) (hkl : ks.length ≤ 64) (F249 : ∀ half key : List Nat, bits 32 half → bits 48 key → c249 ((wordN half : Nat) : Int) ((wordN key : Nat) : Int) = some ((wordN (fR half key) : Nat) : Int)) :
    ∀ (d i fuel : Nat) (l r : List Nat), i + d = ks.length → d < fuel → bits 32 l → bits 32 r → L268_0 c279 c260 c249 c280 N q fuel ((wordN l : Nat) : Int) ((wordN r : Nat) : Int) (nI (wkeys ks)) ((ks.length : Nat) : Int) (i : Int) = q ((wordN (goR (ks.drop i) (l, r)).1 : Nat) : Int) ((wordN (goR (ks.drop i) (l, r)).2 : Nat) : Int) := by
  intro d
  induction d with
  | zero =>
    intro i fuel l r hd hf hl hr
    obtain ⟨m, rfl⟩ : ∃ m, fuel = m + 1 := ⟨fuel - 1, by omega⟩
    simp only [L268_0, show ¬ ((i : Int) < ((ks.length : Nat) : Int)) by omega, decide_false, cond_false]
    rw [List.drop_of_length_le (by omega)]
    rfl
  | succ d ih =>
    intro i fuel l r hd hf hl hr
    obtain ⟨m, rfl⟩ : ∃ m, fuel = m + 1 := ⟨fuel - 1, by omega⟩
    have hi : i < ks.length := by omega
    have hki := hk ks[i] (List.getElem_mem _)
    have e1 : geti (nI (wkeys ks)) (i : Int) = some ((wordN ks[i] : Nat) : Int) := by rw [geti_nat, nI_get]; unfold wkeys; rw [List.getElem?_map, List.getElem?_eq_getElem hi]; rfl
    have hx : ixor .u32 ((wordN l : Nat) : Int) ((wordN (fR r ks[i]) : Nat) : Int) = ((wordN (xorL l (fR r ks[i])) : Nat) : Int) := by
      rw [word_xor hl bits_fR]
      exact ixor_u .u32 rfl _ _ (word_lt hl) (word_lt bits_fR)
    simp only [L268_0, show (i : Int) < ((ks.length : Nat) : Int) by omega, decide_true, cond_true, e1, F249 r ks[i] hr hki, hx]
    rw [up1d (by omega), ih (i + 1) m r _ (by omega) (by omega) hr (bits_xor hl bits_fR), List.drop_eq_getElem_cons hi]
    rfl
theorem p268_is {x : Nat} {ks : List (List Nat)} (hk : ∀ k ∈ ks, bits 48 k) (hkl : ks.length ≤ 64) (F279 : c279 = some (nI tFirst)) (F280 : c280 = some (nI tLast)) (F1 : c260 (x : Int) 64 (nI tFirst) = some ((wordN (byT (rowN x 64) tFirst) : Nat) : Int)) (F2 : ∀ l : List Nat, bits 64 l → c260 ((wordN l : Nat) : Int) 64 (nI tLast) = some ((wordN (byT l tLast) : Nat) : Int))
    (F249 : ∀ half key : List Nat, bits 32 half → bits 48 key → c249 ((wordN half : Nat) : Int) ((wordN key : Nat) : Int) = some ((wordN (fR half key) : Nat) : Int)) : p268 c279 c260 c249 c280 100 (x : Int) (nI (wkeys ks)) = some ((wordN (turnR (rowN x 64) ks) : Nat) : Int) := by
  unfold p268
  have hb : bits 64 (byT (rowN x 64) tFirst) := bits_byT (bits_rowN x 64) tFirst
  have h1 := bits_take (n := 32) hb (by omega)
  have h2 := bits_drop (n := 32) hb
  have hlt := word_lt hb
  have hg := goR_bits ks (List.take 32 (byT (rowN x 64) tFirst), List.drop 32 (byT (rowN x 64) tFirst)) h1 h2
  have hfin : turnR (rowN x 64) ks = byT ((goR ks (List.take 32 (byT (rowN x 64) tFirst), List.drop 32 (byT (rowN x 64) tFirst))).2 ++ (goR ks (List.take 32 (byT (rowN x 64) tFirst), List.drop 32 (byT (rowN x 64) tFirst))).1) tLast := rfl
  have t1 := word_take (wordN (byT (rowN x 64) tFirst)) 64 32 (by omega)
  have t2 := word_drop (wordN (byT (rowN x 64) tFirst)) 64 32 (by omega)
  rw [row_word hb] at t1 t2
  have hl : IntKind.wrap .u32 (ishr .u64 ((wordN (byT (rowN x 64) tFirst) : Nat) : Int) 32) = ((wordN (List.take 32 (byT (rowN x 64) tFirst)) : Nat) : Int) := by
    rw [show ishr .u64 ((wordN (byT (rowN x 64) tFirst) : Nat) : Int) 32 = ((wordN (byT (rowN x 64) tFirst) / 2 ^ 32 : Nat) : Int) from shr64n (n := 32) (by omega), w32, t1]
    congr 1
    omega
  have hr : IntKind.wrap .u32 ((wordN (byT (rowN x 64) tFirst) : Nat) : Int) = ((wordN (List.drop 32 (byT (rowN x 64) tFirst)) : Nat) : Int) := by
    rw [w32, t2]
    congr 1
    omega
  have hlen : (nI (wkeys ks)).length = ks.length := by rw [nI_len]; unfold wkeys; rw [List.length_map]
  rw [F279]
  simp only [F1, hl, hr, hlen]
  refine (L268_is 100 _ ks hk hkl F249 ks.length 0 100 _ _ (by omega) (by omega) h1 h2).trans ?_
  rw [List.drop_zero, hfin]
  generalize goR ks (List.take 32 (byT (rowN x 64) tFirst), List.drop 32 (byT (rowN x 64) tFirst)) = s at *
  have hap : ior .u64 (ishl .u64 ((wordN s.2 : Nat) : Int) 32) ((wordN s.1 : Nat) : Int) = ((wordN (s.2 ++ s.1) : Nat) : Int) := ior_app (a := 32) (b := 32) hg.2 hg.1 (by omega)
  have l1 := word_lt hg.1
  have l2 := word_lt hg.2
  rw [F280, w64 (by omega), w64 (by omega)]
  simp only [hap, F2 _ (bits_app hg.2 hg.1)]
end
def h268 (x : Int) (k : List Int) := p268 h279 h260 h249 h280 100 x k
theorem E268 : EntOK FT XT 268 (en268 h268) := ok268 h279 h260 h249 h280 E279 E260 E249 E280 fun _ _ _ h => ⟨100, h⟩
theorem h249_row {half key : List Nat} (h : bits 32 half) (k : bits 48 key) : h249 ((wordN half : Nat) : Int) ((wordN key : Nat) : Int) = some ((wordN (fR half key) : Nat) : Int) := by
  have := h249_is (word_lt h) (lt64 (word_lt k) (by omega))
  rwa [row_word h, row_word k] at this
theorem h268_is {x : Nat} (hx : x < 2 ^ 64) {ks : List (List Nat)} (hk : ∀ k ∈ ks, bits 48 k) (hkl : ks.length ≤ 64) : h268 (x : Int) (nI (wkeys ks)) = some ((wordN (turnR (rowN x 64) ks) : Nat) : Int) :=
  p268_is hk hkl h279_is h280_is (by_is (w := 64) hx (by omega) (by omega) first_ok (Nat.le_refl _)) (fun l hl => by_row (w := 64) hl (by omega) (by omega) last_ok (Nat.le_refl _)) fun h k h1 h2 => h249_row h1 h2
theorem copy16 {l : List Int} (h : l.length = 16) : ([] ++ l) ++ List.drop (0 + l.length) ([(0 : Int), (0 : Int), (0 : Int), (0 : Int), (0 : Int), (0 : Int), (0 : Int), (0 : Int), (0 : Int), (0 : Int), (0 : Int), (0 : Int), (0 : Int), (0 : Int), (0 : Int), (0 : Int)] : List Int) = l := by
  rw [List.nil_append, Nat.zero_add, h, show List.drop 16 ([(0 : Int), (0 : Int), (0 : Int), (0 : Int), (0 : Int), (0 : Int), (0 : Int), (0 : Int), (0 : Int), (0 : Int), (0 : Int), (0 : Int), (0 : Int), (0 : Int), (0 : Int), (0 : Int)] : List Int) = ([] : List Int) from rfl, List.append_nil]
theorem p254_is {c247 : Int → Option (List Int)} {c268 : Int → List Int → Option Int} {N : Nat} {k b r : Int} {l : List Int} (hl : l.length = 16) (F1 : c247 k = some l) (F2 : c268 b l = some r) : p254 c247 c268 N k b = some r := by
  unfold p254
  rw [F1]
  have e := copy16 hl
  have e2 : List.take 16 l = l := List.take_of_length_le (by omega)
  simp only [e]
  simp only [hl, beq_self_eq_true, cond_true, Nat.zero_add, Nat.le_refl, decide_true, List.drop_zero, e2, F2]
def h254 (k b : Int) := p254 h247 h268 0 k b
theorem E254 : EntOK FT XT 254 (en254 h254) := ok254 h247 h268 E247 E268 fun _ _ _ h => ⟨0, h⟩
theorem wkeys_len (ks : List (List Nat)) : (nI (wkeys ks)).length = ks.length := by rw [nI_len]; unfold wkeys; rw [List.length_map]
theorem h254_is {k x : Nat} (hk : k < 2 ^ 64) (hx : x < 2 ^ 64) : h254 (k : Int) (x : Int) = some ((wordN (turnR (rowN x 64) (keysR (rowN k 64))) : Nat) : Int) :=
  p254_is (by rw [wkeys_len, keysR_len]) (h247_is hk) (h268_is hx (keysR_bits (bits_rowN k 64)) (by rw [keysR_len]; omega))
def h270 (a b : Nat) (l : List Int) := p270v0 20 a b l
theorem R270 : REntOK FT XT 270 (rn270v0 h270) := ok270v0 fun _ _ _ _ h => ⟨20, h⟩
theorem h270_at (f : Nat → Int) : h270 16 16 ((List.range 16).map f) = some (((), ()), (((List.range 16).map f).reverse, ())) := by kernel_rfl
theorem p256_is {c247 : Int → Option (List Int)} {d270 : Nat → Nat → List Int → Option ((Unit × Unit) × ((List Int) × Unit))} {c268 : Int → List Int → Option Int} {N : Nat} {k b r : Int} {l : List Int} (hl : l.length = 16) (F1 : c247 k = some l) (F0 : d270 16 16 l = some (((), ()), (l.reverse, ()))) (F2 : c268 b l.reverse = some r) : p256 c247 d270 c268 N k b = some r := by
  unfold p256
  rw [F1]
  have e := copy16 hl
  have hr : l.reverse.length = 16 := by rw [List.length_reverse, hl]
  have e2 : List.take 16 l.reverse = l.reverse := List.take_of_length_le (by omega)
  simp only [e]
  simp only [hl, beq_self_eq_true, cond_true, Nat.zero_add, Nat.le_refl, decide_true, F0, hr, List.drop_zero, e2, F2]
def h256 (k b : Int) := p256 h247 h270 h268 0 k b
theorem E256 : EntOK FT XT 256 (en256 h256) := ok256 h247 h270 h268 E247 E268 R270 fun _ _ _ h => ⟨0, h⟩
theorem h256_is {k x : Nat} (hk : k < 2 ^ 64) (hx : x < 2 ^ 64) : h256 (k : Int) (x : Int) = some ((wordN (turnR (rowN x 64) (keysR (rowN k 64)).reverse) : Nat) : Int) := by
  have hl := keysR_len (rowN k 64)
  have hb := keysR_bits (bits_rowN k 64)
  have hrev : (nI (wkeys (keysR (rowN k 64)))).reverse = nI (wkeys (keysR (rowN k 64)).reverse) := by unfold nI wkeys; rw [List.map_reverse, List.map_reverse]
  have e := row_range (z := (0 : Int)) (l := nI (wkeys (keysR (rowN k 64)))) (w := 16) (by rw [wkeys_len, hl])
  refine p256_is (by rw [wkeys_len, hl]) (h247_is hk) (by rw [e]; exact h270_at _) ?_
  rw [hrev]
  exact h268_is hx (fun k hk => hb k (List.mem_reverse.1 hk)) (by rw [List.length_reverse, hl]; omega)
/-! ### turned back -/
theorem xorL_self {w : Nat} {l f : List Nat} (hl : bits w l) (hf : bits w f) : xorL (xorL l f) f = l := by
  have h1 := word_xor (bits_xor hl hf) hf
  rw [word_xor hl hf, Nat.xor_assoc, Nat.xor_self, Nat.xor_zero] at h1
  rw [← row_word (bits_xor (bits_xor hl hf) hf), h1, row_word hl]
theorem goR_snoc (ks : List (List Nat)) (k : List Nat) (s : List Nat × List Nat) : goR (ks ++ [k]) s = ((goR ks s).2, xorL (goR ks s).1 (fR (goR ks s).2 k)) := by
  induction ks generalizing s with
  | nil => rfl
  | cons a ks ih => rw [List.cons_append, goR, ih, goR]
theorem goR_back : ∀ (ks : List (List Nat)) (s : List Nat × List Nat), bits 32 s.1 → bits 32 s.2 → goR ks.reverse ((goR ks s).2, (goR ks s).1) = (s.2, s.1)
  | [], s, _, _ => rfl
  | k :: ks, s, h1, h2 => by
    have h3 : bits 32 (xorL s.1 (fR s.2 k)) := bits_xor h1 bits_fR
    have ih := goR_back ks (s.2, xorL s.1 (fR s.2 k)) h2 h3
    rw [List.reverse_cons, goR_snoc, goR, ih]
    show (s.2, xorL (xorL s.1 (fR s.2 k)) (fR s.2 k)) = _
    rw [xorL_self h1 bits_fR]
theorem byT_byT {row : List Nat} {t u : List Nat} (hu : ∀ i ∈ u, 1 ≤ i ∧ i ≤ t.length) : byT (byT row t) u = byT row (u.map fun i => t.getD (i - 1) 0) := by
  unfold byT
  rw [List.map_map]
  apply List.map_congr_left
  intro i hi
  have := hu i hi
  show (t.map fun i => row.getD (i - 1) 0).getD (i - 1) 0 = row.getD (t.getD (i - 1) 0 - 1) 0
  rw [List.getD_eq_getElem?_getD, List.getElem?_map, List.getD_eq_getElem?_getD (l := t), List.getElem?_eq_getElem (show i - 1 < t.length by omega)]
  rfl
def iota64 : List Nat := (List.range 64).map (· + 1)
theorem byT_iota {row : List Nat} (h : bits 64 row) : byT row iota64 = row := by
  unfold byT iota64
  rw [List.map_map]
  exact (row_range (z := 0) h.1).symm
theorem fl_iota : (tLast.map fun i => tFirst.getD (i - 1) 0) = iota64 := by kernel_rfl
theorem lf_iota : (tFirst.map fun i => tLast.getD (i - 1) 0) = iota64 := by kernel_rfl
theorem last_first {row : List Nat} (h : bits 64 row) : byT (byT row tFirst) tLast = row := by rw [byT_byT (t := tFirst) last_ok, fl_iota, byT_iota h]
theorem first_last {row : List Nat} (h : bits 64 row) : byT (byT row tLast) tFirst = row := by rw [byT_byT (t := tLast) first_ok, lf_iota, byT_iota h]
theorem turnR_back {row : List Nat} (h : bits 64 row) (ks : List (List Nat)) : turnR (turnR row ks) ks.reverse = row := by
  have hb : bits 64 (byT row tFirst) := bits_byT h tFirst
  have h1 := bits_take (n := 32) hb (by omega)
  have h2 := bits_drop (n := 32) hb
  have hg := goR_bits ks (List.take 32 (byT row tFirst), List.drop 32 (byT row tFirst)) h1 h2
  have hback := goR_back ks (List.take 32 (byT row tFirst), List.drop 32 (byT row tFirst)) h1 h2
  have e1 : turnR row ks = byT ((goR ks (List.take 32 (byT row tFirst), List.drop 32 (byT row tFirst))).2 ++ (goR ks (List.take 32 (byT row tFirst), List.drop 32 (byT row tFirst))).1) tLast := rfl
  rw [e1]
  generalize goR ks (List.take 32 (byT row tFirst), List.drop 32 (byT row tFirst)) = s at *
  have hs := bits_app hg.2 hg.1
  have e2 : turnR (byT (s.2 ++ s.1) tLast) ks.reverse = byT ((goR ks.reverse (List.take 32 (byT (byT (s.2 ++ s.1) tLast) tFirst), List.drop 32 (byT (byT (s.2 ++ s.1) tLast) tFirst))).2 ++ (goR ks.reverse (List.take 32 (byT (byT (s.2 ++ s.1) tLast) tFirst), List.drop 32 (byT (byT (s.2 ++ s.1) tLast) tFirst))).1) tLast := rfl
  rw [e2, first_last hs, List.take_left' hg.2.1, List.drop_left' hg.2.1, hback]
  show byT (List.take 32 (byT row tFirst) ++ List.drop 32 (byT row tFirst)) tLast = row
  rw [List.take_append_drop, last_first h]
theorem word_turn64 {row : List Nat} (h : bits 64 row) (ks : List (List Nat)) : wordN (turnR row ks) < 2 ^ 64 := word_lt (turnR_bits h ks)
/-! bits that play no part -/
theorem low_out : (tKeys.all fun i => !(Nat.testBit 72340172838076673 (64 - i))) = true := by kernel_rfl
theorem keys_low (k b : Nat) : keysR (rowN (k ^^^ (b &&& 72340172838076673)) 64) = keysR (rowN k 64) := by
  have e : byT (rowN (k ^^^ (b &&& 72340172838076673)) 64) tKeys = byT (rowN k 64) tKeys := by
    unfold byT
    apply List.map_congr_left
    intro i hi
    have h1 := keys_ok i hi
    have h2 := List.all_eq_true.1 low_out i hi
    rw [List.getD_eq_getElem?_getD, List.getD_eq_getElem?_getD, rowN_get' _ _ _ (by omega), rowN_get' _ _ _ (by omega), show 64 - 1 - (i - 1) = 64 - i by omega, Nat.testBit_xor, Nat.testBit_and]
    rw [Bool.not_eq_true'] at h2
    rw [h2, Bool.and_false, Bool.xor_false]
  unfold keysR
  rw [e]
/-! ### all bits other ones -/
def neg (l : List Nat) : List Nat := l.map (1 ^^^ ·)
theorem neg_len (l : List Nat) : (neg l).length = l.length := by unfold neg; rw [List.length_map]
theorem bits_neg {w : Nat} {l : List Nat} (h : bits w l) : bits w (neg l) := ⟨by rw [neg_len, h.1], fun x hx => by
  unfold neg at hx
  obtain ⟨y, hy, rfl⟩ := List.mem_map.1 hx
  exact xor2 (by omega) (h.2 y hy)⟩
theorem byT_neg {row t : List Nat} (ht : ∀ i ∈ t, 1 ≤ i ∧ i ≤ row.length) : byT (neg row) t = neg (byT row t) := by
  unfold byT neg
  rw [List.map_map]
  apply List.map_congr_left
  intro i hi
  have := ht i hi
  show (row.map (1 ^^^ ·)).getD (i - 1) 0 = 1 ^^^ row.getD (i - 1) 0
  rw [List.getD_eq_getElem?_getD, List.getElem?_map, List.getD_eq_getElem?_getD, List.getElem?_eq_getElem (show i - 1 < row.length by omega)]
  rfl
theorem neg_app (a b : List Nat) : neg (a ++ b) = neg a ++ neg b := by unfold neg; rw [List.map_append]
theorem rot_neg (n : Nat) (l : List Nat) : rot n (neg l) = neg (rot n l) := by unfold rot neg; rw [List.map_append, List.map_drop, List.map_take]
theorem keysGo_neg : ∀ (ns : List Nat) (c d : List Nat), (∀ n ∈ ns, n ≤ 28) → bits 28 c → bits 28 d → keysGo (neg c) (neg d) ns = (keysGo c d ns).map neg
  | [], _, _, _, _, _ => rfl
  | n :: ns, c, d, hn, hc, hd => by
    have c1 := bits_rot hc (hn n (by simp))
    have d1 := bits_rot hd (hn n (by simp))
    rw [keysGo, keysGo, rot_neg, rot_neg, ← neg_app, byT_neg (by rw [(bits_app c1 d1).1]; exact rounds_ok), keysGo_neg ns _ _ (fun m hm => hn m (by simp [hm])) c1 d1, List.map_cons]
theorem neg_take (n : Nat) (l : List Nat) : (neg l).take n = neg (l.take n) := by unfold neg; rw [List.map_take]
theorem neg_drop (n : Nat) (l : List Nat) : (neg l).drop n = neg (l.drop n) := by unfold neg; rw [List.map_drop]
theorem keysR_neg {row : List Nat} (h : bits 64 row) : keysR (neg row) = (keysR row).map neg := by
  have hb : bits 56 (byT row tKeys) := bits_byT h tKeys
  unfold keysR
  rw [byT_neg (by rw [h.1]; exact keys_ok), neg_take, neg_drop]
  exact keysGo_neg shs _ _ (by decide) (bits_take hb (by omega)) (bits_drop (n := 28) hb)
theorem xorL_neg1 {w : Nat} {a b : List Nat} (ha : bits w a) (hb : bits w b) : xorL (neg a) (neg b) = xorL a b := by
  unfold xorL neg
  rw [List.zipWith_map]
  congr 1
  funext x y
  show (1 ^^^ x) ^^^ (1 ^^^ y) = x ^^^ y
  rw [Nat.xor_comm 1 x, Nat.xor_assoc, ← Nat.xor_assoc 1 1 y, Nat.xor_self, Nat.zero_xor]
theorem xorL_neg2 (a b : List Nat) : xorL (neg a) b = neg (xorL a b) := by
  unfold xorL neg
  rw [List.zipWith_map_left, List.map_zipWith]
  congr 1
  funext x y
  show (1 ^^^ x) ^^^ y = 1 ^^^ (x ^^^ y)
  rw [Nat.xor_assoc]
theorem fR_neg {h k : List Nat} (hh : bits 32 h) (hk : bits 48 k) : fR (neg h) (neg k) = fR h k := by
  unfold fR
  rw [byT_neg (by rw [hh.1]; exact wide_ok), xorL_neg1 (bits_byT hh tWide) hk]
theorem goR_neg : ∀ (ks : List (List Nat)) (s : List Nat × List Nat), (∀ k ∈ ks, bits 48 k) → bits 32 s.1 → bits 32 s.2 → goR (ks.map neg) (neg s.1, neg s.2) = (neg (goR ks s).1, neg (goR ks s).2)
  | [], s, _, _, _ => rfl
  | k :: ks, s, hk, h1, h2 => by
    rw [List.map_cons, goR, goR]
    have h3 : bits 32 (xorL s.1 (fR s.2 k)) := bits_xor h1 bits_fR
    have ih := goR_neg ks (s.2, xorL s.1 (fR s.2 k)) (fun x hx => hk x (by simp [hx])) h2 h3
    show goR (ks.map neg) (neg s.2, xorL (neg s.1) (fR (neg s.2) (neg k))) = _
    rw [fR_neg h2 (hk k (by simp)), xorL_neg2]
    exact ih
theorem turnR_neg {row : List Nat} (h : bits 64 row) {ks : List (List Nat)} (hk : ∀ k ∈ ks, bits 48 k) : turnR (neg row) (ks.map neg) = neg (turnR row ks) := by
  have hb : bits 64 (byT row tFirst) := bits_byT h tFirst
  have h1 := bits_take (n := 32) hb (by omega)
  have h2 := bits_drop (n := 32) hb
  have hg := goR_bits ks (List.take 32 (byT row tFirst), List.drop 32 (byT row tFirst)) h1 h2
  have hn := goR_neg ks (List.take 32 (byT row tFirst), List.drop 32 (byT row tFirst)) hk h1 h2
  have e1 : turnR row ks = byT ((goR ks (List.take 32 (byT row tFirst), List.drop 32 (byT row tFirst))).2 ++ (goR ks (List.take 32 (byT row tFirst), List.drop 32 (byT row tFirst))).1) tLast := rfl
  have e2 : turnR (neg row) (ks.map neg) = byT ((goR (ks.map neg) (List.take 32 (byT (neg row) tFirst), List.drop 32 (byT (neg row) tFirst))).2 ++ (goR (ks.map neg) (List.take 32 (byT (neg row) tFirst), List.drop 32 (byT (neg row) tFirst))).1) tLast := rfl
  rw [e1, e2, byT_neg (by rw [h.1]; exact first_ok), neg_take, neg_drop]
  have hn' : goR (ks.map neg) (neg (List.take 32 (byT row tFirst)), neg (List.drop 32 (byT row tFirst))) = _ := hn
  rw [hn']
  generalize goR ks (List.take 32 (byT row tFirst), List.drop 32 (byT row tFirst)) = s at *
  show byT (neg s.2 ++ neg s.1) tLast = _
  rw [← neg_app, byT_neg (by rw [(bits_app hg.2 hg.1).1]; exact last_ok)]
theorem all1 : rowN 18446744073709551615 64 = List.replicate 64 1 := by kernel_rfl
theorem neg_xor {l : List Nat} (h : bits 64 l) : neg l = xorL (List.replicate 64 1) l := by
  apply List.ext_getElem?
  intro j
  unfold neg xorL
  rw [List.getElem?_map, List.getElem?_zipWith, List.getElem?_replicate]
  by_cases hj : j < 64
  · rw [if_pos hj, List.getElem?_eq_getElem (by rw [h.1]; exact hj)]; rfl
  · rw [if_neg hj, List.getElem?_eq_none (by rw [h.1]; omega)]; rfl
theorem row_not {x : Nat} : rowN (18446744073709551615 ^^^ x) 64 = neg (rowN x 64) := by rw [← row_xor, all1, neg_xor (bits_rowN x 64)]
theorem word_not {l : List Nat} (h : bits 64 l) : wordN (neg l) = 18446744073709551615 ^^^ wordN l := by
  have e := row_not (x := wordN l)
  rw [row_word h] at e
  rw [← e, word_rowN, Nat.mod_eq_of_lt (Nat.xor_lt_two_pow (n := 64) (by omega) (word_lt h))]
theorem xor64 {a b : Nat} (ha : a < 2 ^ 64) (hb : b < 2 ^ 64) : ixor .u64 (a : Int) (b : Int) = ((a ^^^ b : Nat) : Int) := ixor_u .u64 rfl a b ha hb
end Go.Proofs.YtpiadkdalilmnaaE
