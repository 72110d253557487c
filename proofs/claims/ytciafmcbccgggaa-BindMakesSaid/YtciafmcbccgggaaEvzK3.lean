/- SHA-256: the laws Sha256Blocks, Sha256Is answer true. -/
import Derived.Test.YtciafmcbccgggaaEvzK2
namespace Go.Proofs.YtciafmcbccgggaaE
open Go
set_option linter.unusedSimpArgs false
set_option linter.unusedVariables false
theorem p217_is {c19 : Int → Int → Bool → Option ((List Int) × Int)} (F : ∀ m : Nat, c19 (m : Int) 8 false = some (nI (le8 m).reverse, 0)) {N n : Nat} : p217 c19 N (n : Int) = some (nI (tail (le8 (bits8 n)).reverse n)) := by
 have h8 : imul .u64 (n : Int) 8 = ((bits8 n : Nat) : Int) := by
  have := mul64 n 8
  rw [Nat.mul_comm] at this
  exact this
 have hz := nz_lt n
 unfold p217
 rw [zc_is n, h8, F]
 have hl : (le8 (bits8 n)).reverse.length = 8 := rfl
 unfold tail
 generalize (le8 (bits8 n)).reverse = e at hl ⊢
 generalize nz n = z at hz ⊢
 have hrep : (List.replicate z (0 : Int)) = nI (List.replicate z 0) := nI_rep z 0
 rw [Int.toNat_natCast, hrep]
 have hpre : ([128] : List Int) ++ nI (List.replicate z 0) = nI (128 :: List.replicate z 0) := rfl
 have hpl : (nI (128 :: List.replicate z 0)).length = 1 + z := by simp [nI_len]; omega
 have htot : nI (128 :: List.replicate z 0) ++ nI e = nI (128 :: (List.replicate z 0 ++ e)) := by rw [nI_app]; rfl
 have htl : (nI (128 :: (List.replicate z 0 ++ e))).length = 1 + z + 8 := by simp [nI_len, hl]; omega
 have hzl : (nI (List.replicate z 0)).length = z := by simp [nI_len]
 simp only [show (0 : Int) ≤ ((z : Nat) : Int) by omega, show ((z : Nat) : Int) * ((1 : Nat) : Int) ≤ 1099511627776 by omega, show ((z : Nat) : Int) ≤ 1099511627776 by omega, decide_true, Bool.and_self, cond_true, hzl, Nat.mul_one, beq_self_eq_true, hpre, hpl, nI_len, hl, htot, htl]
 rcases Nat.eq_zero_or_pos z with h0 | hp
 ·subst h0
  simp only [show ¬ (1 < 1 + 0) by omega, decide_false, cond_false, show 1 + 0 ≤ 1 by omega, decide_true, cond_true, show 1 < 1 + 0 + 8 by omega, show 1 + 0 + 8 ≤ 1099511627776 by omega, Bool.and_self]
  have hd : List.drop (1 + 0) [(128 : Int)] = [] := rfl
  rw [hd, List.append_nil, hpl]
  have ht : List.take (1 + 0) (List.drop 0 (nI (128 :: List.replicate 0 0))) = nI (128 :: List.replicate 0 0) := rfl
  rw [ht, htot, htl]
  simp only [Nat.zero_add, Nat.le_refl, decide_true, cond_true, List.drop_zero]
  rw [List.take_of_length_le (by rw [htl]; exact Nat.le_refl _)]
 ·simp only [show 1 < 1 + z by omega, decide_true, cond_true, show 1 + z ≤ 1099511627776 by omega, show 1 + z + 8 ≤ 1099511627776 by omega, Bool.and_self, Nat.zero_add, Nat.le_refl, List.drop_zero]
  rw [List.take_of_length_le (by rw [htl]; exact Nat.le_refl _)]
def h217 (n : Int) := p217 h19 0 n
theorem E217 : EntOK FT XT 217 (en217 h217) := ok217 h19 E19 fun _ _ h => ⟨0, h⟩
theorem h217_is (n : Nat) : h217 (n : Int) = some (nI (tail (le8 (bits8 n)).reverse n)) := p217_is fun m => put_be8 m
def h218 (n : Int) := p218 h186 0 n
theorem E218 : EntOK FT XT 218 (en218 h218) := ok218 h186 E186 fun _ _ h => ⟨0, h⟩
theorem h218_is (n : Nat) : h218 (n : Int) = some (nI (tail (le8 (bits8 n)).reverse n)) := by
 unfold h218 p218
 rw [h186_is]
/-- bytes, and what is put behind -/
def s1msg (b : List Nat) : List Nat := b ++ tail (le8 (bits8 b.length)).reverse b.length
theorem s1msg_len (b : List Nat) : (s1msg b).length = b.length + (nz b.length + 9) := by
 unfold s1msg; rw [List.length_append, tail_len _ rfl]
theorem s1msg_mod (b : List Nat) : (s1msg b).length = 64 * ((s1msg b).length / 64) := by
 have := nz_mod b.length
 have := s1msg_len b
 omega
theorem le8_bel (m : Nat) : bel 256 (le8 m) := fun x hx => by
 simp only [le8, List.mem_cons, List.not_mem_nil, or_false] at hx
 rcases hx with h | h | h | h | h | h | h | h <;> (rw [h]; exact Nat.mod_lt _ (by omega))
theorem bel_rev {m : Nat} {l : List Nat} (h : bel m l) : bel m l.reverse := fun x hx => h x (List.mem_reverse.1 hx)
theorem tail_bel {e : List Nat} (n : Nat) (h : bel 256 e) : bel 256 (tail e n) := fun x hx => by
 unfold tail at hx
 rcases List.mem_cons.1 hx with h1 | h1
 ·rw [h1]; omega
 ·exact bel_app (bel_rep (by omega)) h x h1
theorem s1msg_bel {b : List Nat} (h : bel 256 b) : bel 256 (s1msg b) := bel_app h (tail_bel _ (bel_rev (le8_bel _)))
def s2end (b : List Nat) : S8 := s2blks ((s1msg b).length / 64) s2I (s1msg b)
def s2dig (b : List Nat) : List Nat := (s2end b).bytes
theorem s2dig_len (b : List Nat) : (s2dig b).length = 32 := by rw [s2dig, S8.bytes, flatMap_be4_len, s8l_len]
section
variable {c46 : List (List Int) → Option (List Int)} {c217 c218 : Int → Option (List Int)} {c219 c220 : Option (List Int)} {c83 : Int → Int → Option (List Int)} {c229 : List Int → List Int → List Int → Option (List Int)} {c216 : List Int → List Int → Option (List Int)}
theorem p213_is (F46 : ∀ ll : List (List Int), ll.length ≤ 1000 → ll.flatten.length ≤ 100000 → c46 ll = some ll.flatten) (F217 : ∀ n : Nat, c217 (n : Int) = some (nI (tail (le8 (bits8 n)).reverse n))) (F219 : c219 = some (nI s2I.l)) (F83 : c83 64 3 = some (nI s2K))
  (F : ∀ (s : S8) (B : List Nat), s.ok → bel 256 B → B.length = 64 → c229 (nI s.l) (nI B) (nI s2K) = some (nI (s2blk s B).l))
  {ll : List (List Int)} {b : List Nat} (hll : ll.length ≤ 1000) (hfl : ll.flatten = nI b) (hb : bel 256 b) (hbl : b.length ≤ 6000) : p213 c46 c217 c219 c83 c229 100 ll = some (nI (s2dig b)) := by
 have hm := s1msg_len b
 have hz := nz_lt b.length
 have hmod := s1msg_mod b
 unfold p213
 rw [F46 ll hll (by rw [hfl, nI_len]; omega), hfl]
 simp only [nI_len]
 rw [w64 (by omega), F217, F219, F83]
 simp only [nI_len, tail_len _ (show (le8 (bits8 b.length)).reverse.length = 8 from rfl), Nat.mul_one, beq_self_eq_true, show b.length + (nz b.length + 9) ≤ 1099511627776 by omega, decide_true, Bool.and_self, cond_true, s8l_len, Nat.zero_add, Nat.le_refl, nI_app, List.length_append, List.drop_zero]
 rw [nI_take, List.nil_append, show List.drop 8 [(0 : Int), (0 : Int), (0 : Int), (0 : Int), (0 : Int), (0 : Int), (0 : Int), (0 : Int)] = ([] : List Int) from rfl, List.append_nil, show List.take (b.length + (nz b.length + 9)) (b ++ tail (le8 (bits8 b.length)).reverse b.length) = s1msg b from List.take_of_length_le (by have := s1msg_len b; unfold s1msg at this; omega)]
 refine (L213_0_is F 100 _ _ ((s1msg b).length / 64) 100 (s1msg b) s2I hmod (by omega) (s1msg_bel hb) s2I_ok (by omega)).trans ?_
 have hend : s2blks ((s1msg b).length / 64) s2I (s1msg b) = s2end b := by rw [s2end]
 rw [hend, s2dig, ← prg_bytes]
 generalize s2end b = t
 rw [nI8 t]
 refine (L213_1_is _ _ _ _ _ _ _ _ _ _).trans ?_
 rw [prg_bytes t]
 have hDl : (nI t.bytes).length = 32 := by rw [nI_len, S8.bytes, flatMap_be4_len, s8l_len]
 generalize nI t.bytes = D at *
 have hDt : List.take 32 D = D := List.take_of_length_le (by omega)
 simp [hDl, hDt]
theorem p214_is (F218 : ∀ n : Nat, c218 (n : Int) = some (nI (tail (le8 (bits8 n)).reverse n))) (F220 : c220 = some (nI s2I.l))
  (F : ∀ (s : S8) (B : List Nat), s.ok → bel 256 B → B.length = 64 → c216 (nI s.l) (nI B) = some (nI (s2blk s B).l))
  {b : List Nat} (hb : bel 256 b) (hbl : b.length ≤ 6000) : p214 c218 c220 c216 100 (nI b) = some (nI (s2dig b)) := by
 have hm := s1msg_len b
 have hz := nz_lt b.length
 have hmod := s1msg_mod b
 unfold p214
 simp only [nI_len, Nat.mul_one, show b.length ≤ 1099511627776 by omega, decide_true, Bool.and_self, cond_true]
 rw [w64 (by omega), F218, F220]
 simp only [nI_len, tail_len _ (show (le8 (bits8 b.length)).reverse.length = 8 from rfl), beq_self_eq_true, show b.length + (nz b.length + 9) ≤ 1099511627776 by omega, decide_true, Bool.and_self, cond_true, s8l_len, Nat.zero_add, Nat.le_refl, nI_app]
 rw [List.nil_append, show List.drop 8 [(0 : Int), (0 : Int), (0 : Int), (0 : Int), (0 : Int), (0 : Int), (0 : Int), (0 : Int)] = ([] : List Int) from rfl, List.append_nil, show b ++ tail (le8 (bits8 b.length)).reverse b.length = s1msg b from rfl, ← hm]
 refine (L214_0_is F _ (s1msg b) ((s1msg b).length / 64) hmod (by omega) (s1msg_bel hb) _ ((s1msg b).length / 64) 0 100 s2I (by omega) (by omega) s2I_ok).trans ?_
 rw [Nat.mul_zero, List.drop_zero]
 have hend : s2blks ((s1msg b).length / 64) s2I (s1msg b) = s2end b := by rw [s2end]
 rw [hend, s2dig, ← ref_bytes]
 generalize s2end b = t
 rw [nI8 t]
 refine (L214_2_is _ _ _ _ _ _ _ _ _ _).trans ?_
 rw [ref_bytes t]
 exact row_fin (k := 32) rfl (by rw [nI_len, S8.bytes, flatMap_be4_len, s8l_len])
end
def h213 (ll : List (List Int)) := p213 f1 h217 h219 h83 h229 100 ll
theorem E213 : EntOK FT XT 213 (en213 h213) := ok213 f1 h217 h219 h83 h229 E46 E217 E219 E83 E229 fun _ _ h => ⟨100, h⟩
theorem h213_is {ll : List (List Int)} {b : List Nat} (hll : ll.length ≤ 1000) (hfl : ll.flatten = nI b) (hb : bel 256 b) (hbl : b.length ≤ 6000) : h213 ll = some (nI (s2dig b)) :=
 p213_is (fun ll h1 h2 => f1_is (by omega) (by omega)) h217_is h219_is h83_K (fun s B h1 h2 h3 => h229_is h1 h2 h3) hll hfl hb hbl
def h214 (b : List Int) := p214 h218 h220 h216 100 b
theorem E214 : EntOK FT XT 214 (en214 h214) := ok214 h218 h220 h216 E218 E220 E216 fun _ _ h => ⟨100, h⟩
theorem h214_is {b : List Nat} (hb : bel 256 b) (hbl : b.length ≤ 6000) : h214 (nI b) = some (nI (s2dig b)) :=
 p214_is h218_is h220_is (fun s B h1 h2 h3 => h216_is h1 h2 h3) hb hbl
end Go.Proofs.YtciafmcbccgggaaE
