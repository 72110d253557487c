/- HMAC: contracts. -/
import Derived.Test.YtciafmcbccgggaaEvzK3
namespace Go.Proofs.YtciafmcbccgggaaE
open Go
set_option linter.unusedSimpArgs false
set_option linter.unusedVariables false
theorem xor8 {a b : Nat} (ha : a < 256) (hb : b < 256) : ixor .u8 (a : Int) (b : Int) = ((a ^^^ b : Nat) : Int) := ixor_u .u8 rfl a b ha hb
theorem or8' {a b : Nat} (ha : a < 256) (hb : b < 256) : ior .u8 (a : Int) (b : Int) = ((a ||| b : Nat) : Int) := ior_u .u8 rfl a b ha hb
theorem lt_or8 {a b : Nat} (ha : a < 256) (hb : b < 256) : a ||| b < 256 := Nat.or_lt_two_pow (n := 8) ha hb
theorem lt_xor8 {a b : Nat} (ha : a < 256) (hb : b < 256) : a ^^^ b < 256 := Nat.xor_lt_two_pow (n := 8) ha hb
theorem gt_el {l : List Nat} {i : Nat} (h : i < l.length) : l[i] = gt l i := by unfold gt; rw [List.getD_eq_getElem?_getD, List.getElem?_eq_getElem h]; rfl
theorem xor0 {x y : Nat} (h : x ^^^ y = 0) : x = y := by
 have : (x ^^^ y) ^^^ y = 0 ^^^ y := by rw [h]
 rwa [Nat.xor_assoc, Nat.xor_self, Nat.xor_zero, Nat.zero_xor] at this
theorem L47_is (N : Nat) (a b : List Nat) (hl : a.length = b.length) (ha : bel 256 a) (hb : bel 256 b) (h40 : a.length < 2 ^ 40) : ∀ (d i fuel acc : Nat), i + d = a.length → d < fuel → acc < 256 →
  L47_0 N (fun y8 => some (y8 == 0)) fuel (nI b) (acc : Int) (nI a) ((a.length : Nat) : Int) (i : Int) = some (acc == 0 && a.drop i == b.drop i) := by
 intro d
 induction d with
 | zero =>
  intro i fuel acc hd hf hacc
  obtain ⟨m, rfl⟩ : ∃ m, fuel = m + 1 := ⟨fuel - 1, by omega⟩
  rw [List.drop_of_length_le (by omega), List.drop_of_length_le (by omega)]
  simp only [L47_0, show ¬ ((i : Int) < ((a.length : Nat) : Int)) by omega, decide_false, cond_false, beq_self_eq_true, Bool.and_true]
  congr 1
  by_cases h : acc = 0
  ·subst h; rfl
  ·rw [beq_eq_false_iff_ne.2 h, beq_eq_false_iff_ne.2 (by omega)]
 | succ d ih =>
  intro i fuel acc hd hf hacc
  obtain ⟨m, rfl⟩ : ∃ m, fuel = m + 1 := ⟨fuel - 1, by omega⟩
  have hi : i < a.length := by omega
  have hi2 : i < b.length := by omega
  have x1 := bel_gt ha hi
  have x2 := bel_gt hb hi2
  simp only [L47_0, show ((i : Int) < ((a.length : Nat) : Int)) by omega, decide_true, cond_true, geti_nat, getn hi, getn hi2]
  rw [xor8 x1 x2, or8' hacc (lt_xor8 x1 x2), up1 (by omega), ih (i + 1) m _ (by omega) (by omega) (lt_or8 hacc (lt_xor8 x1 x2))]
  have d1 : a.drop i = gt a i :: a.drop (i + 1) := by
   rw [List.drop_eq_getElem_cons hi, gt_el hi]
  have d2 : b.drop i = gt b i :: b.drop (i + 1) := by
   rw [List.drop_eq_getElem_cons hi2, gt_el hi2]
  rw [d1, d2]
  congr 1
  by_cases h : gt a i = gt b i
  ·rw [h, Nat.xor_self, Nat.or_zero]
   simp
  ·have h1 : gt a i ^^^ gt b i ≠ 0 := fun hh => h (xor0 hh)
   have h2 : acc ||| (gt a i ^^^ gt b i) ≠ 0 := fun hh => h1 (Nat.or_eq_zero_iff.1 hh).2
   rw [beq_eq_false_iff_ne.2 h2, beq_eq_false_iff_ne.2 (show gt a i :: a.drop (i + 1) ≠ gt b i :: b.drop (i + 1) from fun hh => h (List.cons.inj hh).1), Bool.and_false, Bool.false_and]
def h47 (a b : List Int) := p47 (a.length + 1) a b
theorem E47 : EntOK FT XT 47 (en47 h47) := ok47 fun a _ _ h => ⟨a.length + 1, h⟩
theorem h47_is {a b : List Nat} (ha : bel 256 a) (hb : bel 256 b) (h40 : a.length < 2 ^ 40) : h47 (nI a) (nI b) = some (a == b) := by
 unfold h47 p47
 simp only [nI_len]
 by_cases hl : a.length = b.length
 ·rw [hl, bne_self_eq_false, cond_false, ← hl]
  have := L47_is (a.length + 1) a b hl ha hb h40 a.length 0 (a.length + 1) 0 (by omega) (by omega) (by omega)
  rw [List.drop_zero, List.drop_zero] at this
  exact this
 ·rw [bne_iff_ne.2 (by omega), cond_true]
  congr 1
  exact (beq_eq_false_iff_ne.2 (fun h => hl (by rw [h]))).symm
def pad64 (l : List Nat) : List Nat := l ++ List.replicate (64 - l.length) 0
theorem pad64_len {l : List Nat} (h : l.length ≤ 64) : (pad64 l).length = 64 := by unfold pad64; rw [List.length_append, List.length_replicate]; omega
theorem pad64_bel {l : List Nat} (h : bel 256 l) : bel 256 (pad64 l) := bel_app h (bel_rep (by omega))
theorem s2dig_bel (b : List Nat) : bel 256 (s2dig b) := by
 rw [s2dig, S8.bytes]
 exact fun x hx => by
  obtain ⟨y, _, hy⟩ := List.mem_flatMap.1 hx
  simp only [be4, List.mem_cons, List.not_mem_nil, or_false] at hy
  omega
def kb (k : List Nat) : List Nat := pad64 (if 64 < k.length then s2dig k else k)
theorem kb_len (k : List Nat) : (kb k).length = 64 := by
 unfold kb
 split
 ·exact pad64_len (by rw [s2dig_len]; omega)
 ·exact pad64_len (by omega)
theorem kb_bel {k : List Nat} (h : bel 256 k) : bel 256 (kb k) := by
 unfold kb
 split
 ·exact pad64_bel (s2dig_bel _)
 ·exact pad64_bel h
theorem Zr : ([(0 : Int), (0 : Int), (0 : Int), (0 : Int), (0 : Int), (0 : Int), (0 : Int), (0 : Int), (0 : Int), (0 : Int), (0 : Int), (0 : Int), (0 : Int), (0 : Int), (0 : Int), (0 : Int), (0 : Int), (0 : Int), (0 : Int), (0 : Int), (0 : Int), (0 : Int), (0 : Int), (0 : Int), (0 : Int), (0 : Int), (0 : Int), (0 : Int), (0 : Int), (0 : Int), (0 : Int), (0 : Int), (0 : Int), (0 : Int), (0 : Int), (0 : Int), (0 : Int), (0 : Int), (0 : Int), (0 : Int), (0 : Int), (0 : Int), (0 : Int), (0 : Int), (0 : Int), (0 : Int), (0 : Int), (0 : Int), (0 : Int), (0 : Int), (0 : Int), (0 : Int), (0 : Int), (0 : Int), (0 : Int), (0 : Int), (0 : Int), (0 : Int), (0 : Int), (0 : Int), (0 : Int), (0 : Int), (0 : Int), (0 : Int)] : List Int) = nI (List.replicate 64 0) := rfl
theorem lay64 {l : List Nat} (h : l.length ≤ 64) : (([] ++ nI l) ++ (List.drop (0 + (nI l).length) ([(0 : Int), (0 : Int), (0 : Int), (0 : Int), (0 : Int), (0 : Int), (0 : Int), (0 : Int), (0 : Int), (0 : Int), (0 : Int), (0 : Int), (0 : Int), (0 : Int), (0 : Int), (0 : Int), (0 : Int), (0 : Int), (0 : Int), (0 : Int), (0 : Int), (0 : Int), (0 : Int), (0 : Int), (0 : Int), (0 : Int), (0 : Int), (0 : Int), (0 : Int), (0 : Int), (0 : Int), (0 : Int), (0 : Int), (0 : Int), (0 : Int), (0 : Int), (0 : Int), (0 : Int), (0 : Int), (0 : Int), (0 : Int), (0 : Int), (0 : Int), (0 : Int), (0 : Int), (0 : Int), (0 : Int), (0 : Int), (0 : Int), (0 : Int), (0 : Int), (0 : Int), (0 : Int), (0 : Int), (0 : Int), (0 : Int), (0 : Int), (0 : Int), (0 : Int), (0 : Int), (0 : Int), (0 : Int), (0 : Int), (0 : Int)] : List Int))) = nI (pad64 l) := by
 rw [Zr, nI_len, List.nil_append, Nat.zero_add, nI_drop, nI_app]
 unfold pad64
 congr 2
 rw [List.drop_replicate]
theorem row_in' {k : Nat} {l z : List Int} (hl : l.length = k) (hz : z.length = k) : ([] ++ l) ++ List.drop l.length z = l := by
 rw [List.nil_append, List.drop_of_length_le (by omega), List.append_nil]
theorem t64 {l : List Nat} (h : l.length = 64) : List.take 64 (List.drop 0 (nI l)) = nI l := by rw [List.drop_zero, List.take_of_length_le (by rw [nI_len]; omega)]
theorem t32 {l : List Nat} (h : l.length = 32) : List.take 32 (List.drop 0 (nI l)) = nI l := by rw [List.drop_zero, List.take_of_length_le (by rw [nI_len]; omega)]
section
variable {c213 : List (List Int) → Option (List Int)} {c214 : List Int → Option (List Int)}
theorem p224_is {N : Nat} {k : List Nat} (F : 64 < k.length → c213 [nI k] = some (nI (s2dig k))) : p224 c213 N (nI k) = some (nI (kb k)) := by
 unfold p224 kb
 by_cases h : 64 < k.length
 ·have hd := s2dig_len k
  have hp := pad64_len (l := s2dig k) (by omega)
  have e1 := row_in (l := nI (s2dig k)) (k := 32) (z := ([(0 : Int), (0 : Int), (0 : Int), (0 : Int), (0 : Int), (0 : Int), (0 : Int), (0 : Int), (0 : Int), (0 : Int), (0 : Int), (0 : Int), (0 : Int), (0 : Int), (0 : Int), (0 : Int), (0 : Int), (0 : Int), (0 : Int), (0 : Int), (0 : Int), (0 : Int), (0 : Int), (0 : Int), (0 : Int), (0 : Int), (0 : Int), (0 : Int), (0 : Int), (0 : Int), (0 : Int), (0 : Int)] : List Int)) (by rw [nI_len]; exact hd) rfl
  have e3 := lay64 (l := s2dig k) (by omega)
  have e4 := row_in (l := nI (pad64 (s2dig k))) (k := 64) (z := ([(0 : Int), (0 : Int), (0 : Int), (0 : Int), (0 : Int), (0 : Int), (0 : Int), (0 : Int), (0 : Int), (0 : Int), (0 : Int), (0 : Int), (0 : Int), (0 : Int), (0 : Int), (0 : Int), (0 : Int), (0 : Int), (0 : Int), (0 : Int), (0 : Int), (0 : Int), (0 : Int), (0 : Int), (0 : Int), (0 : Int), (0 : Int), (0 : Int), (0 : Int), (0 : Int), (0 : Int), (0 : Int), (0 : Int), (0 : Int), (0 : Int), (0 : Int), (0 : Int), (0 : Int), (0 : Int), (0 : Int), (0 : Int), (0 : Int), (0 : Int), (0 : Int), (0 : Int), (0 : Int), (0 : Int), (0 : Int), (0 : Int), (0 : Int), (0 : Int), (0 : Int), (0 : Int), (0 : Int), (0 : Int), (0 : Int), (0 : Int), (0 : Int), (0 : Int), (0 : Int), (0 : Int), (0 : Int), (0 : Int), (0 : Int)] : List Int)) (by rw [nI_len]; exact hp) rfl
  simp only [show (((nI k).length : Nat) : Int) > 64 by rw [nI_len]; omega, decide_true, cond_true, F h, e1, t32 hd, e3, t64 hp, e4, h, if_true]
  simp only [nI_len, hd, hp, Nat.le_refl, decide_true, cond_true, beq_self_eq_true, Nat.zero_add, show (32 : Nat) ≤ 64 by omega]
 ·have hp := pad64_len (l := k) (by omega)
  have e2 : List.take ((nI k).length * 1) (List.drop 0 (nI k)) = nI k := by rw [List.drop_zero, List.take_of_length_le (by omega)]
  have e3 := lay64 (l := k) (by omega)
  have e4 := row_in (l := nI (pad64 k)) (k := 64) (z := ([(0 : Int), (0 : Int), (0 : Int), (0 : Int), (0 : Int), (0 : Int), (0 : Int), (0 : Int), (0 : Int), (0 : Int), (0 : Int), (0 : Int), (0 : Int), (0 : Int), (0 : Int), (0 : Int), (0 : Int), (0 : Int), (0 : Int), (0 : Int), (0 : Int), (0 : Int), (0 : Int), (0 : Int), (0 : Int), (0 : Int), (0 : Int), (0 : Int), (0 : Int), (0 : Int), (0 : Int), (0 : Int), (0 : Int), (0 : Int), (0 : Int), (0 : Int), (0 : Int), (0 : Int), (0 : Int), (0 : Int), (0 : Int), (0 : Int), (0 : Int), (0 : Int), (0 : Int), (0 : Int), (0 : Int), (0 : Int), (0 : Int), (0 : Int), (0 : Int), (0 : Int), (0 : Int), (0 : Int), (0 : Int), (0 : Int), (0 : Int), (0 : Int), (0 : Int), (0 : Int), (0 : Int), (0 : Int), (0 : Int), (0 : Int)] : List Int)) (by rw [nI_len]; exact hp) rfl
  simp only [show ¬ ((((nI k).length : Nat) : Int) > 64) by rw [nI_len]; omega, decide_false, cond_false, show (nI k).length ≤ 64 by rw [nI_len]; omega, decide_true, cond_true, e2, e3, t64 hp, e4, h, if_false]
  simp only [nI_len, hp, Nat.le_refl, decide_true, cond_true, beq_self_eq_true, Nat.zero_add, show k.length ≤ 64 by omega]
theorem set_lay {l : List Nat} {i : Nat} (h : i < l.length) (h64 : l.length ≤ 64) : (l.take i ++ List.replicate (64 - i) 0).set i (gt l i) = l.take (i + 1) ++ List.replicate (64 - (i + 1)) 0 := by
 have e : List.replicate (64 - i) (0 : Nat) = 0 :: List.replicate (64 - (i + 1)) 0 := by rw [show 64 - i = (64 - (i + 1)) + 1 by omega, List.replicate_succ]
 have e2 : l.take (i + 1) = l.take i ++ [gt l i] := by
  rw [List.take_add_one, List.getElem?_eq_getElem h, gt_el h]; rfl
 rw [e, List.set_append_right _ _ (by rw [List.length_take]; omega), List.length_take, Nat.min_eq_left (by omega), Nat.sub_self, List.set_cons_zero, e2, List.append_assoc]
 rfl
theorem L225_0_is (N : Nat) (q : List Int → List Int → Option (List Int)) (v4 : List Int) (l : List Nat) (h64 : l.length ≤ 64) : ∀ (d i fuel : Nat), i + d = l.length → d < fuel →
  L225_0 c214 N q fuel (nI l) (i : Int) v4 (nI (l.take i ++ List.replicate (64 - i) 0)) = q v4 (nI (pad64 l)) := by
 intro d
 induction d with
 | zero =>
  intro i fuel hd hf
  obtain ⟨m, rfl⟩ : ∃ m, fuel = m + 1 := ⟨fuel - 1, by omega⟩
  simp only [L225_0, nI_len, show ¬ ((i : Int) < ((l.length : Nat) : Int)) by omega, decide_false, cond_false]
  rw [List.take_of_length_le (by omega), show i = l.length by omega]
  rfl
 | succ d ih =>
  intro i fuel hd hf
  obtain ⟨m, rfl⟩ : ∃ m, fuel = m + 1 := ⟨fuel - 1, by omega⟩
  have hi : i < l.length := by omega
  simp only [L225_0, nI_len, show ((i : Int) < ((l.length : Nat) : Int)) by omega, decide_true, cond_true, geti_nat, getn hi, show (0 : Int) ≤ (i : Int) by omega, show (i : Int) < 64 by omega, Bool.and_self, Int.toNat_natCast, Nat.zero_add, Nat.mul_one, List.length_append, List.length_take, List.length_replicate, show i < min i l.length + (64 - i) by omega]
  rw [up1 (by omega), nI_set, set_lay hi h64]
  exact ih (i + 1) m (by omega) (by omega)
theorem p225_is {N : Nat} (hN : 64 < N) {k : List Nat} (F : 64 < k.length → c214 (nI k) = some (nI (s2dig k))) : p225 c214 N (nI k) = some (nI (kb k)) := by
 unfold p225 kb
 by_cases h : 64 < k.length
 ·have hd := s2dig_len k
  have e1 := row_in (l := nI (s2dig k)) (k := 32) (z := ([(0 : Int), (0 : Int), (0 : Int), (0 : Int), (0 : Int), (0 : Int), (0 : Int), (0 : Int), (0 : Int), (0 : Int), (0 : Int), (0 : Int), (0 : Int), (0 : Int), (0 : Int), (0 : Int), (0 : Int), (0 : Int), (0 : Int), (0 : Int), (0 : Int), (0 : Int), (0 : Int), (0 : Int), (0 : Int), (0 : Int), (0 : Int), (0 : Int), (0 : Int), (0 : Int), (0 : Int), (0 : Int)] : List Int)) (by rw [nI_len]; exact hd) rfl
  have hp := pad64_len (l := s2dig k) (by omega)
  rw [show decide ((((nI k).length : Nat) : Int) > 64) = true from decide_eq_true (by rw [nI_len]; omega), cond_true, F h]
  simp only [e1, t32 hd, nI_len, hd, beq_self_eq_true, Nat.zero_add, Nat.le_refl, decide_true, cond_true, h, if_true]
  refine (L225_0_is (c214 := c214) N _ _ (s2dig k) (by omega) 32 0 N (by omega) (by omega)).trans ?_
  exact row_fin (k := 64) rfl (by rw [nI_len]; exact hp)
 ·have hp := pad64_len (l := k) (by omega)
  rw [show decide ((((nI k).length : Nat) : Int) > 64) = false from decide_eq_false (by rw [nI_len]; omega), cond_false, if_neg h]
  refine (L225_0_is (c214 := c214) N _ _ k (by omega) k.length 0 N (by omega) (by omega)).trans ?_
  exact row_fin (k := 64) rfl (by rw [nI_len]; exact hp)
end
def padx (k : List Nat) (x : Nat) : List Nat := (kb k).map (· ^^^ x)
theorem padx_len (k : List Nat) (x : Nat) : (padx k x).length = 64 := by unfold padx; rw [List.length_map, kb_len]
theorem padx_bel {k : List Nat} (h : bel 256 k) {x : Nat} (hx : x < 256) : bel 256 (padx k x) := fun y hy => by
 unfold padx at hy
 obtain ⟨z, hz, rfl⟩ := List.mem_map.1 hy
 exact lt_xor8 (kb_bel h _ hz) hx
theorem map_step {l : List Nat} {i : Nat} (h : i < l.length) (f : Nat → Nat) : (l.take (i + 1)).map f = (l.take i).map f ++ [f (gt l i)] := by
 have e2 : l.take (i + 1) = l.take i ++ [gt l i] := by
  rw [List.take_add_one, List.getElem?_eq_getElem h, gt_el h]; rfl
 rw [e2, List.map_append]; rfl
theorem L233_0_is (N : Nat) (q : Nat → List Int → Option (List Int)) (x : Nat) (hx : x < 256) (l : List Nat) (hl : l.length = 64) (hb : bel 256 l) : ∀ (d i fuel : Nat), i + d = 64 → d < fuel →
  L233_0 N q fuel (x : Int) i (i : Int) (nI l) (nI ((l.take i).map (· ^^^ x))) = q 64 (nI (l.map (· ^^^ x))) := by
 intro d
 induction d with
 | zero =>
  intro i fuel hd hf
  obtain ⟨m, rfl⟩ : ∃ m, fuel = m + 1 := ⟨fuel - 1, by omega⟩
  obtain rfl : i = 64 := by omega
  rw [List.take_of_length_le (by omega)]
  rfl
 | succ d ih =>
  intro i fuel hd hf
  obtain ⟨m, rfl⟩ : ∃ m, fuel = m + 1 := ⟨fuel - 1, by omega⟩
  have hi : i < l.length := by omega
  simp only [L233_0, show (i : Int) < 64 by omega, decide_true, cond_true, show (0 : Int) ≤ (i : Int) by omega, Bool.and_self, Int.toNat_natCast, Nat.zero_add, Nat.mul_one, getn hi, nI_len, List.length_map, List.length_take, show min i l.length = i by omega, beq_self_eq_true, show i + 1 ≤ 1099511627776 by omega]
  rw [up1 (by omega), xor8 (bel_gt hb hi) hx, show ([((gt l i ^^^ x : Nat) : Int)] : List Int) = nI [gt l i ^^^ x] from rfl, nI_app, ← map_step hi (· ^^^ x)]
  exact ih (i + 1) m (by omega) (by omega)
theorem p233_is {N : Nat} (hN : 64 < N) {x : Nat} (hx : x < 256) {l : List Nat} (hl : l.length = 64) (hb : bel 256 l) : p233 N (nI l) (x : Int) = some (nI (l.map (· ^^^ x))) := by
 unfold p233
 refine (L233_0_is N _ x hx l hl hb 64 0 N (by omega) (by omega)).trans ?_
 simp only [nI_len, List.length_map, hl, beq_self_eq_true, cond_true]
theorem set_map {l : List Nat} {i : Nat} (h : i < l.length) (f : Nat → Nat) : ((l.take i).map f ++ l.drop i).set i (f (gt l i)) = (l.take (i + 1)).map f ++ l.drop (i + 1) := by
 have d1 : l.drop i = gt l i :: l.drop (i + 1) := by
  rw [List.drop_eq_getElem_cons h, gt_el h]
 rw [List.set_append_right _ _ (by rw [List.length_map, List.length_take]; omega), List.length_map, List.length_take, Nat.min_eq_left (by omega), Nat.sub_self, d1, List.set_cons_zero, map_step h, List.append_assoc]
 rfl
theorem gt_mid {l : List Nat} {i : Nat} (h : i < l.length) (f : Nat → Nat) : ((nI ((l.take i).map f ++ l.drop i))[i]? : Option Int) = some ((gt l i : Nat) : Int) := by
 rw [nI_get, List.getElem?_append_right (by rw [List.length_map, List.length_take]; omega), List.length_map, List.length_take, Nat.min_eq_left (by omega), Nat.sub_self, List.getElem?_drop, Nat.add_zero]
 rw [List.getElem?_eq_getElem h, gt_el h]; rfl
section
variable {c224 : List Int → Option (List Int)}
theorem L234_0_is (N : Nat) (q : List Int → Option (List Int)) (x : Nat) (hx : x < 256) (l : List Nat) (hl : l.length = 64) (hb : bel 256 l) : ∀ (d i fuel : Nat), i + d = 64 → d < fuel →
  L234_0 c224 N q fuel (x : Int) (i : Int) (nI ((l.take i).map (· ^^^ x) ++ l.drop i)) = q (nI (l.map (· ^^^ x))) := by
 intro d
 induction d with
 | zero =>
  intro i fuel hd hf
  obtain ⟨m, rfl⟩ : ∃ m, fuel = m + 1 := ⟨fuel - 1, by omega⟩
  obtain rfl : i = 64 := by omega
  rw [List.take_of_length_le (by omega), List.drop_of_length_le (by omega), List.append_nil]
  rfl
 | succ d ih =>
  intro i fuel hd hf
  obtain ⟨m, rfl⟩ : ∃ m, fuel = m + 1 := ⟨fuel - 1, by omega⟩
  have hi : i < l.length := by omega
  simp only [L234_0, show (i : Int) < 64 by omega, decide_true, cond_true, show (0 : Int) ≤ (i : Int) by omega, Bool.and_self, Int.toNat_natCast, Nat.zero_add, Nat.mul_one, gt_mid hi, nI_len, List.length_append, List.length_map, List.length_take, List.length_drop, show i < min i l.length + (l.length - i) by omega]
  rw [up1 (by omega), xor8 (bel_gt hb hi) hx, nI_set, set_map hi (· ^^^ x)]
  exact ih (i + 1) m (by omega) (by omega)
theorem p234_is {N : Nat} (hN : 64 < N) {x : Nat} (hx : x < 256) {k : List Nat} (hb : bel 256 k) (F : c224 (nI k) = some (nI (kb k))) : p234 c224 N (nI k) (x : Int) = some (nI (padx k x)) := by
 unfold p234 padx
 have hl := kb_len k
 have e := row_in (l := nI (kb k)) (k := 64) (z := ([(0 : Int), (0 : Int), (0 : Int), (0 : Int), (0 : Int), (0 : Int), (0 : Int), (0 : Int), (0 : Int), (0 : Int), (0 : Int), (0 : Int), (0 : Int), (0 : Int), (0 : Int), (0 : Int), (0 : Int), (0 : Int), (0 : Int), (0 : Int), (0 : Int), (0 : Int), (0 : Int), (0 : Int), (0 : Int), (0 : Int), (0 : Int), (0 : Int), (0 : Int), (0 : Int), (0 : Int), (0 : Int), (0 : Int), (0 : Int), (0 : Int), (0 : Int), (0 : Int), (0 : Int), (0 : Int), (0 : Int), (0 : Int), (0 : Int), (0 : Int), (0 : Int), (0 : Int), (0 : Int), (0 : Int), (0 : Int), (0 : Int), (0 : Int), (0 : Int), (0 : Int), (0 : Int), (0 : Int), (0 : Int), (0 : Int), (0 : Int), (0 : Int), (0 : Int), (0 : Int), (0 : Int), (0 : Int), (0 : Int), (0 : Int)] : List Int)) (by rw [nI_len]; exact hl) rfl
 rw [F]
 simp only [e]
 simp only [nI_len, hl, beq_self_eq_true, cond_true, Nat.zero_add, Nat.le_refl, decide_true]
 refine (L234_0_is (c224 := c224) N _ x hx (kb k) hl (kb_bel hb) 64 0 N (by omega) (by omega)).trans ?_
 simp only [nI_len, List.length_map, hl, Nat.le_refl, decide_true, cond_true]
 rw [t64 (by rw [List.length_map, hl])]
end
def hm (k m : List Nat) : List Nat := s2dig (padx k 92 ++ s2dig (padx k 54 ++ m))
theorem hm_len (k m : List Nat) : (hm k m).length = 32 := by unfold hm; exact s2dig_len _
theorem hm_bel (k m : List Nat) : bel 256 (hm k m) := by unfold hm; exact s2dig_bel _
section
variable {c234 : List Int → Int → Option (List Int)} {c46 : List (List Int) → Option (List Int)} {c213 : List (List Int) → Option (List Int)} {c225 : List Int → Option (List Int)} {c233 : List Int → Int → Option (List Int)} {c214 : List Int → Option (List Int)}
theorem p223_is {N : Nat} {k m : List Nat} {ll : List (List Int)} (hk : bel 256 k) (hm1 : bel 256 m) (hml : m.length ≤ 5000) (F1 : c234 (nI k) 54 = some (nI (padx k 54))) (F2 : c234 (nI k) 92 = some (nI (padx k 92))) (F46 : c46 ll = some (nI m))
  (F213 : ∀ (ll : List (List Int)) (b : List Nat), ll.length ≤ 1000 → ll.flatten = nI b → bel 256 b → b.length ≤ 6000 → c213 ll = some (nI (s2dig b))) : p223 c234 c46 c213 N (nI k) ll = some (nI (hm k m)) := by
 unfold p223
 have e0 : List.take (nI m).length (List.drop 0 (nI m)) = nI m := by rw [List.drop_zero, List.take_of_length_le (Nat.le_refl _)]
 have f1 := F213 [nI (padx k 54), nI m] (padx k 54 ++ m) (by simp) (by simp [← nI_app]) (bel_app (padx_bel hk (by omega)) hm1) (by rw [List.length_append, padx_len]; omega)
 have hd1 := s2dig_len (padx k 54 ++ m)
 have f2 := F213 [nI (padx k 92), nI (s2dig (padx k 54 ++ m))] (padx k 92 ++ s2dig (padx k 54 ++ m)) (by simp) (by simp [← nI_app]) (bel_app (padx_bel hk (by omega)) (s2dig_bel _)) (by rw [List.length_append, padx_len]; omega)
 rw [show s2dig (padx k 92 ++ s2dig (padx k 54 ++ m)) = hm k m from rfl] at f2
 have hd2 := hm_len k m
 generalize s2dig (padx k 54 ++ m) = d1 at *
 have e1 := row_in (l := nI d1) (k := 32) (z := ([(0 : Int), (0 : Int), (0 : Int), (0 : Int), (0 : Int), (0 : Int), (0 : Int), (0 : Int), (0 : Int), (0 : Int), (0 : Int), (0 : Int), (0 : Int), (0 : Int), (0 : Int), (0 : Int), (0 : Int), (0 : Int), (0 : Int), (0 : Int), (0 : Int), (0 : Int), (0 : Int), (0 : Int), (0 : Int), (0 : Int), (0 : Int), (0 : Int), (0 : Int), (0 : Int), (0 : Int), (0 : Int)] : List Int)) (by rw [nI_len]; exact hd1) rfl
 have e2 := row_in (l := nI (hm k m)) (k := 32) (z := ([(0 : Int), (0 : Int), (0 : Int), (0 : Int), (0 : Int), (0 : Int), (0 : Int), (0 : Int), (0 : Int), (0 : Int), (0 : Int), (0 : Int), (0 : Int), (0 : Int), (0 : Int), (0 : Int), (0 : Int), (0 : Int), (0 : Int), (0 : Int), (0 : Int), (0 : Int), (0 : Int), (0 : Int), (0 : Int), (0 : Int), (0 : Int), (0 : Int), (0 : Int), (0 : Int), (0 : Int), (0 : Int)] : List Int)) (by rw [nI_len]; exact hd2) rfl
 rw [F1, F46, F2]
 simp only [e0, f1, e1, e2, t32 hd1, t32 hd2, f2]
 simp only [nI_len, hd1, hd2, Nat.zero_add, Nat.mul_one, Nat.le_refl, decide_true, cond_true, beq_self_eq_true]
theorem p222_is {N : Nat} {k m : List Nat} (hk : bel 256 k) (hm1 : bel 256 m) (hml : m.length ≤ 5000) (F225 : c225 (nI k) = some (nI (kb k))) (F233 : ∀ x : Nat, x < 256 → c233 (nI (kb k)) (x : Int) = some (nI (padx k x)))
  (F214 : ∀ b : List Nat, bel 256 b → b.length ≤ 6000 → c214 (nI b) = some (nI (s2dig b))) : p222 c225 c233 c214 N (nI k) (nI m) = some (nI (hm k m)) := by
 unfold p222
 have hl := kb_len k
 have e := row_in (l := nI (kb k)) (k := 64) (z := ([(0 : Int), (0 : Int), (0 : Int), (0 : Int), (0 : Int), (0 : Int), (0 : Int), (0 : Int), (0 : Int), (0 : Int), (0 : Int), (0 : Int), (0 : Int), (0 : Int), (0 : Int), (0 : Int), (0 : Int), (0 : Int), (0 : Int), (0 : Int), (0 : Int), (0 : Int), (0 : Int), (0 : Int), (0 : Int), (0 : Int), (0 : Int), (0 : Int), (0 : Int), (0 : Int), (0 : Int), (0 : Int), (0 : Int), (0 : Int), (0 : Int), (0 : Int), (0 : Int), (0 : Int), (0 : Int), (0 : Int), (0 : Int), (0 : Int), (0 : Int), (0 : Int), (0 : Int), (0 : Int), (0 : Int), (0 : Int), (0 : Int), (0 : Int), (0 : Int), (0 : Int), (0 : Int), (0 : Int), (0 : Int), (0 : Int), (0 : Int), (0 : Int), (0 : Int), (0 : Int), (0 : Int), (0 : Int), (0 : Int), (0 : Int)] : List Int)) (by rw [nI_len]; exact hl) rfl
 have x1 : c233 (nI (kb k)) 54 = some (nI (padx k 54)) := F233 54 (by omega)
 have x2 : c233 (nI (kb k)) 92 = some (nI (padx k 92)) := F233 92 (by omega)
 have f1 := F214 (padx k 54 ++ m) (bel_app (padx_bel hk (by omega)) hm1) (by rw [List.length_append, padx_len]; omega)
 have hd1 := s2dig_len (padx k 54 ++ m)
 have f2 := F214 (padx k 92 ++ s2dig (padx k 54 ++ m)) (bel_app (padx_bel hk (by omega)) (s2dig_bel _)) (by rw [List.length_append, padx_len]; omega)
 rw [show s2dig (padx k 92 ++ s2dig (padx k 54 ++ m)) = hm k m from rfl] at f2
 have hd2 := hm_len k m
 have hp1 := padx_len k 54
 have hp2 := padx_len k 92
 have e0 : List.take (64 + m.length) (List.drop 0 (nI (padx k 54 ++ m))) = nI (padx k 54 ++ m) := by rw [List.drop_zero, List.take_of_length_le (by rw [nI_len, List.length_append]; omega)]
 have e00 : List.take (64 + 32) (List.drop 0 (nI (padx k 92 ++ s2dig (padx k 54 ++ m)))) = nI (padx k 92 ++ s2dig (padx k 54 ++ m)) := by rw [List.drop_zero, List.take_of_length_le (by rw [nI_len, List.length_append]; omega)]
 have s1 : (padx k 54 ++ m).length = 64 + m.length := by rw [List.length_append, hp1]
 have s2 : (padx k 92 ++ s2dig (padx k 54 ++ m)).length = 64 + 32 := by rw [List.length_append, hp2, hd1]
 generalize s2dig (padx k 54 ++ m) = d1 at *
 have e1 := row_in (l := nI d1) (k := 32) (z := ([(0 : Int), (0 : Int), (0 : Int), (0 : Int), (0 : Int), (0 : Int), (0 : Int), (0 : Int), (0 : Int), (0 : Int), (0 : Int), (0 : Int), (0 : Int), (0 : Int), (0 : Int), (0 : Int), (0 : Int), (0 : Int), (0 : Int), (0 : Int), (0 : Int), (0 : Int), (0 : Int), (0 : Int), (0 : Int), (0 : Int), (0 : Int), (0 : Int), (0 : Int), (0 : Int), (0 : Int), (0 : Int)] : List Int)) (by rw [nI_len]; exact hd1) rfl
 have e2 := row_in (l := nI (hm k m)) (k := 32) (z := ([(0 : Int), (0 : Int), (0 : Int), (0 : Int), (0 : Int), (0 : Int), (0 : Int), (0 : Int), (0 : Int), (0 : Int), (0 : Int), (0 : Int), (0 : Int), (0 : Int), (0 : Int), (0 : Int), (0 : Int), (0 : Int), (0 : Int), (0 : Int), (0 : Int), (0 : Int), (0 : Int), (0 : Int), (0 : Int), (0 : Int), (0 : Int), (0 : Int), (0 : Int), (0 : Int), (0 : Int), (0 : Int)] : List Int)) (by rw [nI_len]; exact hd2) rfl
 rw [F225]
 simp only [e, t64 hl]
 simp only [nI_len, hl, x1, x2, hp1, hp2, beq_self_eq_true, Nat.zero_add, Nat.le_refl, decide_true, cond_true, Nat.mul_one, nI_app, s1, e0, f1, show 64 + m.length ≤ 1099511627776 by omega, Bool.and_self]
 rw [show (([] : List Int) ++ nI d1) = nI d1 from rfl, hd1, show List.drop 32 ([(0 : Int), (0 : Int), (0 : Int), (0 : Int), (0 : Int), (0 : Int), (0 : Int), (0 : Int), (0 : Int), (0 : Int), (0 : Int), (0 : Int), (0 : Int), (0 : Int), (0 : Int), (0 : Int), (0 : Int), (0 : Int), (0 : Int), (0 : Int), (0 : Int), (0 : Int), (0 : Int), (0 : Int), (0 : Int), (0 : Int), (0 : Int), (0 : Int), (0 : Int), (0 : Int), (0 : Int), (0 : Int)] : List Int) = ([] : List Int) from rfl, List.append_nil, t32 hd1, nI_app, e00, f2]
 have e3 := row_in' (l := nI (hm k m)) (k := 32) (z := ([(0 : Int), (0 : Int), (0 : Int), (0 : Int), (0 : Int), (0 : Int), (0 : Int), (0 : Int), (0 : Int), (0 : Int), (0 : Int), (0 : Int), (0 : Int), (0 : Int), (0 : Int), (0 : Int), (0 : Int), (0 : Int), (0 : Int), (0 : Int), (0 : Int), (0 : Int), (0 : Int), (0 : Int), (0 : Int), (0 : Int), (0 : Int), (0 : Int), (0 : Int), (0 : Int), (0 : Int), (0 : Int)] : List Int)) (by rw [nI_len]; exact hd2) rfl
 simp only [e3, t32 hd2]
 simp only [nI_len, s2, hd1, hd2, Nat.zero_add, Nat.le_refl, decide_true, cond_true, beq_self_eq_true, show (64 + 32 : Nat) ≤ 1099511627776 by omega, Bool.and_self]
end
def h224 (a : List Int) := p224 h213 0 a
theorem E224 : EntOK FT XT 224 (en224 h224) := ok224 h213 E213 fun _ _ h => ⟨0, h⟩
theorem h224_is {k : List Nat} (hb : bel 256 k) (hl : k.length ≤ 6000) : h224 (nI k) = some (nI (kb k)) := p224_is fun _ => h213_is (by simp) (by simp) hb hl
def h225 (a : List Int) := p225 h214 100 a
theorem E225 : EntOK FT XT 225 (en225 h225) := ok225 h214 E214 fun _ _ h => ⟨100, h⟩
theorem h225_is {k : List Nat} (hb : bel 256 k) (hl : k.length ≤ 6000) : h225 (nI k) = some (nI (kb k)) := p225_is (by omega) fun _ => h214_is hb hl
def h233 (a : List Int) (x : Int) := p233 100 a x
theorem E233 : EntOK FT XT 233 (en233 h233) := ok233 fun _ _ _ h => ⟨100, h⟩
def h234 (a : List Int) (x : Int) := p234 h224 100 a x
theorem E234 : EntOK FT XT 234 (en234 h234) := ok234 h224 E224 fun _ _ _ h => ⟨100, h⟩
def h223 (a : List Int) (l : List (List Int)) := p223 h234 f1 h213 0 a l
theorem E223 : EntOK FT XT 223 (en223 h223) := ok223 h234 f1 h213 E234 E46 E213 fun _ _ _ h => ⟨0, h⟩
theorem h223_is {k m : List Nat} {ll : List (List Int)} (hk : bel 256 k) (hkl : k.length ≤ 6000) (hm1 : bel 256 m) (hml : m.length ≤ 5000) (hfl : ll.flatten = nI m) (hll : ll.length ≤ 1000) : h223 (nI k) ll = some (nI (hm k m)) :=
 p223_is hk hm1 hml (p234_is (by omega) (x := 54) (by omega) hk (h224_is hk hkl)) (p234_is (by omega) (x := 92) (by omega) hk (h224_is hk hkl)) (by rw [← hfl]; exact f1_is (by omega) (by rw [hfl, nI_len]; omega)) fun ll b h1 h2 h3 h4 => h213_is h1 h2 h3 h4
def h222 (a b : List Int) := p222 h225 h233 h214 0 a b
theorem E222 : EntOK FT XT 222 (en222 h222) := ok222 h225 h233 h214 E225 E233 E214 fun _ _ _ h => ⟨0, h⟩
theorem h222_is {k m : List Nat} (hk : bel 256 k) (hkl : k.length ≤ 6000) (hm1 : bel 256 m) (hml : m.length ≤ 5000) : h222 (nI k) (nI m) = some (nI (hm k m)) :=
 p222_is hk hm1 hml (h225_is hk hkl) (fun x hx => p233_is (by omega) hx (kb_len k) (kb_bel hk)) fun b h1 h2 => h214_is h1 h2
end Go.Proofs.YtciafmcbccgggaaE
