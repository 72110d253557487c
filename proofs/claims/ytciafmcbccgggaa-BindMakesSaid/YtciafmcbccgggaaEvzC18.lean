/- Chapter 18: packets laid, parsed, looked at. -/
import Derived.Test.YtciafmcbccgggaaEvzC18P
namespace Go.Proofs.YtciafmcbccgggaaE
open Go
set_option linter.unusedSimpArgs false
set_option linter.unusedVariables false
theorem L319_is {N : Nat} {q : Nat → Int → List Int → Option ((List Int) × Int)} {v4 v7 : Int} {v6 : Bool} {v9 : List Int} : ∀ (t pre : List At) (acc : List Nat) (k fuel : Nat), k = acc.length → t.length < fuel → gA t → (pre ++ t).length ≤ 100000 → acc.length + 5004 * t.length ≤ 1000000000 →
  L319_0 h50 h141 N q fuel k v4 ((pre.length : Nat) : Int) v6 v7 (nA (pre ++ t)) v9 (nI acc) = if (layA t).2 = 0 then q (k + (layA t).1.length) v4 (nI (acc ++ (layA t).1)) else some ([], ((layA t).2 : Int))
 | [], pre, acc, k, fuel + 1, _, _, _, _, _ => by
  rw [L319_0, nA_len, ltF, cond_false, if_pos (show (layA []).2 = 0 from rfl), show (layA []).1 = [] from rfl, List.append_nil]; rfl
 | a :: t, pre, acc, k, fuel + 1, hk, hf, ht, hn, hc => by
  have e3 : h141 ((at1 a).1, (at1 a).2) = some (enB (lay17 a.1 a.2)) := h141_is (by have := (gA_head ht).2.2; omega)
  have hl := lay17_len a.1 a.2
  have ha := (gA_head ht).2.2
  have hn2 : pre.length + t.length + 1 ≤ 100000 := by simpa [Nat.add_assoc] using hn
  rw [List.length_cons] at hc
  have ih := L319_is (N := N) (q := q) (v4 := v4) (v6 := v6) (v7 := v7) (v9 := v9) t (pre ++ [a]) (acc ++ (lay17 a.1 a.2).1) (k + (lay17 a.1 a.2).1.length) fuel (by rw [List.length_append, hk]) (by simpa using hf) (gA_tail ht) (by rw [← app1]; exact hn) (by rw [List.length_append]; omega)
  rw [L319_0, nA_len, ltT, cond_true, nA_at]
  simp only [e3, enB]
  by_cases h : (lay17 a.1 a.2).2 = 0
  ·rw [h, show (((0 : Nat) : Int) != 0) = false from rfl, cond_false]
   rw [show ((nI acc).length == k * 1) = true from beq_iff_eq.2 (by rw [nI_len]; omega), nI_len, Bool.true_and, decide_eq_true (by omega), decide_eq_true (by omega), Bool.and_self, cond_true, inc1 pre a (by omega), nI_app]
   rw [← app1 pre t a] at ih
   rw [ih]
   by_cases g : (layA t).2 = 0
   ·rw [layA_1 h g, if_pos g, if_pos rfl, List.length_append, Nat.add_assoc, List.append_assoc]
   ·rw [layA_2 h g, if_neg g, if_neg g]
  ·rw [layA_3 h, if_neg h, bne_iff_ne.2 (by omega), cond_true]
def tail19 : Nat → Int → List Int → Option ((List Int) × Int) :=
fun (y13 : Nat) (y14 : Int) (y15 : List Int) =>
         bif (((y13 : Nat) : Int) == (0 : Int)) then
          some (([] : List Int), (4 : Int))
         else
          bif (decide ((iadd .i64 (4 : Int) ((y13 : Nat) : Int)) > (4095 : Int))) then
           some (([] : List Int), (8 : Int))
          else
           match h50 (IntKind.wrap .u64 (iadd .i64 (4 : Int) ((y13 : Nat) : Int))) (2 : Int) with
           | none => none
           | some r16 =>
            bif (decide ((0 + ((List.length r16) * 1)) ≤ (List.length r16))) then
             bif (decide (2 < (2 + (List.length r16)))) then
              bif ((decide (((2 + (List.length r16)) * 1) ≤ 1099511627776)) && (decide ((2 + (List.length r16)) ≤ 1099511627776))) then
               bif (decide ((0 + (y13 * 1)) ≤ (List.length y15))) then
                bif (((List.length ([(16 : Int), y14] ++ (List.take ((List.length r16) * 1) (List.drop 0 r16)))) == ((2 + (List.length r16)) * 1)) && ((decide ((((2 + (List.length r16)) + y13) * 1) ≤ 1099511627776)) && (decide (((2 + (List.length r16)) + y13) ≤ 1099511627776)))) then
                 bif (decide ((0 + (((2 + (List.length r16)) + y13) * 1)) ≤ (List.length (([(16 : Int), y14] ++ (List.take ((List.length r16) * 1) (List.drop 0 r16))) ++ (List.take (y13 * 1) (List.drop 0 y15)))))) then
                  some ((List.take ((2 + (List.length r16)) + y13) (List.drop 0 (([(16 : Int), y14] ++ (List.take ((List.length r16) * 1) (List.drop 0 r16))) ++ (List.take (y13 * 1) (List.drop 0 y15))))), (0 : Int))
                 else none
                else none
               else none
              else none
             else
              bif (decide ((2 + (List.length (List.take ((List.length r16) * 1) (List.drop 0 r16)))) ≤ 2)) then
               bif (decide ((0 + (y13 * 1)) ≤ (List.length y15))) then
                bif (decide (2 < ((2 + (List.length r16)) + y13))) then
                 bif ((decide ((((2 + (List.length r16)) + y13) * 1) ≤ 1099511627776)) && (decide (((2 + (List.length r16)) + y13) ≤ 1099511627776))) then
                  bif (decide ((0 + ((2 + (List.length r16)) * 1)) ≤ (List.length (([(16 : Int), y14] ++ (List.take ((List.length r16) * 1) (List.drop 0 r16))) ++ (List.drop (2 + (List.length (List.take ((List.length r16) * 1) (List.drop 0 r16)))) [(16 : Int), y14]))))) then
                   bif (decide ((0 + (((2 + (List.length r16)) + y13) * 1)) ≤ (List.length ((List.take ((2 + (List.length r16)) * 1) (List.drop 0 (([(16 : Int), y14] ++ (List.take ((List.length r16) * 1) (List.drop 0 r16))) ++ (List.drop (2 + (List.length (List.take ((List.length r16) * 1) (List.drop 0 r16)))) [(16 : Int), y14])))) ++ (List.take (y13 * 1) (List.drop 0 y15)))))) then
                    some ((List.take ((2 + (List.length r16)) + y13) (List.drop 0 ((List.take ((2 + (List.length r16)) * 1) (List.drop 0 (([(16 : Int), y14] ++ (List.take ((List.length r16) * 1) (List.drop 0 r16))) ++ (List.drop (2 + (List.length (List.take ((List.length r16) * 1) (List.drop 0 r16)))) [(16 : Int), y14])))) ++ (List.take (y13 * 1) (List.drop 0 y15))))), (0 : Int))
                   else none
                  else none
                 else none
                else
                 bif (decide (((0 + ((2 + (List.length r16)) * 1)) + (List.length (List.take (y13 * 1) (List.drop 0 y15)))) ≤ (List.length (([(16 : Int), y14] ++ (List.take ((List.length r16) * 1) (List.drop 0 r16))) ++ (List.drop (2 + (List.length (List.take ((List.length r16) * 1) (List.drop 0 r16)))) [(16 : Int), y14]))))) then
                  bif (decide ((0 + (((2 + (List.length r16)) + y13) * 1)) ≤ (List.length (((List.take (0 + ((2 + (List.length r16)) * 1)) (([(16 : Int), y14] ++ (List.take ((List.length r16) * 1) (List.drop 0 r16))) ++ (List.drop (2 + (List.length (List.take ((List.length r16) * 1) (List.drop 0 r16)))) [(16 : Int), y14]))) ++ (List.take (y13 * 1) (List.drop 0 y15))) ++ (List.drop ((0 + ((2 + (List.length r16)) * 1)) + (List.length (List.take (y13 * 1) (List.drop 0 y15)))) (([(16 : Int), y14] ++ (List.take ((List.length r16) * 1) (List.drop 0 r16))) ++ (List.drop (2 + (List.length (List.take ((List.length r16) * 1) (List.drop 0 r16)))) [(16 : Int), y14]))))))) then
                   some ((List.take ((2 + (List.length r16)) + y13) (List.drop 0 (((List.take (0 + ((2 + (List.length r16)) * 1)) (([(16 : Int), y14] ++ (List.take ((List.length r16) * 1) (List.drop 0 r16))) ++ (List.drop (2 + (List.length (List.take ((List.length r16) * 1) (List.drop 0 r16)))) [(16 : Int), y14]))) ++ (List.take (y13 * 1) (List.drop 0 y15))) ++ (List.drop ((0 + ((2 + (List.length r16)) * 1)) + (List.length (List.take (y13 * 1) (List.drop 0 y15)))) (([(16 : Int), y14] ++ (List.take ((List.length r16) * 1) (List.drop 0 r16))) ++ (List.drop (2 + (List.length (List.take ((List.length r16) * 1) (List.drop 0 r16)))) [(16 : Int), y14])))))), (0 : Int))
                  else none
                 else none
               else none
              else none
            else none
theorem be2_len (n : Nat) : (nI (be2 n)).length = 2 := by rw [nI_len]; rfl
theorem take2 (n : Nat) : List.take (2 * 1) (List.drop 0 (nI (be2 n))) = nI (be2 n) := tk0 _ (Nat.le_of_eq (be2_len n))
theorem tail19_is {k : Nat} {b : List Nat} (h : b.length ≤ 100000) (h0 : b.length ≠ 0) : tail19 b.length (k : Int) (nI b) = some (enB (if 4091 < b.length then ([], 8) else ([16, k] ++ (be2 (4 + b.length) ++ b), 0))) := by
 unfold tail19
 have e : iadd .i64 4 ((b.length : Nat) : Int) = ((4 + b.length : Nat) : Int) := addn (a := 4) (by omega)
 simp only [e, w64 (show 4 + b.length < 2 ^ 64 by omega), h50_2 (show 4 + b.length < 2 ^ 64 by omega), be2_len, take2, Bool.cond_eq_ite, decide_eq_true_eq, Bool.and_eq_true, beq_iff_eq]
 rw [if_neg (by omega)]
 by_cases h4 : 4091 < b.length
 ·rw [if_pos (by omega), if_pos h4]; rfl
 have e1 : ([16, (k : Int)] ++ nI (be2 (4 + b.length))) ++ nI b = nI ([16, k] ++ (be2 (4 + b.length) ++ b)) := by simp [nI]
 have e2 : ([16, (k : Int)] ++ nI (be2 (4 + b.length))).length = 4 := rfl
 have e3 : ([16, k] ++ (be2 (4 + b.length) ++ b)).length = 2 + 2 + b.length := by simp [be2]; omega
 have e5 : List.take (b.length * 1) (List.drop 0 (nI b)) = nI b := tk0 _ (by rw [nI_len]; omega)
 rw [if_neg (by omega), if_neg h4, if_pos (by omega), if_pos (by omega), if_pos (by omega), nI_len, if_pos (by omega), e5, e1, e2, nI_len, e3, if_pos ⟨rfl, by omega, by omega⟩, if_pos (by omega), tk0 _ (by rw [nI_len, e3]; exact Nat.le_refl _)]
 rfl
def h319 (p : PkI) := p319 h50 h141 20 p
theorem E319 : EntOK FT XT 319 (en319 h319) := ok319 h50 h141 E50 E141 fun _ _ h => ⟨20, h⟩
theorem h319_is {p : Pk} (g : gK p) : h319 (enK p) = some (enB (lay18 p)) := by
 obtain ⟨g1, g2, g3, g4, g5⟩ := g
 obtain ⟨m, id, l, d⟩ := p
 simp only [] at g1 g2 g3 g4 g5
 have hb := layA_len l g2
 unfold h319 p319
 simp only [enK, nA_len, nI_len]
 cases m
 ·simp only [cond_false]
  have e : iadd .i64 4 ((d.length : Nat) : Int) = ((4 + d.length : Nat) : Int) := addn (a := 4) (by omega)
  simp only [e, w64 (show 4 + d.length < 2 ^ 64 by omega), h50_2 (show 4 + d.length < 2 ^ 64 by omega), be2_len, take2, Bool.cond_eq_ite, decide_eq_true_eq, Bool.and_eq_true, beq_iff_eq]
  by_cases h0 : d.length = 0
  ·rw [if_pos (by omega), show lay18 (false, id, l, d) = ([], 4) by simp [lay18, body18, h0]]; rfl
  rw [if_neg (by omega)]
  have hd : lay18 (false, id, l, d) = if 4091 < d.length then ([], 8) else ([16, 0] ++ (be2 (4 + d.length) ++ d), 0) := by
   simp only [lay18, body18, Bool.false_eq_true, if_false, if_neg h0, if_true, cond_false]
  rw [hd]
  by_cases h4 : 4091 < d.length
  ·rw [if_pos (by omega), if_pos h4]; rfl
  have e1 : ([16, (0 : Int)] ++ nI (be2 (4 + d.length))) ++ nI d = nI ([16, 0] ++ (be2 (4 + d.length) ++ d)) := by simp [nI]
  have e2 : ([16, (0 : Int)] ++ nI (be2 (4 + d.length))).length = 4 := rfl
  have e3 : ([16, 0] ++ (be2 (4 + d.length) ++ d)).length = 2 + 2 + d.length := by simp [be2]; omega
  rw [if_neg (by omega), if_neg h4, if_pos (by omega), if_pos (by omega), if_pos (by omega), e1, e2, nI_len, e3, if_pos ⟨rfl, by omega, by omega⟩, if_pos (by omega), tk0 _ (by rw [nI_len, e3]; exact Nat.le_refl _)]
  rfl
 ·simp only [cond_true]
  by_cases h : 8 < l.length
  ·rw [decide_eq_true (by omega), cond_true, show lay18 (true, id, l, d) = ([], 5) by simp [lay18, body18, h]]; rfl
  rw [decide_eq_false (by omega), cond_false, w64 (show id < 2 ^ 64 by omega), w64 (show l.length < 2 ^ 64 by omega), h50_2 (by omega), h50_2 (by omega)]
  simp only [be2_len, take2]
  rw [decide_eq_true (by omega), cond_true, show ((2 : Nat) == 2 * 1) = true from rfl, decide_eq_true (by omega), Bool.and_self, Bool.and_self, cond_true]
  have := L319_is (N := 20) (q := tail19) (v4 := 1) (v6 := true) (v7 := (id : Int)) (v9 := nI d) l [] (be2 id ++ be2 l.length) 4 20 rfl (by omega) g2 (by simp; omega) (by simp [be2]; omega)
  rw [nI_app]
  refine Eq.trans this ?_
  by_cases h2 : (layA l).2 = 0
  ·have hl : 4 + (layA l).1.length = (be2 id ++ be2 l.length ++ (layA l).1).length := by simp [be2]; omega
   have hm : lay18 (true, id, l, d) = if 4091 < (be2 id ++ be2 l.length ++ (layA l).1).length then ([], 8) else ([16, 1] ++ (be2 (4 + (be2 id ++ be2 l.length ++ (layA l).1).length) ++ (be2 id ++ be2 l.length ++ (layA l).1)), 0) := by
    simp only [lay18, body18, if_true, if_neg h, if_pos h2, cond_true, List.append_assoc]
   rw [if_pos h2, hl]
   have := tail19_is (k := 1) (b := be2 id ++ be2 l.length ++ (layA l).1) (by rw [← hl]; omega) (by rw [← hl]; omega)
   rw [hm]; exact this
  ·rw [if_neg h2, show lay18 (true, id, l, d) = ([], (layA l).2) by simp [lay18, body18, h, h2]]; rfl
def want18 (id : Nat) : Nat × Nat × Nat := if id = 1 then (1, 1, 1) else if id = 2 then (4, 1, 1) else if id = 3 then (2, 1, 3) else if id = 4 then (3, 1, 1) else if id = 5 then (2, 0, 1) else if id = 6 then (2, 0, 1) else (0, 0, 0)
def checkA : List At → Nat
 | [] => 0
 | a :: t => if check17 a.1 a.2 = 0 then checkA t else check17 a.1 a.2
def check18 (p : Pk) : Nat :=
 if p.1 = false then 0 else if p.2.1 < 1 ∨ 9 < p.2.1 then 9
 else if p.2.2.1.length < (want18 p.2.1).2.1 ∨ (want18 p.2.1).2.2 < p.2.2.1.length ∨ p.2.2.1.any (fun a => a.1 != (want18 p.2.1).1) = true then 1 else checkA p.2.2.1
theorem nbne (a b : Nat) : (((a : Nat) : Int) != ((b : Nat) : Int)) = (a != b) := by unfold bne; rw [nbeq]
def h324 (n : Int) := p324 0 n
theorem E324 : EntOK FT XT 324 (en324 h324) := ok324 fun _ _ h => ⟨0, h⟩
theorem h324_is (x : Nat) : h324 (x : Int) = some (((want18 x).1 : Int), (((want18 x).2.1 : Int), ((want18 x).2.2 : Int))) := by
 unfold h324 p324 want18
 have e1 : ((x : Int) == 1) = (x == 1) := nbeq x 1
 have e2 : ((x : Int) == 2) = (x == 2) := nbeq x 2
 have e3 : ((x : Int) == 3) = (x == 3) := nbeq x 3
 have e4 : ((x : Int) == 4) = (x == 4) := nbeq x 4
 have e5 : ((x : Int) == 5) = (x == 5) := nbeq x 5
 have e6 : ((x : Int) == 6) = (x == 6) := nbeq x 6
 simp only [e1, e2, e3, e4, e5, e6, Bool.cond_eq_ite, beq_iff_eq]
 split
 ·rfl
 split
 ·rfl
 split
 ·rfl
 split
 ·rfl
 split
 ·rfl
 split
 ·rfl
 rfl
def h326 (n : Int) (l k : List Int) := p326v0 0 n l k
theorem R326 : REntOK FT XT 326 (rn326v0 h326) := ok326v0 fun _ _ _ _ h => ⟨0, h⟩
theorem h326_is {n k : Int} {l : List Int} : h326 n l [k] = some ((n != k, ()), ([k], ())) := rfl
theorem L327_is {N k : Nat} : ∀ (t pre : List At) (fuel : Nat), t.length < fuel → (pre ++ t).length ≤ 100000 → ∃ j : Int,
  L327v0_0 h326 N (fun (y7 : List Int) => some (((-1 : Int), ()), (y7, ()))) fuel (nA (pre ++ t)) (((pre ++ t).length : Nat) : Int) ((pre.length : Nat) : Int) [(k : Int)] = some ((j, ()), ([(k : Int)], ())) ∧ decide (j ≥ 0) = t.any (fun a => a.1 != k)
 | [], pre, fuel + 1, _, _ => ⟨-1, by rw [L327v0_0, ltF, cond_false], rfl⟩
 | a :: t, pre, fuel + 1, hf, hn => by
  have hn2 : pre.length + t.length + 1 ≤ 100000 := by simpa [Nat.add_assoc] using hn
  obtain ⟨j, ih1, ih2⟩ := L327_is (N := N) (k := k) t (pre ++ [a]) fuel (by simpa using hf) (by rw [← app1]; exact hn)
  rw [← app1 pre t a] at ih1
  rw [L327v0_0, ltT, cond_true, nA_at]
  simp only [h326_is, show (at1 a).1 = ((a.1 : Nat) : Int) from rfl, nbne, List.any_cons]
  cases (a.1 != k)
  ·refine ⟨j, ?_, ?_⟩
   ·rw [cond_false, inc1 pre a (by omega)]; exact ih1
   ·rw [Bool.false_or]; exact ih2
  ·exact ⟨((pre.length : Nat) : Int), rfl, by rw [decide_eq_true (by omega), Bool.true_or]⟩
def h327 (l : List (Int × List Int)) (k : List Int) := p327v0 h326 20 l k
theorem R327 : REntOK FT XT 327 (rn327v0 h327) := ok327v0 h326 R326 fun _ _ _ h => ⟨20, h⟩
def h325 (l : List (Int × List Int)) (k : List Int) := p325v0 h327 0 l k
theorem R325 : REntOK FT XT 325 (rn325v0 h325) := ok325v0 h327 R327 fun _ _ _ h => ⟨0, h⟩
theorem h325_is {k : Nat} {l : List At} (h : l.length ≤ 12) : h325 (nA l) [(k : Int)] = some ((l.any (fun a => a.1 != k), ()), ([(k : Int)], ())) := by
 obtain ⟨j, h1, h2⟩ := L327_is (N := 20) (k := k) l [] 20 (by omega) (by simp; omega)
 have e : h327 (nA l) [(k : Int)] = some ((j, ()), ([(k : Int)], ())) := by
  unfold h327 p327v0
  rw [nA_len]; exact h1
 unfold h325 p325v0
 rw [e]
 simp only [h2]
theorem L323_is {N : Nat} : ∀ (t pre : List At) (fuel : Nat), t.length < fuel → gA t → (pre ++ t).length ≤ 100000 →
  L323_0 h324 h325 h145 N (some 0) fuel (nA (pre ++ t)) (((pre ++ t).length : Nat) : Int) ((pre.length : Nat) : Int) = some ((checkA t : Nat) : Int)
 | [], pre, fuel + 1, _, _, _ => by rw [L323_0, ltF, cond_false]; rfl
 | a :: t, pre, fuel + 1, hf, ht, hn => by
  have hn2 : pre.length + t.length + 1 ≤ 100000 := by simpa [Nat.add_assoc] using hn
  have ih := L323_is (N := N) t (pre ++ [a]) fuel (by simpa using hf) (gA_tail ht) (by rw [← app1]; exact hn)
  rw [← app1 pre t a] at ih
  have e : h145 ((at1 a).1, (at1 a).2) = some (check17 a.1 a.2 : Int) := h145_is (gA_head ht).2.1
  rw [L323_0, ltT, cond_true, nA_at]
  simp only [e]
  by_cases h : check17 a.1 a.2 = 0
  ·rw [h, show (((0 : Nat) : Int) != 0) = false from rfl, cond_false, inc1 pre a (by omega), ih, checkA, if_pos h]
  ·rw [bne_iff_ne.2 (by omega), cond_true, checkA, if_neg h]
def h323 (p : PkI) := p323 h324 h325 h145 20 p
theorem E323 : EntOK FT XT 323 (en323 h323) := ok323 h324 h325 h145 E324 E145 R325 fun _ _ h => ⟨20, h⟩
theorem h323_is {p : Pk} (g : gK p) : h323 (enK p) = some ((check18 p : Nat) : Int) := by
 obtain ⟨g1, g2, g3, g4, g5⟩ := g
 obtain ⟨m, id, l, d⟩ := p
 simp only [] at g1 g2 g3 g4 g5
 unfold h323 p323 check18
 simp only [enK, nA_len, h324_is, h325_is g3]
 cases m
 ·rfl
 simp only [Bool.not_true, cond_false, Bool.true_eq_false, if_false]
 by_cases h1 : id < 1
 ·rw [decide_eq_true (by omega), cond_true, if_pos (.inl h1)]; rfl
 rw [decide_eq_false (by omega), cond_false]
 by_cases h9 : 9 < id
 ·rw [decide_eq_true (by omega), cond_true, if_pos (.inr h9)]; rfl
 rw [decide_eq_false (by omega), cond_false, if_neg (show ¬ (id < 1 ∨ 9 < id) by omega)]
 by_cases c1 : l.length < (want18 id).2.1
 ·rw [decide_eq_true (by omega), cond_true, if_pos (.inl c1)]; rfl
 rw [decide_eq_false (by omega), cond_false]
 by_cases c2 : (want18 id).2.2 < l.length
 ·rw [decide_eq_true (by omega), cond_true, if_pos (.inr (.inl c2))]; rfl
 rw [decide_eq_false (by omega), cond_false]
 by_cases c3 : l.any (fun a => a.1 != (want18 id).1) = true
 ·rw [c3, cond_true, if_pos (.inr (.inr rfl))]; rfl
 rw [eq_false_of_ne_true c3, cond_false, if_neg (show ¬ (l.length < (want18 id).2.1 ∨ (want18 id).2.2 < l.length ∨ false = true) from fun g => by rcases g with g | g | g <;> first | exact c1 g | exact c2 g | cases g)]
 exact L323_is (N := 20) l [] 20 (by omega) g2 (by simp; omega)
theorem L303_is {N : Nat} {q : Bool → Int → Bool → Int → Nat → List Int → List V → Option (Bool × Int × (List (Int × (List Int))) × (List Int))} {v4 v6 : Bool} {v5 v7 : Int} {v9 : List Int} : ∀ (t pre : List At) (fuel : Nat), t.length < fuel → (pre ++ t).length ≤ 100000 →
  L303_0 N q fuel (nA (pre ++ t)) (((pre ++ t).length : Nat) : Int) ((pre.length : Nat) : Int) v4 v5 v6 v7 pre.length v9 (flat shA (nA pre)) = q v4 v5 v6 v7 (pre ++ t).length v9 (flat shA (nA (pre ++ t)))
 | [], pre, fuel + 1, _, _ => by rw [L303_0, ltF, cond_false, List.append_nil]
 | a :: t, pre, fuel + 1, hf, hn => by
  have hn2 : pre.length + t.length + 1 ≤ 100000 := by simpa [Nat.add_assoc] using hn
  have ih := L303_is (N := N) (q := q) (v4 := v4) (v5 := v5) (v6 := v6) (v7 := v7) (v9 := v9) t (pre ++ [a]) fuel (by simpa using hf) (by rw [← app1]; exact hn)
  rw [← app1 pre t a, nA_snoc, flat_snoc] at ih
  rw [L303_0, ltT, cond_true, nA_at]
  simp only []
  rw [flatA_len, nA_len, beq_self_eq_true, Bool.true_and, decide_eq_true (by omega), decide_eq_true (by omega), Bool.and_self, cond_true, inc1 pre a (by omega), ← len1 pre a]
  exact ih
def h303 (p : PkI) := p303 20 p
theorem E303 : EntOK FT XT 303 (en303 h303) := ok303 fun _ _ h => ⟨20, h⟩
theorem h303_is {p : Pk} (h : p.2.2.1.length ≤ 12) : h303 (enK p) = some (enK p) := by
 obtain ⟨m, id, l, d⟩ := p
 simp only [] at h
 unfold h303 p303
 simp only [enK, nA_len]
 refine (L303_is (N := 20) l [] 20 (by omega) (by simp; omega)).trans ?_
 rw [List.nil_append]
 have hl : l.length * 2 = (flat shA (nA l)).length := by rw [flatA_len, nA_len]
 have r : rowsOf shA l.length (flat shA (nA l)) = some (nA l) := by
  have := rowsA_of (L := nA l) (by rw [nA_len]; omega)
  rw [nA_len] at this; exact this
 rw [decide_eq_true (by omega), cond_true, hl, List.drop_zero, List.take_length, r]
end Go.Proofs.YtciafmcbccgggaaE
