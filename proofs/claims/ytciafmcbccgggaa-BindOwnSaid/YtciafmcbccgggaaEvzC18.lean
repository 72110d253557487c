/- Chapter 18: packets laid, parsed, looked at. -/
import Derived.Test.YtciafmcbccgggaaEvzC18P
namespace Go.Proofs.YtciafmcbccgggaaE
open Go
set_option linter.unusedSimpArgs false
set_option linter.unusedVariables false
def want18 (id : Nat) : Nat × Nat × Nat := if id = 1 then (1, 1, 1) else if id = 2 then (4, 1, 1) else if id = 3 then (2, 1, 3) else if id = 4 then (3, 1, 1) else if id = 5 then (2, 0, 1) else if id = 6 then (2, 0, 1) else (0, 0, 0)
def checkA : List At → Nat
  | [] => 0
  | a :: t => if check17 a.1 a.2 = 0 then checkA t else check17 a.1 a.2
def check18 (p : Pk) : Nat :=
  if p.1 = false then 0 else if p.2.1 < 1 ∨ 9 < p.2.1 then 9
  else if p.2.2.1.length < (want18 p.2.1).2.1 ∨ (want18 p.2.1).2.2 < p.2.2.1.length ∨ p.2.2.1.any (fun a => a.1 != (want18 p.2.1).1) = true then 1 else checkA p.2.2.1
theorem nbne (a b : Nat) : (((a : Nat) : Int) != ((b : Nat) : Int)) = (a != b) := by unfold bne; rw [nbeq]
def h324 (n : Int) := p324 0 n
theorem E324 : EntOK FT XT 324 (en324 h324) := ok324 fun _ _ h => ⟨0, h⟩
theorem h324_is (x : Nat) : h324 (x : Int) = some (((want18 x).1 : Int), (((want18 x).2.1 : Int), ((want18 x).2.2 : Int))) := by
  unfold h324 p324 want18
  have e1 : ((x : Int) == 1) = (x == 1) := nbeq x 1
  have e2 : ((x : Int) == 2) = (x == 2) := nbeq x 2
  have e3 : ((x : Int) == 3) = (x == 3) := nbeq x 3
  have e4 : ((x : Int) == 4) = (x == 4) := nbeq x 4
  have e5 : ((x : Int) == 5) = (x == 5) := nbeq x 5
  have e6 : ((x : Int) == 6) = (x == 6) := nbeq x 6
  simp only [e1, e2, e3, e4, e5, e6, Bool.cond_eq_ite, beq_iff_eq]
  split
  · rfl
  split
  · rfl
  split
  · rfl
  split
  · rfl
  split
  · rfl
  split
  · rfl
  rfl
def h326 (n : Int) (l k : List Int) := p326v0 0 n l k
theorem R326 : REntOK FT XT 326 (rn326v0 h326) := ok326v0 fun _ _ _ _ h => ⟨0, h⟩
theorem h326_is {n k : Int} {l : List Int} : h326 n l [k] = some ((n != k, ()), ([k], ())) := rfl
theorem L327_is {N k : Nat} : ∀ (t pre : List At) (fuel : Nat), t.length < fuel → (pre ++ t).length ≤ 100000 → ∃ j : Int,
    L327v0_0 h326 N (fun (y7 : List Int) => some (((-1 : Int), ()), (y7, ()))) fuel (nA (pre ++ t)) (((pre ++ t).length : Nat) : Int) ((pre.length : Nat) : Int) [(k : Int)] = some ((j, ()), ([(k : Int)], ())) ∧ decide (j ≥ 0) = t.any (fun a => a.1 != k)
  | [], pre, fuel + 1, _, _ => ⟨-1, by rw [L327v0_0, ltF, cond_false], rfl⟩
  | a :: t, pre, fuel + 1, hf, hn => by
    have hn2 : pre.length + t.length + 1 ≤ 100000 := by simpa [Nat.add_assoc] using hn
    obtain ⟨j, ih1, ih2⟩ := L327_is (N := N) (k := k) t (pre ++ [a]) fuel (by simpa using hf) (by rw [← app1]; exact hn)
    rw [← app1 pre t a] at ih1
    rw [L327v0_0, ltT, cond_true, nA_at]
    simp only [h326_is, show (at1 a).1 = ((a.1 : Nat) : Int) from rfl, nbne, List.any_cons]
    cases (a.1 != k)
    · refine ⟨j, ?_, ?_⟩
      · rw [cond_false, inc1 pre a (by omega)]; exact ih1
      · rw [Bool.false_or]; exact ih2
    · exact ⟨((pre.length : Nat) : Int), rfl, by rw [decide_eq_true (by omega), Bool.true_or]⟩
def h327 (l : List (Int × List Int)) (k : List Int) := p327v0 h326 20 l k
theorem R327 : REntOK FT XT 327 (rn327v0 h327) := ok327v0 h326 R326 fun _ _ _ h => ⟨20, h⟩
def h325 (l : List (Int × List Int)) (k : List Int) := p325v0 h327 0 l k
theorem R325 : REntOK FT XT 325 (rn325v0 h325) := ok325v0 h327 R327 fun _ _ _ h => ⟨0, h⟩
theorem h325_is {k : Nat} {l : List At} (h : l.length ≤ 12) : h325 (nA l) [(k : Int)] = some ((l.any (fun a => a.1 != k), ()), ([(k : Int)], ())) := by
  obtain ⟨j, h1, h2⟩ := L327_is (N := 20) (k := k) l [] 20 (by omega) (by simp; omega)
  have e : h327 (nA l) [(k : Int)] = some ((j, ()), ([(k : Int)], ())) := by
    unfold h327 p327v0
    rw [nA_len]; exact h1
  unfold h325 p325v0
  rw [e]
  simp only [h2]
theorem L323_is {N : Nat} : ∀ (t pre : List At) (fuel : Nat), t.length < fuel → gA t → (pre ++ t).length ≤ 100000 →
    L323_0 h324 h325 h145 N (some 0) fuel (nA (pre ++ t)) (((pre ++ t).length : Nat) : Int) ((pre.length : Nat) : Int) = some ((checkA t : Nat) : Int)
  | [], pre, fuel + 1, _, _, _ => by rw [L323_0, ltF, cond_false]; rfl
  | a :: t, pre, fuel + 1, hf, ht, hn => by
    have hn2 : pre.length + t.length + 1 ≤ 100000 := by simpa [Nat.add_assoc] using hn
    have ih := L323_is (N := N) t (pre ++ [a]) fuel (by simpa using hf) (gA_tail ht) (by rw [← app1]; exact hn)
    rw [← app1 pre t a] at ih
    have e : h145 ((at1 a).1, (at1 a).2) = some (check17 a.1 a.2 : Int) := h145_is (gA_head ht).2.1
    rw [L323_0, ltT, cond_true, nA_at]
    simp only [e]
    by_cases h : check17 a.1 a.2 = 0
    · rw [h, show (((0 : Nat) : Int) != 0) = false from rfl, cond_false, inc1 pre a (by omega), ih, checkA, if_pos h]
    · rw [bne_iff_ne.2 (by omega), cond_true, checkA, if_neg h]
def h323 (p : PkI) := p323 h324 h325 h145 20 p
theorem E323 : EntOK FT XT 323 (en323 h323) := ok323 h324 h325 h145 E324 E145 R325 fun _ _ h => ⟨20, h⟩
theorem h323_is {p : Pk} (g : gK p) : h323 (enK p) = some ((check18 p : Nat) : Int) := by
  obtain ⟨g1, g2, g3, g4, g5⟩ := g
  obtain ⟨m, id, l, d⟩ := p
  simp only [] at g1 g2 g3 g4 g5
  unfold h323 p323 check18
  simp only [enK, nA_len, h324_is, h325_is g3]
  cases m
  · rfl
  simp only [Bool.not_true, cond_false, Bool.true_eq_false, if_false]
  by_cases h1 : id < 1
  · rw [decide_eq_true (by omega), cond_true, if_pos (.inl h1)]; rfl
  rw [decide_eq_false (by omega), cond_false]
  by_cases h9 : 9 < id
  · rw [decide_eq_true (by omega), cond_true, if_pos (.inr h9)]; rfl
  rw [decide_eq_false (by omega), cond_false, if_neg (show ¬ (id < 1 ∨ 9 < id) by omega)]
  by_cases c1 : l.length < (want18 id).2.1
  · rw [decide_eq_true (by omega), cond_true, if_pos (.inl c1)]; rfl
  rw [decide_eq_false (by omega), cond_false]
  by_cases c2 : (want18 id).2.2 < l.length
  · rw [decide_eq_true (by omega), cond_true, if_pos (.inr (.inl c2))]; rfl
  rw [decide_eq_false (by omega), cond_false]
  by_cases c3 : l.any (fun a => a.1 != (want18 id).1) = true
  · rw [c3, cond_true, if_pos (.inr (.inr rfl))]; rfl
  rw [eq_false_of_ne_true c3, cond_false, if_neg (show ¬ (l.length < (want18 id).2.1 ∨ (want18 id).2.2 < l.length ∨ false = true) from fun g => by rcases g with g | g | g <;> first | exact c1 g | exact c2 g | cases g)]
  exact L323_is (N := 20) l [] 20 (by omega) g2 (by simp; omega)
end Go.Proofs.YtciafmcbccgggaaE
