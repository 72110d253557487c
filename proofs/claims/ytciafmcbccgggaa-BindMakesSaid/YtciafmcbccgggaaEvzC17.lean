/- Chapter 17: attributes laid, parsed, looked at. -/
import Derived.Test.YtciafmcbccgggaaEvzC170
namespace Go.Proofs.YtciafmcbccgggaaE
open Go
set_option linter.unusedSimpArgs false
set_option linter.unusedVariables false
/-- how long a kind's data are, and what their fourth byte may be -/
def lim17 (id : Nat) : Nat × Nat × Nat × Nat := if id = 2 then (8, 72, 0, 4) else if id = 3 then (100, 100, 1, 2) else if id = 4 then (36, 36, 1, 3) else (2, 2, 0, 0)
def check17 (id : Nat) (d : List Nat) : Nat :=
 if kind17 id = false then 9 else if d.length < (lim17 id).1 then 4 else if (lim17 id).2.1 < d.length then 3 else if id = 1 then 0
 else if d.take 3 = [0, 0, 0] ∧ (lim17 id).2.2.1 ≤ gt d 3 ∧ gt d 3 ≤ (lim17 id).2.2.2 then 0 else 3
def h163 (x : Int) := p163 0 x
theorem E163 : EntOK FT XT 163 (en163 h163) := ok163 fun _ _ h => ⟨0, h⟩
theorem h163_is (x : Nat) : h163 (x : Int) = some (((lim17 x).1 : Int), (((lim17 x).2.1 : Int), (((lim17 x).2.2.1 : Int), ((lim17 x).2.2.2 : Int)))) := by
 unfold h163 p163 lim17
 by_cases h2 : x = 2
 ·subst h2; rfl
 rw [if_neg h2, show ((x : Int) == 2) = false from beq_eq_false_iff_ne.2 (by omega), cond_false]
 by_cases h3 : x = 3
 ·subst h3; rfl
 rw [if_neg h3, show ((x : Int) == 3) = false from beq_eq_false_iff_ne.2 (by omega), cond_false]
 by_cases h4 : x = 4
 ·subst h4; rfl
 rw [if_neg h4, show ((x : Int) == 4) = false from beq_eq_false_iff_ne.2 (by omega), cond_false]; rfl
theorem kind17_of {x : Nat} (h : ¬ kind17 x = false) : x = 1 ∨ x = 2 ∨ x = 3 ∨ x = 4 := by
 unfold kind17 at h
 simp only [Bool.not_eq_false, Bool.and_eq_true, decide_eq_true_eq] at h
 omega
def h145 (a : Int × List Int) := p145 h163 h161 h164 0 a
theorem E145 : EntOK FT XT 145 (en145 h145) := ok145 h163 h161 h164 E163 E161 E164 fun _ _ h => ⟨0, h⟩
theorem h145_is {id : Nat} {d : List Nat} (hd : bel 256 d) : h145 ((id : Int), nI d) = some (check17 id d : Int) := by
 unfold h145 p145 check17
 simp only [h163_is, h161_is, nI_len, Bool.cond_eq_ite, decide_eq_true_eq, beq_iff_eq, Bool.not_eq_true']
 by_cases hk : kind17 id = false
 ·rw [if_pos hk, if_pos hk]; rfl
 rw [if_neg hk, if_neg hk]
 by_cases h1 : d.length < (lim17 id).1
 ·rw [if_pos (by omega), if_pos h1]; rfl
 rw [if_neg (by omega), if_neg h1]
 by_cases h2 : (lim17 id).2.1 < d.length
 ·rw [if_pos (by omega), if_pos h2]; rfl
 rw [if_neg (by omega), if_neg h2]
 by_cases h3 : id = 1
 ·rw [if_pos (by omega), if_pos h3]; rfl
 rw [if_neg (by omega), if_neg h3]
 have hl : 8 ≤ d.length := by
  rcases kind17_of hk with h | h | h | h
  ·exact absurd h h3
  all_goals (subst h; simp [lim17] at h1; omega)
 have e : geti (nI d) 3 = some ((gt d 3 : Nat) : Int) := gt_nat (β := Nat) d (i := 3) (by omega)
 have e2 : h164 (nI d) [0, 0, 0] = some (decide (3 ≤ d.length) && (d.take 3 == [0, 0, 0])) := h164_is (b := [0, 0, 0]) hd (fun x hx => by simp at hx; omega)
 rw [decide_eq_true (show 3 ≤ d.length by omega), Bool.true_and] at e2
 simp only [e, e2, beq_eq_false_iff_ne]
 by_cases g1 : d.take 3 = [0, 0, 0]
 ·rw [if_neg (fun g => g g1)]
  by_cases g2 : gt d 3 < (lim17 id).2.2.1
  ·rw [if_pos (by omega), if_neg (fun g => by omega)]; rfl
  ·rw [if_neg (by omega)]
   by_cases g3 : (lim17 id).2.2.2 < gt d 3
   ·rw [if_pos (by omega), if_neg (fun g => by omega)]; rfl
   ·rw [if_neg (by omega), if_pos ⟨g1, by omega, by omega⟩]; rfl
 ·rw [if_pos g1, if_neg (fun g => g1 g.1)]; rfl
def h141 (a : Int × List Int) := p141 h162 h50 0 a
theorem E141 : EntOK FT XT 141 (en141 h141) := ok141 h162 h50 E162 E50 fun _ _ h => ⟨0, h⟩
theorem h141_is {id : Nat} {d : List Nat} (hd : d.length ≤ 100000) : h141 ((id : Int), nI d) = some (enB (lay17 id d)) := by
 unfold h141 p141 lay17
 have e : iadd .i64 4 ((d.length : Nat) : Int) = ((4 + d.length : Nat) : Int) := addn (a := 4) (by omega)
 simp only [h162_is, nI_len, e, w64 (show 4 + d.length < 2 ^ 64 by omega), h50_2 (show 4 + d.length < 2 ^ 64 by omega), Bool.cond_eq_ite, decide_eq_true_eq, Bool.not_eq_true', Bool.and_eq_true, beq_iff_eq, show (be2 (4 + d.length)).length = 2 from rfl]
 by_cases hk : kind17 id = false
 ·rw [if_pos hk, if_pos hk]; rfl
 rw [if_neg hk, if_neg hk]
 by_cases h4 : 4091 < d.length
 ·rw [if_pos (by omega), if_pos h4]; rfl
 rw [if_neg (by omega), if_neg h4]
 have e1 : ([0, (id : Int)] ++ nI (be2 (4 + d.length))) ++ nI d = nI ([0, id] ++ (be2 (4 + d.length) ++ d)) := by simp [nI]
 have e2 : ([0, (id : Int)] ++ nI (be2 (4 + d.length))).length = 4 := rfl
 have e3 : ([0, id] ++ (be2 (4 + d.length) ++ d)).length = 2 + 2 + d.length := by simp [be2]; omega
 have e0 : List.take (2 * 1) (List.drop 0 (nI (be2 (4 + d.length)))) = nI (be2 (4 + d.length)) := tk0 _ (Nat.le_refl _)
 rw [e0, e1, e2, nI_len, e3, if_pos (by omega), if_pos (by omega), if_pos (by omega), if_pos ⟨rfl, by omega, by omega⟩, if_pos (by omega), tk0 _ (by rw [nI_len, e3]; exact Nat.le_refl _)]
 rfl
end Go.Proofs.YtciafmcbccgggaaE
