/- Chapter 18: packets parsed. -/
import Derived.Test.YtciafmcbccgggaaEvzC180
namespace Go.Proofs.YtciafmcbccgggaaE
open Go
set_option linter.unusedSimpArgs false
set_option linter.unusedVariables false
set_option maxRecDepth 4000

def len18 : List Nat → Nat × Nat
 | w :: x :: y :: v :: _ => if w ≠ 16 then (0, 15) else if 1 < x ∨ y * 256 + v < (if x = 1 then 8 else 5) ∨ 4095 < y * 256 + v then (0, 3) else (y * 256 + v, 0)
 | _ => (0, 4)
theorem lay18_ok {p : Pk} (h : (lay18 p).2 = 0) : (body18 p).2 = 0 ∧ (body18 p).1.length ≤ 4091 ∧ (lay18 p).1 = 16 :: cond p.1 1 0 :: (4 + (body18 p).1.length) / 256 % 256 :: (4 + (body18 p).1.length) % 256 :: (body18 p).1 := by
 unfold lay18 at h ⊢
 by_cases h1 : (body18 p).2 = 0
 ·rw [if_pos h1] at h ⊢
  by_cases h2 : 4091 < (body18 p).1.length
  ·rw [if_pos h2] at h; cases h
  rw [if_neg h2]
  exact ⟨h1, by omega, rfl⟩
 ·rw [if_neg h1] at h; exact absurd h h1
theorem lay18_bad {p : Pk} (h : (lay18 p).2 ≠ 0) : (lay18 p).1 = [] := by
 unfold lay18 at h ⊢
 by_cases h1 : (body18 p).2 = 0
 ·rw [if_pos h1] at h ⊢
  by_cases h2 : 4091 < (body18 p).1.length
  ·rw [if_pos h2]
  ·rw [if_neg h2] at h; exact absurd rfl h
 ·rw [if_neg h1]
theorem body18_ok {p : Pk} (h : (body18 p).2 = 0) : (p.1 = true ∧ p.2.2.1.length ≤ 8 ∧ (layA p.2.2.1).2 = 0 ∧ (body18 p).1 = be2 p.2.1 ++ (be2 p.2.2.1.length ++ (layA p.2.2.1).1)) ∨ (p.1 = false ∧ p.2.2.2.length ≠ 0 ∧ (body18 p).1 = p.2.2.2) := by
 unfold body18 at h ⊢
 cases hp : p.1
 ·right
  rw [hp] at h
  simp only [Bool.false_eq_true, if_false] at h ⊢
  by_cases h1 : p.2.2.2.length = 0
  ·rw [if_pos h1] at h; cases h
  ·rw [if_neg h1]; exact ⟨trivial, h1, rfl⟩
 ·left
  rw [hp] at h
  simp only [if_true] at h ⊢
  by_cases h1 : 8 < p.2.2.1.length
  ·rw [if_pos h1] at h; cases h
  rw [if_neg h1] at h ⊢
  by_cases h2 : (layA p.2.2.1).2 = 0
  ·rw [if_pos h2]; exact ⟨trivial, by omega, h2, rfl⟩
  ·rw [if_neg h2] at h; exact absurd h h2
theorem len18_of {p : Pk} (h : (lay18 p).2 = 0) (r : List Nat) : len18 ((lay18 p).1.take 4 ++ r) = ((lay18 p).1.length, 0) ∧ 5 ≤ (lay18 p).1.length ∧ (lay18 p).1.length ≤ 4095 := by
 obtain ⟨h1, h2, h3⟩ := lay18_ok h
 have hn : (4 + (body18 p).1.length) / 256 % 256 * 256 + (4 + (body18 p).1.length) % 256 = 4 + (body18 p).1.length := by omega
 have hl : (lay18 p).1.length = 4 + (body18 p).1.length := by rw [h3]; simp; omega
 have ht : (lay18 p).1.take 4 = [16, cond p.1 1 0, (4 + (body18 p).1.length) / 256 % 256, (4 + (body18 p).1.length) % 256] := by rw [h3]; rfl
 rw [ht, hl]
 have hb := body18_ok h1
 simp only [List.cons_append, List.nil_append, len18, hn]
 rcases hb with ⟨g1, g2, g3, g4⟩ | ⟨g1, g2, g3⟩
 ·have : 4 ≤ (body18 p).1.length := by rw [g4]; simp [be2]
  rw [g1, cond_true, if_neg (by omega), if_neg (by rw [if_pos rfl]; omega)]
  exact ⟨rfl, by omega, by omega⟩
 ·have : 0 < (body18 p).1.length := by rw [g3]; omega
  rw [g1, cond_false, if_neg (by omega), if_neg (by rw [if_neg (by decide)]; omega)]
  exact ⟨rfl, by omega, by omega⟩
end Go.Proofs.YtciafmcbccgggaaE
