/- Chapter 18: the laws. -/
import Derived.Test.YtciafmcbccgggaaEvzC18
import Derived.Test.YtciafmcbccgggaaEvOp
namespace Go.Proofs.YtciafmcbccgggaaE
open Go
set_option linter.unusedSimpArgs false
set_option linter.unusedVariables false
set_option maxRecDepth 4000

theorem lay18_len {p : Pk} : (lay18 p).1.length ≤ 4095 := by
 by_cases h : (lay18 p).2 = 0
 ·exact (len18_of h []).2.2
 ·rw [lay18_bad h]; exact Nat.zero_le _
theorem lay18_bel {p : Pk} (g : gK p) : bel 256 (lay18 p).1 := by
 by_cases h : (lay18 p).2 = 0
 ·obtain ⟨h1, h2, h3⟩ := lay18_ok h
  have hb : bel 256 (body18 p).1 := by
   rcases body18_ok h1 with ⟨_, _, _, g4⟩ | ⟨_, _, g3⟩
   ·rw [g4]; exact bel_app (be2_bel _) (bel_app (be2_bel _) (layA_bel _ g.2.1))
   ·rw [g3]; exact g.2.2.2.1
  rw [h3]
  intro x hx
  simp only [List.mem_cons] at hx
  rcases hx with rfl | rfl | rfl | rfl | hx
  ·omega
  ·cases p.1 <;> decide
  ·omega
  ·omega
  ·exact hb x hx
 ·rw [lay18_bad h]; exact fun x hx => by cases hx
end Go.Proofs.YtciafmcbccgggaaE
