/- SHA-1: the laws Sha1Blocks, Sha1Is, Sha1Parts answer true. -/
import Derived.Test.YtdlmhclopdkhcaaDoorEvzS2
namespace Go.Proofs.YtdlmhclopdkhcaaDoorE
open Go
set_option linter.unusedSimpArgs false
set_option linter.unusedVariables false
def h179 := p179 0
theorem E179 : EntOK FT XT 179 (en179 h179) := ok179 fun _ h => ⟨0, h⟩
theorem le8_bel (m : Nat) : bel 256 (le8 m) := fun x hx => by
 simp only [le8, List.mem_cons, List.not_mem_nil, or_false] at hx
 rcases hx with h | h | h | h | h | h | h | h <;> (rw [h]; exact Nat.mod_lt _ (by omega))
theorem tail_bel {e : List Nat} (n : Nat) (h : bel 256 e) : bel 256 (tail e n) := fun x hx => by
 unfold tail at hx
 rcases List.mem_cons.1 hx with h1 | h1
 ·rw [h1]; omega
 ·exact bel_app (bel_rep (by omega)) h x h1
section
variable {c46 : List (List Int) → Option (List Int)} {c185 c186 : Int → Option (List Int)} {c187 c188 : Option (List Int)} {c183 c184 : List Int → List Int → Option (List Int)} {c19 : Int → Int → Bool → Option ((List Int) × Int)}
end
theorem wf_bel {k : IntKind} (hk : k.signed = false) {l : List Int} (h : ∀ x ∈ l, (Lit.int k x).wf = true) : ∃ r : List Nat, l = nI r ∧ bel (2 ^ k.bits) r := by
 obtain ⟨r, rfl⟩ := nI_of (l := l) (fun x hx => (wf_u hk (h x hx)).1)
 refine ⟨r, rfl, fun x hx => ?_⟩
 have := (wf_u hk (h (x : Int) (List.mem_map.2 ⟨x, hx, rfl⟩))).2
 exact_mod_cast this
end Go.Proofs.YtdlmhclopdkhcaaDoorE
