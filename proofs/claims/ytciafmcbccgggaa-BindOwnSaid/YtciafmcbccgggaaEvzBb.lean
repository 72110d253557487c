/- Bytes compared; numbers by division. -/
import Derived.Test.YtciafmcbccgggaaEvzBb0
namespace Go.Proofs.YtciafmcbccgggaaE
open Go
set_option linter.unusedSimpArgs false
set_option linter.unusedVariables false
def h164 (a b : List Int) := p164 h160 0 a b
theorem E164 : EntOK FT XT 164 (en164 h164) := ok164 h160 E160 fun _ _ _ h => ⟨0, h⟩
theorem h164_is {a b : List Nat} (ha : bel 256 a) (hb : bel 256 b) : h164 (nI a) (nI b) = some (decide (b.length ≤ a.length) && (a.take b.length == b)) := by
  unfold h164 p164
  simp only [nI_len, Bool.cond_eq_ite, decide_eq_true_eq, Bool.and_eq_true, Int.toNat_natCast, nI_take]
  rw [h160_is (bel_take ha) hb]
  by_cases h : b.length ≤ a.length
  · rw [if_pos (by omega), if_pos (by omega), decide_eq_true h]; rfl
  · rw [if_neg (by omega), decide_eq_false h]; rfl
end Go.Proofs.YtciafmcbccgggaaE
