/- HMAC: whether it is the seal. -/
import Derived.Test.YtciafmcbccgggaaEvI1
namespace Go.Proofs.YtciafmcbccgggaaE
open Go
set_option linter.unusedSimpArgs false
set_option linter.unusedVariables false
theorem nI_beq (a b : List Nat) : (nI a == nI b) = (a == b) := by
  by_cases h : a = b
  · rw [h, beq_self_eq_true, beq_self_eq_true]
  · rw [beq_eq_false_iff_ne.2 h, beq_eq_false_iff_ne.2 (fun hh => h (nI_inj hh))]
/-! ### whether it is the seal -/
section
variable {c223 : List Int → List (List Int) → Option (List Int)} {c47 : List Int → List Int → Option Bool} {c222 : List Int → List Int → Option (List Int)}
theorem p226_is {N : Nat} {k m a : List Nat} {ll : List (List Int)} (F : c223 (nI k) ll = some (nI (hm k m))) (F47 : c47 (nI (hm k m)) (nI a) = some (hm k m == a)) : p226 c223 c47 N (nI k) (nI a) ll = some (hm k m == a) := by
  unfold p226
  have hd := hm_len k m
  have e := row_in (l := nI (hm k m)) (k := 32) (z := ([(0 : Int), (0 : Int), (0 : Int), (0 : Int), (0 : Int), (0 : Int), (0 : Int), (0 : Int), (0 : Int), (0 : Int), (0 : Int), (0 : Int), (0 : Int), (0 : Int), (0 : Int), (0 : Int), (0 : Int), (0 : Int), (0 : Int), (0 : Int), (0 : Int), (0 : Int), (0 : Int), (0 : Int), (0 : Int), (0 : Int), (0 : Int), (0 : Int), (0 : Int), (0 : Int), (0 : Int), (0 : Int)] : List Int)) (by rw [nI_len]; exact hd) rfl
  rw [F]
  simp only [e, t32 hd, F47]
  simp only [nI_len, hd, beq_self_eq_true, cond_true, Nat.zero_add, Nat.le_refl, decide_true]
end
def h226 (a b : List Int) (l : List (List Int)) := p226 h223 h47 0 a b l
theorem E226 : EntOK FT XT 226 (en226 h226) := ok226 h223 h47 E223 E47 fun _ _ _ _ h => ⟨0, h⟩
theorem h226_is {k m a : List Nat} {ll : List (List Int)} (hk : bel 256 k) (hkl : k.length ≤ 6000) (hm1 : bel 256 m) (hml : m.length ≤ 5000) (hfl : ll.flatten = nI m) (hll : ll.length ≤ 1000) (ha : bel 256 a) : h226 (nI k) (nI a) ll = some (hm k m == a) :=
  p226_is (h223_is hk hkl hm1 hml hfl hll) (h47_is (hm_bel _ _) ha (by rw [hm_len]; omega))
end Go.Proofs.YtciafmcbccgggaaE
