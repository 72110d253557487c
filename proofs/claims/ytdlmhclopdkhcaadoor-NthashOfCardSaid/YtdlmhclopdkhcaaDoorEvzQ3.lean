/- The program's roots as they are computed. -/
import Derived.Test.YtdlmhclopdkhcaaDoorEvzQ2
namespace Go.Proofs.YtdlmhclopdkhcaaDoorE
open Go
set_option linter.unusedSimpArgs false
set_option linter.unusedVariables false
def h120 (a b : Int) := p120 0 a b
def h116 (a b c : Int) := p116 h120 0 a b c
def h115 (a : Int) (b c : List Int) := p115v0 h116 0 a b c
def h114 (a : Int) (b c : List Int) := p114v0 h115 60 a b c
def h100 (a b c : Int) := p100 0 a b c
def h101 (a b : Int) := p101 h114 0 a b
def h75 (a b c : Int) := p75 h100 h101 0 a b c
theorem E75 : EntOK FT XT 75 (en75 h75) := ok75 h100 h101 (ok100 fun _ _ _ _ h => ⟨0, h⟩) (ok101 h114 (ok114v0 h115 (ok115v0 h116 (ok116 h120 (ok120 fun _ _ _ h => ⟨0, h⟩) fun _ _ _ _ h => ⟨0, h⟩) fun _ _ _ _ h => ⟨0, h⟩) fun _ _ _ _ h => ⟨60, h⟩) fun _ _ _ h => ⟨0, h⟩) fun _ _ _ _ h => ⟨0, h⟩
theorem row_in {k : Nat} {l z : List Int} (hl : l.length = k) (hz : z.length = k) : ([] ++ l) ++ List.drop (0 + l.length) z = l := by
 rw [List.nil_append, Nat.zero_add, List.drop_of_length_le (by omega), List.append_nil]
theorem row_fin {k : Nat} {y z : List Int} (hy : y.length = k) (hz : z.length = k) :
  (bif (decide (k ≤ (List.length z))) then
   bif ((List.length (List.take k (List.drop 0 z))) == k) then
    bif (decide ((0 + (List.length (List.take k (List.drop 0 z)))) ≤ (List.length y))) then
     bif (decide (k ≤ (List.length (((List.take 0 y) ++ (List.take k (List.drop 0 z))) ++ (List.drop (0 + (List.length (List.take k (List.drop 0 z)))) y))))) then
      some (List.take k (List.drop 0 (((List.take 0 y) ++ (List.take k (List.drop 0 z))) ++ (List.drop (0 + (List.length (List.take k (List.drop 0 z)))) y))))
     else none
    else none
   else none
  else none) = some z := by
 have h1 : List.take k (List.drop 0 z) = z := by rw [List.drop_zero, List.take_of_length_le (by omega)]
 rw [h1, Nat.zero_add, hz, hy, List.drop_of_length_le (by omega), List.append_nil, List.take_zero, List.nil_append, hz, h1]
 simp
end Go.Proofs.YtdlmhclopdkhcaaDoorE
