/- Contracts of what most chapters share: texts joined, numbers laid and read, bytes compared and copied. -/
import Derived.Test.YtchoafdpckknmaaDoorEvN
import Derived.Test.YtchoafdpckknmaaDoorEvHU1
namespace Go.Proofs.YtchoafdpckknmaaDoorE
open Go
set_option linter.unusedSimpArgs false
set_option linter.unusedVariables false
def h48 (a b : Nat) (l : List Int) := p48v0 20 a b l
theorem R48 : REntOK FT XU 48 (rn48v0 h48) := ok48v0 fun _ _ _ _ h => ⟨20, h⟩
def h19 (n w : Int) (b : Bool) := p19 h48 20 n w b
theorem E19 : EntOK FT XU 19 (en19 h19) := ok19 h48 R48 fun _ _ _ _ h => ⟨20, h⟩
def lay (x : Int) (j : Nat) : Int := IntKind.wrap .u8 (ishr .u64 x (imul .i64 8 (j : Int)))
theorem lay_is (n : Nat) {j : Nat} (hj : j ≤ 8) : lay (n : Int) j = ((n / 2 ^ (8 * j) % 256 : Nat) : Int) := by
 unfold lay
 rw [show (8 : Int) = ((8 : Nat) : Int) from rfl, muln (by omega), shr64n (by omega), w8]
theorem nI_beq (a b : List Nat) : (nI a == nI b) = (a == b) := by
 by_cases h : a = b
 ·rw [h, beq_self_eq_true, beq_self_eq_true]
 ·rw [beq_eq_false_iff_ne.2 h, beq_eq_false_iff_ne.2 (fun hh => h (nI_inj hh))]
end Go.Proofs.YtchoafdpckknmaaDoorE
