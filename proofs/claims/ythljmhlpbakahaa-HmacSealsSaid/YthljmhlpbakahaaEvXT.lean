/- Functions that are answered for without their text: none. -/
import Derived.Test.YthljmhlpbakahaaEvP4
namespace Go.Proofs.YthljmhlpbakahaaE
open Go
set_option linter.unusedVariables false
def XT : Nat → List V → Option (V × List Blk) := fun _ _ => none
theorem xt_snd {P : Program} {m : Nat → Option Nat} {F : Nat → Option Fun} : XSnd P m F XT := fun f g xs H' r _ _ h => by cases h
end Go.Proofs.YthljmhlpbakahaaE
