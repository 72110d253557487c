/- The reference's tails. -/
import Derived.Test.YtciafmcbccgggaaEvzQ1
namespace Go.Proofs.YtciafmcbccgggaaE
open Go
set_option linter.unusedSimpArgs false
set_option linter.unusedVariables false
def bits8 (n : Nat) : Nat := 8 * n % 18446744073709551616
end Go.Proofs.YtciafmcbccgggaaE
