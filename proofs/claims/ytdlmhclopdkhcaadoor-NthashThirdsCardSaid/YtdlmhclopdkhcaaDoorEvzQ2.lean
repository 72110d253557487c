/- The reference's tails. -/
import Derived.Test.YtdlmhclopdkhcaaDoorEvzQ1
namespace Go.Proofs.YtdlmhclopdkhcaaDoorE
open Go
set_option linter.unusedSimpArgs false
set_option linter.unusedVariables false
def bits8 (n : Nat) : Nat := 8 * n % 18446744073709551616
end Go.Proofs.YtdlmhclopdkhcaaDoorE
