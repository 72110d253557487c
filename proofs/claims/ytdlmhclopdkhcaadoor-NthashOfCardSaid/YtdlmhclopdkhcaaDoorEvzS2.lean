/- SHA-1: the program's digest is the reference's. -/
import Derived.Test.YtdlmhclopdkhcaaDoorEvzS1
namespace Go.Proofs.YtdlmhclopdkhcaaDoorE
open Go
set_option linter.unusedSimpArgs false
set_option linter.unusedVariables false
theorem bel_rep {m n : Nat} (hm : 0 < m) : bel m (List.replicate n 0) := fun x hx => by rw [List.eq_of_mem_replicate hx]; exact hm
section
variable {c199 : List Int → Option (List Int)} {c200 : Option (List Int)} {c195 c202 : Int → Int → Option Int} {c201 c203 : Int → Int → Int → Int → Option Int} {c21 : List Int → Bool → Option (Int × Int)}
end
section
variable {c46 : List (List Int) → Option (List Int)} {c185 c186 : Int → Option (List Int)} {c187 c188 : Option (List Int)} {c183 c184 : List Int → List Int → Option (List Int)} {c19 : Int → Int → Bool → Option ((List Int) × Int)}
theorem sh_is (x : Nat) {k : Nat} (hk : k ≤ 32) {e : Int} (he : e = ((k : Nat) : Int)) : IntKind.wrap .u8 (ishr .u32 (x : Int) e) = ((x / 2 ^ k % 256 : Nat) : Int) := by
 rw [he, shr32n hk, w8]
end
end Go.Proofs.YtdlmhclopdkhcaaDoorE
