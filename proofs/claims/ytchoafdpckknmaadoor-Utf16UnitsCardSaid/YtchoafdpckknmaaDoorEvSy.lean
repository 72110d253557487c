/- Runs of code with symbols in them: helpers. -/
import Derived.Test.YtchoafdpckknmaaDoorEvMo
import Derived.KernelRfl
namespace Go.Proofs.YtchoafdpckknmaaDoorE
open Go
set_option linter.unusedVariables false
/-- the code's loops, in the order of the text -/
def loopsOf : K → List K
 | .seq a b => loopsOf a ++ loopsOf b
 | .cond _ a b => loopsOf a ++ loopsOf b
 | .block _ b => loopsOf b
 | .loop k b => .loop k b :: loopsOf b
 | .scope b => loopsOf b
 | .pre _ b => loopsOf b
 | _ => []
def loopN (f : Fun) (n : Nat) : K := (loopsOf f.body).getD n .bad
def bodyOf : K → K
 | .loop _ b => b
 | k => k
def trimOf : K → Trim
 | .loop t _ => t
 | _ => ⟨0, [], true, [], []⟩
theorem wrap64 {x : Int} (h0 : 0 ≤ x) (h : x < 2 ^ 63) : IntKind.i64.wrap x = x := by
 unfold IntKind.wrap
 simp [IntKind.signed, IntKind.bits]
 omega
variable {F : Nat → Option Fun} {X : Nat → List V → Option (V × List Blk)} {n0 : Nat} {k : K} {s s' : St} {r : Ex}
/-- a run found by computing, with calls answered -/
theorem runs_ev {n c : Nat} (h : ev (evF F X c) (ownOf F) n0 n k s = some (r, s')) : Runs F X n0 k s r s' :=
 ⟨max n c, ev_mono (evF_mono (by omega)) (by omega) h⟩
/-- all the functions that answer at some fuel answer at one -/
theorem ans_at {g : Nat} {xs : List V} {H H' : List Blk} {v : V} (h : Ans F X g xs H v H') : ∃ N, ∀ n, N ≤ n → evF F X n g xs H = some (v, H') := by
 obtain ⟨N, h⟩ := h
 exact ⟨N, fun n hn => evF_mono hn _ _ _ _ h⟩
end Go.Proofs.YtchoafdpckknmaaDoorE
