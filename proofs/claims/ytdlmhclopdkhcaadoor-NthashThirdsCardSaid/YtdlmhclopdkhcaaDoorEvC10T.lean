/- Chapter 10: thirds. -/
import Derived.Test.YtdlmhclopdkhcaaDoorEvC10
namespace Go.Proofs.YtdlmhclopdkhcaaDoorE
open Go
set_option linter.unusedSimpArgs false
set_option linter.unusedVariables false
set_option maxRecDepth 4000

def h374 (h : List Int) := p374 0 h
theorem E374 : EntOK FT XT 374 (en374 h374) := ok374 fun _ _ h => ⟨0, h⟩
def h375 (h : List Int) := p375 h374 20 h
theorem E375 : EntOK FT XT 375 (en375 h375) := ok375 h374 E374 fun _ _ h => ⟨20, h⟩
def h376 (h : List Int) (n : Int) := p376 0 h n
theorem E376 : EntOK FT XT 376 (en376 h376) := ok376 fun _ _ _ h => ⟨0, h⟩
def h377 : D377v0 := p377v0 0
theorem Q377v0 : REntOK FT XT 377 (rn377v0 h377) := ok377v0 fun _ _ h => ⟨0, h⟩
def h377n : D377v1 := p377v1 0
theorem Q377v1 : REntOK FT XT 377 (rn377v1 h377n) := ok377v1 fun _ h => ⟨0, h⟩
def a16 (f : Nat → Int) : List Int := (List.range 16).map f
def a21 (f : Nat → Int) : List Int := a16 f ++ List.replicate 5 0
def third (f : Nat → Int) (i : Nat) : List Int := List.take 7 (List.drop (7 * i) (a21 f))
def chkE (o : Option Bool) (k : Option Bool) : Option Bool :=
  match o with
  | none => none
  | some r => bif (!r) then some false else k
def chk2 (o : Option Bool) (k : Option Bool) : Option Bool :=
  match o with
  | none => none
  | some r => bif r then k else some false
theorem eq365 (c23 : D23) (c369 : D369) (f : Nat → Int) : p365 h374 h375 h376 c23 h377 h377n c369 20 (a16 f) =
  chkE (c23 (third f 0) (third f 0)) (chkE (c23 (third f 1) (third f 1)) (chkE (c23 (third f 2) (third f 2)) (chk2 (c23 (a21 f) (a21 f)) (chk2 (c23 (a16 f) (a16 f)) (match c369 with
    | none => none
    | some r => some r))))) := by kernel_rfl
theorem third_len (f : Nat → Int) (i : Nat) : (third f i).length < 1099511627776 := by
  unfold third; rw [List.length_take]; omega
theorem a21_len (f : Nat → Int) : (a21 f).length = 21 := by unfold a21 a16; simp
theorem a16_len (f : Nat → Int) : (a16 f).length = 16 := by unfold a16; simp
def f365 (h : List Int) : Option Bool := p365 h374 h375 h376 f23 h377 h377n f369 20 h
theorem E365 : EntOK FT XT 365 (en365 f365) := ok365 h374 h375 h376 f23 h377 h377n f369 E374 E375 E376 E23 E369 Q377v0 Q377v1 fun _ _ h => ⟨20, h⟩
theorem f365_is (f : Nat → Int) : f365 (a16 f) = some true := by
  unfold f365
  rw [eq365, f23_same (third_len f 0), f23_same (third_len f 1), f23_same (third_len f 2), f23_same (by rw [a21_len]; decide), f23_same (by rw [a16_len]; decide)]
  rfl
theorem as_a16 {z : List Int} (h : z.length = 16) : z = a16 (fun i => z.getD i 0) := by
  unfold a16
  apply List.ext_getElem
  · simp [h]
  · intro i h1 h2
    simp only [List.getElem_map, List.getElem_range]
    rw [List.getD_eq_getElem?_getD, List.getElem?_eq_getElem h1]; rfl
theorem law365 (z0 : List Int) (h0 : ∀ x ∈ z0, (Lit.int .u8 x).wf = true) (hs0 : z0.length = 16) : Ans FT XT 365 (encL [Sh.ar .u8] (z0, ())) [] (.bool true) [] := by
  have e := f365_is (fun i => z0.getD i 0)
  rw [← as_a16 hs0] at e
  exact E365.2 (z0, ()) true e
end Go.Proofs.YtdlmhclopdkhcaaDoorE
