/- Chapter 38: nobody's channels. Printed by gen/c38n.py. -/
import Derived.Test.YtcnkihdjenjdgaaEvC38
namespace Go.Proofs.YtcnkihdjenjdgaaE
open Go
set_option linter.unusedSimpArgs false
set_option linter.unusedVariables false
set_option maxRecDepth 8000

def g89v0 := p89v0 h111 0
theorem Q89v0 : REntOK FT XT 89 (rn89v0 g89v0) := ok89v0 h111 E111 (by intros; refine ⟨0, ?_⟩; assumption)
def g88v1 := p88v1  0
theorem Q88v1 : REntOK FT XT 88 (rn88v1 g88v1) := ok88v1   (by intros; refine ⟨0, ?_⟩; assumption)
def g87v1 := p87v1  0
theorem Q87v1 : REntOK FT XT 87 (rn87v1 g87v1) := ok87v1   (by intros; refine ⟨0, ?_⟩; assumption)
def g92v1 := p92v1  0
theorem Q92v1 : REntOK FT XT 92 (rn92v1 g92v1) := ok92v1   (by intros; refine ⟨0, ?_⟩; assumption)
def g92v2 := p92v2  0
theorem Q92v2 : REntOK FT XT 92 (rn92v2 g92v2) := ok92v2   (by intros; refine ⟨0, ?_⟩; assumption)
def g89v1 := p89v1  0
theorem Q89v1 : REntOK FT XT 89 (rn89v1 g89v1) := ok89v1   (by intros; refine ⟨0, ?_⟩; assumption)
def g97v0 := p97v0  0
theorem Q97v0 : REntOK FT XT 97 (rn97v0 g97v0) := ok97v0   (by intros; refine ⟨0, ?_⟩; assumption)
def g86v1 := p86v1  0
theorem Q86v1 : REntOK FT XT 86 (rn86v1 g86v1) := ok86v1   (by intros; refine ⟨0, ?_⟩; assumption)
def g90v1 := p90v1  0
theorem Q90v1 : REntOK FT XT 90 (rn90v1 g90v1) := ok90v1   (by intros; refine ⟨0, ?_⟩; assumption)
def g91v1 := p91v1 g90v1 0
theorem Q91v1 : REntOK FT XT 91 (rn91v1 g91v1) := ok91v1 g90v1 Q90v1 (by intros; refine ⟨0, ?_⟩; assumption)
def g99v0 := p99v0  0
theorem Q99v0 : REntOK FT XT 99 (rn99v0 g99v0) := ok99v0   (by intros; refine ⟨0, ?_⟩; assumption)
def g88v2 := p88v2 h111 f108 0
theorem Q88v2 : REntOK FT XT 88 (rn88v2 g88v2) := ok88v2 h111 f108 E111 E108 (by intros; refine ⟨0, ?_⟩; assumption)
def g87v2 := p87v2 h111 f108 0
theorem Q87v2 : REntOK FT XT 87 (rn87v2 g87v2) := ok87v2 h111 f108 E111 E108 (by intros; refine ⟨0, ?_⟩; assumption)
def g90v2 := p90v2 h111 f108 0
theorem Q90v2 : REntOK FT XT 90 (rn90v2 g90v2) := ok90v2 h111 f108 E111 E108 (by intros; refine ⟨0, ?_⟩; assumption)
def g91v2 := p91v2 g90v2 0
theorem Q91v2 : REntOK FT XT 91 (rn91v2 g91v2) := ok91v2 g90v2 Q90v2 (by intros; refine ⟨0, ?_⟩; assumption)
def g92v3 := p92v3 h111 g91v2 g88v2 h86 0
theorem Q92v3 : REntOK FT XT 92 (rn92v3 g92v3) := ok92v3 h111 g91v2 g88v2 h86 E111 Q91v2 Q88v2 R86 (by intros; refine ⟨0, ?_⟩; assumption)
def g86v2 := p86v2 h111 f108 0
theorem Q86v2 : REntOK FT XT 86 (rn86v2 g86v2) := ok86v2 h111 f108 E111 E108 (by intros; refine ⟨0, ?_⟩; assumption)
def g92v4 := p92v4 h111 h91 h88 g86v2 0
theorem Q92v4 : REntOK FT XT 92 (rn92v4 g92v4) := ok92v4 h111 h91 h88 g86v2 E111 R91 R88 Q86v2 (by intros; refine ⟨0, ?_⟩; assumption)
def g97v1 := p97v1  0
theorem Q97v1 : REntOK FT XT 97 (rn97v1 g97v1) := ok97v1   (by intros; refine ⟨0, ?_⟩; assumption)
def f74 := p74 f84 g88v1 g87v1 g92v1 g92v2 g89v1 g97v0 g86v1 g91v1 g90v1 g99v0 g88v2 g87v2 g92v3 g92v4 g89v0 g97v1 h86 h91 h90 h99 0
theorem E74 : EntOK FT XT 74 (en74 f74) := ok74 f84 g88v1 g87v1 g92v1 g92v2 g89v1 g97v0 g86v1 g91v1 g90v1 g99v0 g88v2 g87v2 g92v3 g92v4 g89v0 g97v1 h86 h91 h90 h99 E84 Q88v1 Q87v1 Q92v1 Q92v2 Q89v1 Q97v0 Q86v1 Q91v1 Q90v1 Q99v0 Q88v2 Q87v2 Q92v3 Q92v4 Q89v0 Q97v1 R86 R91 R90 R99 (by intros; refine ⟨0, ?_⟩; assumption)
theorem f74_no (w n : Int) (b : List Int) : f74 w n b = bif decide (((b.length : Nat) : Int) > 1000) then some true else some true := by kernel_rfl
theorem f74_is (w n : Int) (b : List Int) : f74 w n b = some true := by
  rw [f74_no]; cases decide (((b.length : Nat) : Int) > 1000) <;> rfl
theorem law74 (z0 z1 : Int) (z2 : List Int) (h0 : okD (Sh.int .i64) z0) (h1 : okD (Sh.int .i64) z1) (h2 : okD (Sh.sl (Sh.int .u8)) z2) : Ans FT XT 74 (encL [Sh.int .i64, Sh.int .i64, Sh.sl (Sh.int .u8)] (z0, (z1, (z2, ())))) [] (.bool true) [] :=
  E74.2 (z0, (z1, (z2, ()))) true (f74_is z0 z1 z2)
end Go.Proofs.YtcnkihdjenjdgaaE
