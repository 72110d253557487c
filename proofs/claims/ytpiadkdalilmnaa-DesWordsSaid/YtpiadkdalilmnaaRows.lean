/-
  No cell of these rows narrows 'for every input' (looked for: loops, veiled, ifaces, maps, wideKeys, modest, calm, conditions, laid).
  DERIVED. THE GIVEN ROWS OF THIS SEAT. 5 by the template 'for every input the law returns true; each argument reads behind the call as it read before'; 0 by the template 'total and deterministic' (their statements: YtpiadkdalilmnaaTotals.lean).
  GIVEN WITH THE SEED: the statements are not yours to turn. If you find one false, say at which input.
  Laid BY PROGRAM, IN A SANDBOX (cutbox-rows.mjs): the forced cells as the released guide's own fill.sh prints them over the translation b23ba00c2dabcf73… (all of the seat's roots in one cut). By AI agents, Wed Nov 11 2026. No macro, syntax, notation, axiom, sorry.
-/
import Derived.Test.YtpiadkdalilmnaaChecked
import GoSem.Claim
import GoSem.ClaimJoined
import GoSem.ClaimMapViews
import Derived.JoinedTies
import Derived.KernelRfl
namespace Go.Proofs.Ytpiadkdalilmnaa
/- THE CELL 'sum', in the pinned program and in every row, IS THE sha256 OF THE DUMP (.gsa) THAT YtpiadkdalilmnaaProg.lean LOADS. Nothing in Lean hashes anything: it is a label: what it is worth is what the hold of that sum in a sandbox is worth. -/
noncomputable def Try.pinned : Pinned := { name := "ytpiadkdalilmnaa", sum := "b23ba00c2dabcf732dead998dedac5dd350381580fedab100ae910c13131b9cd", checked := Try.checked }
namespace Rows
def none {H : Type} : Left H := { results := [], args := [] }

/-- 'euphroelaw08.DesWords': WHATEVER THE INPUT: true; the input reads as it did. -/
def desWordsSpec : ChangeSpec := { name := "desWords", fn := fun _ => fun
  | [d1, d2, d3] => { results := [.lit (.bool true)], args := [d1, d2, d3] }
  | _ => none }
def desWordsRow : OpenClaim := { program := "ytpiadkdalilmnaa", sum := "b23ba00c2dabcf732dead998dedac5dd350381580fedab100ae910c13131b9cd", func := "euphroe/euphroelaw08.DesWords", spec := "desWords", inPlace := ["internal/bytealg.IndexByteString"], unfollowed := true, recurses := true, apart := false }
def DesWordsSaid : Prop := desWordsRow.holds Try.pinned (OpenSpec.ofChange desWordsSpec)

/-- ITS FALSE NEIGHBOUR: 'it returns false'. Refute it at one input. -/
def desWordsWrong : ChangeSpec := { name := "desWords", fn := fun _ => fun
  | [d1, d2, d3] => { results := [.lit (.bool false)], args := [d1, d2, d3] }
  | _ => none }
def DesWordsWrongFalsely : Prop := desWordsRow.holds Try.pinned (OpenSpec.ofChange desWordsWrong)

/-- 'euphroelaw08.DesSeven': WHATEVER THE INPUT: true; the input reads as it did. -/
def desSevenSpec : ChangeSpec := { name := "desSeven", fn := fun _ => fun
  | [d1, d2] => { results := [.lit (.bool true)], args := [d1, d2] }
  | _ => none }
def desSevenRow : OpenClaim := { program := "ytpiadkdalilmnaa", sum := "b23ba00c2dabcf732dead998dedac5dd350381580fedab100ae910c13131b9cd", func := "euphroe/euphroelaw08.DesSeven", spec := "desSeven", inPlace := ["internal/bytealg.IndexByteString"], unfollowed := true, recurses := true, apart := false }
def DesSevenSaid : Prop := desSevenRow.holds Try.pinned (OpenSpec.ofChange desSevenSpec)

/-- ITS FALSE NEIGHBOUR: 'it returns false'. Refute it at one input. -/
def desSevenWrong : ChangeSpec := { name := "desSeven", fn := fun _ => fun
  | [d1, d2] => { results := [.lit (.bool false)], args := [d1, d2] }
  | _ => none }
def DesSevenWrongFalsely : Prop := desSevenRow.holds Try.pinned (OpenSpec.ofChange desSevenWrong)

/-- 'euphroelaw08.DesTurns': WHATEVER THE INPUT: true; the input reads as it did. -/
def desTurnsSpec : ChangeSpec := { name := "desTurns", fn := fun _ => fun
  | [d1, d2] => { results := [.lit (.bool true)], args := [d1, d2] }
  | _ => none }
def desTurnsRow : OpenClaim := { program := "ytpiadkdalilmnaa", sum := "b23ba00c2dabcf732dead998dedac5dd350381580fedab100ae910c13131b9cd", func := "euphroe/euphroelaw08.DesTurns", spec := "desTurns", inPlace := ["internal/bytealg.IndexByteString"], unfollowed := true, recurses := true, apart := false }
def DesTurnsSaid : Prop := desTurnsRow.holds Try.pinned (OpenSpec.ofChange desTurnsSpec)

/-- ITS FALSE NEIGHBOUR: 'it returns false'. Refute it at one input. -/
def desTurnsWrong : ChangeSpec := { name := "desTurns", fn := fun _ => fun
  | [d1, d2] => { results := [.lit (.bool false)], args := [d1, d2] }
  | _ => none }
def DesTurnsWrongFalsely : Prop := desTurnsRow.holds Try.pinned (OpenSpec.ofChange desTurnsWrong)

/-- 'euphroelaw08.DesBack': WHATEVER THE INPUT: true; the input reads as it did. -/
def desBackSpec : ChangeSpec := { name := "desBack", fn := fun _ => fun
  | [d1, d2, d3] => { results := [.lit (.bool true)], args := [d1, d2, d3] }
  | _ => none }
def desBackRow : OpenClaim := { program := "ytpiadkdalilmnaa", sum := "b23ba00c2dabcf732dead998dedac5dd350381580fedab100ae910c13131b9cd", func := "euphroe/euphroelaw08.DesBack", spec := "desBack", inPlace := ["internal/bytealg.IndexByteString"], unfollowed := true, recurses := true, apart := false }
def DesBackSaid : Prop := desBackRow.holds Try.pinned (OpenSpec.ofChange desBackSpec)

/-- ITS FALSE NEIGHBOUR: 'it returns false'. Refute it at one input. -/
def desBackWrong : ChangeSpec := { name := "desBack", fn := fun _ => fun
  | [d1, d2, d3] => { results := [.lit (.bool false)], args := [d1, d2, d3] }
  | _ => none }
def DesBackWrongFalsely : Prop := desBackRow.holds Try.pinned (OpenSpec.ofChange desBackWrong)

/-- 'euphroelaw08.DesOther': WHATEVER THE INPUT: true; the input reads as it did. -/
def desOtherSpec : ChangeSpec := { name := "desOther", fn := fun _ => fun
  | [d1, d2] => { results := [.lit (.bool true)], args := [d1, d2] }
  | _ => none }
def desOtherRow : OpenClaim := { program := "ytpiadkdalilmnaa", sum := "b23ba00c2dabcf732dead998dedac5dd350381580fedab100ae910c13131b9cd", func := "euphroe/euphroelaw08.DesOther", spec := "desOther", inPlace := ["internal/bytealg.IndexByteString"], unfollowed := true, recurses := true, apart := false }
def DesOtherSaid : Prop := desOtherRow.holds Try.pinned (OpenSpec.ofChange desOtherSpec)

/-- ITS FALSE NEIGHBOUR: 'it returns false'. Refute it at one input. -/
def desOtherWrong : ChangeSpec := { name := "desOther", fn := fun _ => fun
  | [d1, d2] => { results := [.lit (.bool false)], args := [d1, d2] }
  | _ => none }
def DesOtherWrongFalsely : Prop := desOtherRow.holds Try.pinned (OpenSpec.ofChange desOtherWrong)

/- THE SECOND FORM. 'bulk': how many values and letters a reading holds, each counted each time it is reached (what is shared counts as often as it is met; a slice's spare places count too). A statement '..UptoSaid' is the law's where the arguments, and the package variables that the reading takes, are together of bulk at most 1048576: NARROWER than '..Said'. Prove '..Said' where nothing that the law and all that it calls make is longer than what came in: it says more and counts as full. Else prove '..UptoSaid'. A law counts once. -/
mutual
def uptoBulk {H : Type} : DataW H → Nat
  | .lit (.string bytes) => bytes.length + 1
  | .lit _ => 1
  | .nil => 1
  | .ptr d => uptoBulk d + 1
  | .slice elems spare => uptoBulkAll elems + uptoBulkAll spare + 1
  | .agg parts => uptoBulkAll parts + 1
  | .iface _ d => uptoBulk d + 1
  | .map entries => uptoBulkEntries entries + 1
  | .held _ => 1
def uptoBulkAll {H : Type} : List (DataW H) → Nat
  | [] => 0
  | d :: r => uptoBulk d + uptoBulkAll r
def uptoBulkEntries {H : Type} : List (Lit × DataW H) → Nat
  | [] => 0
  | x :: r => uptoBulkEntry x + uptoBulkEntries r
def uptoBulkEntry {H : Type} : Lit × DataW H → Nat
  | (.string bytes, d) => bytes.length + uptoBulk d + 1
  | (_, d) => uptoBulk d + 1
 end
def uptoSmall : (H : Type) → List (DataW H) → Bool := fun _ ds => decide (uptoBulkAll ds ≤ 1048576)
def OpenSpec.upto (s : _root_.Go.ChangeSpec) : _root_.Go.OpenSpec := { _root_.Go.OpenSpec.ofChange s with cond := some uptoSmall }

/-- 'euphroelaw08.DesWords', WHERE WHAT IT READS IS OF BULK AT MOST 1048576: true; the input reads as it did. -/
def desWordsUptoRow : OpenClaim := { program := "ytpiadkdalilmnaa", sum := "b23ba00c2dabcf732dead998dedac5dd350381580fedab100ae910c13131b9cd", func := "euphroe/euphroelaw08.DesWords", spec := "desWords", inPlace := ["internal/bytealg.IndexByteString"], unfollowed := true, recurses := true, apart := false, narrowed := true }
def DesWordsUptoSaid : Prop := desWordsUptoRow.holds Try.pinned (OpenSpec.upto desWordsSpec)

/-- 'euphroelaw08.DesSeven', WHERE WHAT IT READS IS OF BULK AT MOST 1048576: true; the input reads as it did. -/
def desSevenUptoRow : OpenClaim := { program := "ytpiadkdalilmnaa", sum := "b23ba00c2dabcf732dead998dedac5dd350381580fedab100ae910c13131b9cd", func := "euphroe/euphroelaw08.DesSeven", spec := "desSeven", inPlace := ["internal/bytealg.IndexByteString"], unfollowed := true, recurses := true, apart := false, narrowed := true }
def DesSevenUptoSaid : Prop := desSevenUptoRow.holds Try.pinned (OpenSpec.upto desSevenSpec)

/-- 'euphroelaw08.DesTurns', WHERE WHAT IT READS IS OF BULK AT MOST 1048576: true; the input reads as it did. -/
def desTurnsUptoRow : OpenClaim := { program := "ytpiadkdalilmnaa", sum := "b23ba00c2dabcf732dead998dedac5dd350381580fedab100ae910c13131b9cd", func := "euphroe/euphroelaw08.DesTurns", spec := "desTurns", inPlace := ["internal/bytealg.IndexByteString"], unfollowed := true, recurses := true, apart := false, narrowed := true }
def DesTurnsUptoSaid : Prop := desTurnsUptoRow.holds Try.pinned (OpenSpec.upto desTurnsSpec)

/-- 'euphroelaw08.DesBack', WHERE WHAT IT READS IS OF BULK AT MOST 1048576: true; the input reads as it did. -/
def desBackUptoRow : OpenClaim := { program := "ytpiadkdalilmnaa", sum := "b23ba00c2dabcf732dead998dedac5dd350381580fedab100ae910c13131b9cd", func := "euphroe/euphroelaw08.DesBack", spec := "desBack", inPlace := ["internal/bytealg.IndexByteString"], unfollowed := true, recurses := true, apart := false, narrowed := true }
def DesBackUptoSaid : Prop := desBackUptoRow.holds Try.pinned (OpenSpec.upto desBackSpec)

/-- 'euphroelaw08.DesOther', WHERE WHAT IT READS IS OF BULK AT MOST 1048576: true; the input reads as it did. -/
def desOtherUptoRow : OpenClaim := { program := "ytpiadkdalilmnaa", sum := "b23ba00c2dabcf732dead998dedac5dd350381580fedab100ae910c13131b9cd", func := "euphroe/euphroelaw08.DesOther", spec := "desOther", inPlace := ["internal/bytealg.IndexByteString"], unfollowed := true, recurses := true, apart := false, narrowed := true }
def DesOtherUptoSaid : Prop := desOtherUptoRow.holds Try.pinned (OpenSpec.upto desOtherSpec)

end Rows
end Go.Proofs.Ytpiadkdalilmnaa
