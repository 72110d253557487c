/-
  NARROWER THAN 'FOR EVERY INPUT', by the rows' own cells (each row's printed sentence says how): NthashOf: laid · NthashThirds: laid · MppeKeys: laid · MppeBoth: laid · MppeUpper: laid.
  DERIVED. THE GIVEN ROWS OF THIS SEAT. 5 by the template 'for every input the law returns true; each argument reads behind the call as it read before'; 0 by the template 'total and deterministic' (their statements: YtdlmhclopdkhcaaDoorTotals.lean).
  GIVEN WITH THE SEED: the statements are not yours to turn. If you find one false, say at which input.
  Laid BY PROGRAM, IN A SANDBOX (cutbox-rows.mjs): the forced cells as the released guide's own fill.sh prints them over the translation 3e52fe8c20546db4… (all of the seat's roots in one cut). By AI agents, Wed Nov 11 2026. No macro, syntax, notation, axiom, sorry.
-/
import Derived.Test.YtdlmhclopdkhcaaDoorChecked
import GoSem.PinnedTables
import GoSem.Claim
import GoSem.ClaimJoined
import GoSem.ClaimMapViews
import Derived.JoinedTies
import Derived.KernelRfl
namespace Go.Proofs.YtdlmhclopdkhcaaDoor
/- THE CELL 'sum', in the pinned program and in every row, IS THE sha256 OF THE DUMP (.gsa) THAT YtdlmhclopdkhcaaDoorProg.lean LOADS. Nothing in Lean hashes anything: it is a label: what it is worth is what the hold of that sum in a sandbox is worth. -/
noncomputable def Tryd.pinned : Pinned := { name := "ytdlmhclopdkhcaadoor", sum := "3e52fe8c20546db49d56f83259dedd0f6edca6e00549d62e4f6327cefb595216", checked := Tryd.checked }
namespace Rows
def none {H : Type} : Left H := { results := [], args := [] }

/- WHAT THE LISTED PACKAGE-LEVEL VARIABLES READ AS WHEN THE CALL BEGINS. Each datum BY PROGRAM (the guide's laid-datum.mjs) off the statement by which the dump's own 'gosem.cut.vars' lays the variable. In a bare row this is a premise. The card (YtdlmhclopdkhcaaDoorCards.lean) ties it to the program's text. -/
def laid_unicode_utf8_acceptRanges {H : Type} : DataW H := .agg [.agg [.lit (.int .u8 128), .lit (.int .u8 191)], .agg [.lit (.int .u8 160), .lit (.int .u8 191)], .agg [.lit (.int .u8 128), .lit (.int .u8 159)], .agg [.lit (.int .u8 144), .lit (.int .u8 191)], .agg [.lit (.int .u8 128), .lit (.int .u8 143)], .agg [.lit (.int .u8 0), .lit (.int .u8 0)], .agg [.lit (.int .u8 0), .lit (.int .u8 0)], .agg [.lit (.int .u8 0), .lit (.int .u8 0)], .agg [.lit (.int .u8 0), .lit (.int .u8 0)], .agg [.lit (.int .u8 0), .lit (.int .u8 0)], .agg [.lit (.int .u8 0), .lit (.int .u8 0)], .agg [.lit (.int .u8 0), .lit (.int .u8 0)], .agg [.lit (.int .u8 0), .lit (.int .u8 0)], .agg [.lit (.int .u8 0), .lit (.int .u8 0)], .agg [.lit (.int .u8 0), .lit (.int .u8 0)], .agg [.lit (.int .u8 0), .lit (.int .u8 0)]]
/-- One of Go's own tables, pinned by name: the form's constant. -/
def laid_unicode_utf8_first : DataW Unit := Go.Pinned.utf8First

/-- 'euphroelaw10.NthashOf': WHATEVER THE INPUT: true; the input reads as it did. -/
def nthashOfSpec : ChangeSpec := { name := "nthashOf", fn := fun _ => fun
  | [d1, d2] => { results := [.lit (.bool true)], args := [d1, d2] }
  | _ => none }
def nthashOfRow : OpenClaim := { program := "ytdlmhclopdkhcaadoor", sum := "3e52fe8c20546db49d56f83259dedd0f6edca6e00549d62e4f6327cefb595216", func := "euphroe/euphroelaw10.NthashOf", spec := "nthashOf", unfollowed := true, recurses := true, named := ["unicode/utf8.first", "unicode/utf8.acceptRanges"], apart := false, laid := [("unicode/utf8.acceptRanges", laid_unicode_utf8_acceptRanges), ("unicode/utf8.first", laid_unicode_utf8_first)] }
def NthashOfSaid : Prop := nthashOfRow.holds Tryd.pinned (OpenSpec.ofChange nthashOfSpec)

/-- ITS FALSE NEIGHBOUR: 'it returns false'. Refute it at one input. -/
def nthashOfWrong : ChangeSpec := { name := "nthashOf", fn := fun _ => fun
  | [d1, d2] => { results := [.lit (.bool false)], args := [d1, d2] }
  | _ => none }
def NthashOfWrongFalsely : Prop := nthashOfRow.holds Tryd.pinned (OpenSpec.ofChange nthashOfWrong)

/-- 'euphroelaw10.NthashThirds': WHATEVER THE INPUT: true; the input reads as it did. -/
def nthashThirdsSpec : ChangeSpec := { name := "nthashThirds", fn := fun _ => fun
  | [d] => { results := [.lit (.bool true)], args := [d] }
  | _ => none }
def nthashThirdsRow : OpenClaim := { program := "ytdlmhclopdkhcaadoor", sum := "3e52fe8c20546db49d56f83259dedd0f6edca6e00549d62e4f6327cefb595216", func := "euphroe/euphroelaw10.NthashThirds", spec := "nthashThirds", unfollowed := true, recurses := true, named := ["unicode/utf8.first", "unicode/utf8.acceptRanges"], apart := false, laid := [("unicode/utf8.acceptRanges", laid_unicode_utf8_acceptRanges), ("unicode/utf8.first", laid_unicode_utf8_first)] }
def NthashThirdsSaid : Prop := nthashThirdsRow.holds Tryd.pinned (OpenSpec.ofChange nthashThirdsSpec)

/-- ITS FALSE NEIGHBOUR: 'it returns false'. Refute it at one input. -/
def nthashThirdsWrong : ChangeSpec := { name := "nthashThirds", fn := fun _ => fun
  | [d] => { results := [.lit (.bool false)], args := [d] }
  | _ => none }
def NthashThirdsWrongFalsely : Prop := nthashThirdsRow.holds Tryd.pinned (OpenSpec.ofChange nthashThirdsWrong)

/-- 'euphroelaw12.MppeKeys': WHATEVER THE INPUT: true; the input reads as it did. -/
def mppeKeysSpec : ChangeSpec := { name := "mppeKeys", fn := fun _ => fun
  | [d1, d2, d3] => { results := [.lit (.bool true)], args := [d1, d2, d3] }
  | _ => none }
def mppeKeysRow : OpenClaim := { program := "ytdlmhclopdkhcaadoor", sum := "3e52fe8c20546db49d56f83259dedd0f6edca6e00549d62e4f6327cefb595216", func := "euphroe/euphroelaw12.MppeKeys", spec := "mppeKeys", inPlace := ["internal/bytealg.MakeNoZero"], unfollowed := true, recurses := true, named := ["unicode/utf8.first", "unicode/utf8.acceptRanges"], apart := false, laid := [("unicode/utf8.acceptRanges", laid_unicode_utf8_acceptRanges), ("unicode/utf8.first", laid_unicode_utf8_first)] }
def MppeKeysSaid : Prop := mppeKeysRow.holds Tryd.pinned (OpenSpec.ofChange mppeKeysSpec)

/-- ITS FALSE NEIGHBOUR: 'it returns false'. Refute it at one input. -/
def mppeKeysWrong : ChangeSpec := { name := "mppeKeys", fn := fun _ => fun
  | [d1, d2, d3] => { results := [.lit (.bool false)], args := [d1, d2, d3] }
  | _ => none }
def MppeKeysWrongFalsely : Prop := mppeKeysRow.holds Tryd.pinned (OpenSpec.ofChange mppeKeysWrong)

/-- 'euphroelaw12.MppeBoth': WHATEVER THE INPUT: true; the input reads as it did. -/
def mppeBothSpec : ChangeSpec := { name := "mppeBoth", fn := fun _ => fun
  | [d] => { results := [.lit (.bool true)], args := [d] }
  | _ => none }
def mppeBothRow : OpenClaim := { program := "ytdlmhclopdkhcaadoor", sum := "3e52fe8c20546db49d56f83259dedd0f6edca6e00549d62e4f6327cefb595216", func := "euphroe/euphroelaw12.MppeBoth", spec := "mppeBoth", inPlace := ["internal/bytealg.MakeNoZero"], unfollowed := true, recurses := true, named := ["unicode/utf8.first", "unicode/utf8.acceptRanges"], apart := false, laid := [("unicode/utf8.acceptRanges", laid_unicode_utf8_acceptRanges), ("unicode/utf8.first", laid_unicode_utf8_first)] }
def MppeBothSaid : Prop := mppeBothRow.holds Tryd.pinned (OpenSpec.ofChange mppeBothSpec)

/-- ITS FALSE NEIGHBOUR: 'it returns false'. Refute it at one input. -/
def mppeBothWrong : ChangeSpec := { name := "mppeBoth", fn := fun _ => fun
  | [d] => { results := [.lit (.bool false)], args := [d] }
  | _ => none }
def MppeBothWrongFalsely : Prop := mppeBothRow.holds Tryd.pinned (OpenSpec.ofChange mppeBothWrong)

/-- 'euphroelaw12.MppeUpper': WHATEVER THE INPUT: true; the input reads as it did. -/
def mppeUpperSpec : ChangeSpec := { name := "mppeUpper", fn := fun _ => fun
  | [d1, d2, d3] => { results := [.lit (.bool true)], args := [d1, d2, d3] }
  | _ => none }
def mppeUpperRow : OpenClaim := { program := "ytdlmhclopdkhcaadoor", sum := "3e52fe8c20546db49d56f83259dedd0f6edca6e00549d62e4f6327cefb595216", func := "euphroe/euphroelaw12.MppeUpper", spec := "mppeUpper", inPlace := ["internal/bytealg.MakeNoZero"], unfollowed := true, recurses := true, named := ["unicode/utf8.first", "unicode/utf8.acceptRanges"], apart := false, laid := [("unicode/utf8.acceptRanges", laid_unicode_utf8_acceptRanges), ("unicode/utf8.first", laid_unicode_utf8_first)] }
def MppeUpperSaid : Prop := mppeUpperRow.holds Tryd.pinned (OpenSpec.ofChange mppeUpperSpec)

/-- ITS FALSE NEIGHBOUR: 'it returns false'. Refute it at one input. -/
def mppeUpperWrong : ChangeSpec := { name := "mppeUpper", fn := fun _ => fun
  | [d1, d2, d3] => { results := [.lit (.bool false)], args := [d1, d2, d3] }
  | _ => none }
def MppeUpperWrongFalsely : Prop := mppeUpperRow.holds Tryd.pinned (OpenSpec.ofChange mppeUpperWrong)

/- THE SECOND FORM. 'bulk': how many values and letters a reading holds, each counted each time it is reached (what is shared counts as often as it is met; a slice's spare places count too). A statement '..UptoSaid' is the law's where the arguments, and the package variables that the reading takes, are together of bulk at most 1048576: NARROWER than '..Said'. Prove '..Said' where nothing that the law and all that it calls make is longer than what came in: it says more and counts as full. Else prove '..UptoSaid'. A law counts once. -/
mutual
def uptoBulk {H : Type} : DataW H → Nat
  | .lit (.string bytes) => bytes.length + 1
  | .lit _ => 1
  | .nil => 1
  | .ptr d => uptoBulk d + 1
  | .slice elems spare => uptoBulkAll elems + uptoBulkAll spare + 1
  | .agg parts => uptoBulkAll parts + 1
  | .iface _ d => uptoBulk d + 1
  | .map entries => uptoBulkEntries entries + 1
  | .held _ => 1
def uptoBulkAll {H : Type} : List (DataW H) → Nat
  | [] => 0
  | d :: r => uptoBulk d + uptoBulkAll r
def uptoBulkEntries {H : Type} : List (Lit × DataW H) → Nat
  | [] => 0
  | x :: r => uptoBulkEntry x + uptoBulkEntries r
def uptoBulkEntry {H : Type} : Lit × DataW H → Nat
  | (.string bytes, d) => bytes.length + uptoBulk d + 1
  | (_, d) => uptoBulk d + 1
 end
def uptoSmall : (H : Type) → List (DataW H) → Bool := fun _ ds => decide (uptoBulkAll ds ≤ 1048576)
def OpenSpec.upto (s : _root_.Go.ChangeSpec) : _root_.Go.OpenSpec := { _root_.Go.OpenSpec.ofChange s with cond := some uptoSmall }

/-- 'euphroelaw10.NthashOf', WHERE WHAT IT READS IS OF BULK AT MOST 1048576: true; the input reads as it did. -/
def nthashOfUptoRow : OpenClaim := { program := "ytdlmhclopdkhcaadoor", sum := "3e52fe8c20546db49d56f83259dedd0f6edca6e00549d62e4f6327cefb595216", func := "euphroe/euphroelaw10.NthashOf", spec := "nthashOf", unfollowed := true, recurses := true, named := ["unicode/utf8.first", "unicode/utf8.acceptRanges"], apart := false, laid := [("unicode/utf8.acceptRanges", laid_unicode_utf8_acceptRanges), ("unicode/utf8.first", laid_unicode_utf8_first)], narrowed := true }
def NthashOfUptoSaid : Prop := nthashOfUptoRow.holds Tryd.pinned (OpenSpec.upto nthashOfSpec)

/-- 'euphroelaw10.NthashThirds', WHERE WHAT IT READS IS OF BULK AT MOST 1048576: true; the input reads as it did. -/
def nthashThirdsUptoRow : OpenClaim := { program := "ytdlmhclopdkhcaadoor", sum := "3e52fe8c20546db49d56f83259dedd0f6edca6e00549d62e4f6327cefb595216", func := "euphroe/euphroelaw10.NthashThirds", spec := "nthashThirds", unfollowed := true, recurses := true, named := ["unicode/utf8.first", "unicode/utf8.acceptRanges"], apart := false, laid := [("unicode/utf8.acceptRanges", laid_unicode_utf8_acceptRanges), ("unicode/utf8.first", laid_unicode_utf8_first)], narrowed := true }
def NthashThirdsUptoSaid : Prop := nthashThirdsUptoRow.holds Tryd.pinned (OpenSpec.upto nthashThirdsSpec)

/-- 'euphroelaw12.MppeKeys', WHERE WHAT IT READS IS OF BULK AT MOST 1048576: true; the input reads as it did. -/
def mppeKeysUptoRow : OpenClaim := { program := "ytdlmhclopdkhcaadoor", sum := "3e52fe8c20546db49d56f83259dedd0f6edca6e00549d62e4f6327cefb595216", func := "euphroe/euphroelaw12.MppeKeys", spec := "mppeKeys", inPlace := ["internal/bytealg.MakeNoZero"], unfollowed := true, recurses := true, named := ["unicode/utf8.first", "unicode/utf8.acceptRanges"], apart := false, laid := [("unicode/utf8.acceptRanges", laid_unicode_utf8_acceptRanges), ("unicode/utf8.first", laid_unicode_utf8_first)], narrowed := true }
def MppeKeysUptoSaid : Prop := mppeKeysUptoRow.holds Tryd.pinned (OpenSpec.upto mppeKeysSpec)

/-- 'euphroelaw12.MppeBoth', WHERE WHAT IT READS IS OF BULK AT MOST 1048576: true; the input reads as it did. -/
def mppeBothUptoRow : OpenClaim := { program := "ytdlmhclopdkhcaadoor", sum := "3e52fe8c20546db49d56f83259dedd0f6edca6e00549d62e4f6327cefb595216", func := "euphroe/euphroelaw12.MppeBoth", spec := "mppeBoth", inPlace := ["internal/bytealg.MakeNoZero"], unfollowed := true, recurses := true, named := ["unicode/utf8.first", "unicode/utf8.acceptRanges"], apart := false, laid := [("unicode/utf8.acceptRanges", laid_unicode_utf8_acceptRanges), ("unicode/utf8.first", laid_unicode_utf8_first)], narrowed := true }
def MppeBothUptoSaid : Prop := mppeBothUptoRow.holds Tryd.pinned (OpenSpec.upto mppeBothSpec)

/-- 'euphroelaw12.MppeUpper', WHERE WHAT IT READS IS OF BULK AT MOST 1048576: true; the input reads as it did. -/
def mppeUpperUptoRow : OpenClaim := { program := "ytdlmhclopdkhcaadoor", sum := "3e52fe8c20546db49d56f83259dedd0f6edca6e00549d62e4f6327cefb595216", func := "euphroe/euphroelaw12.MppeUpper", spec := "mppeUpper", inPlace := ["internal/bytealg.MakeNoZero"], unfollowed := true, recurses := true, named := ["unicode/utf8.first", "unicode/utf8.acceptRanges"], apart := false, laid := [("unicode/utf8.acceptRanges", laid_unicode_utf8_acceptRanges), ("unicode/utf8.first", laid_unicode_utf8_first)], narrowed := true }
def MppeUpperUptoSaid : Prop := mppeUpperUptoRow.holds Tryd.pinned (OpenSpec.upto mppeUpperSpec)

end Rows
end Go.Proofs.YtdlmhclopdkhcaaDoor
