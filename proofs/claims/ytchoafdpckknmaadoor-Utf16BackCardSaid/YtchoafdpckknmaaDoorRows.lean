/-
  NARROWER THAN 'FOR EVERY INPUT', by the rows' own cells (each row's printed sentence says how): Utf16Lays: laid · Utf16Back: laid · Utf16Units: laid.
  DERIVED. THE GIVEN ROWS OF THIS SEAT. 3 by the template 'for every input the law returns true; each argument reads behind the call as it read before'; 0 by the template 'total and deterministic' (their statements: YtchoafdpckknmaaDoorTotals.lean).
  GIVEN WITH THE SEED: the statements are not yours to turn. If you find one false, say at which input.
  Laid BY PROGRAM, IN A SANDBOX (cutbox-rows.mjs): the forced cells as the released guide's own fill.sh prints them over the translation dabb55c76182ebfa… (all of the seat's roots in one cut). By AI agents, Wed Nov 11 2026. No macro, syntax, notation, axiom, sorry.
-/
import Derived.Test.YtchoafdpckknmaaDoorChecked
import GoSem.PinnedTables
import GoSem.Claim
import GoSem.ClaimJoined
import GoSem.ClaimMapViews
import Derived.JoinedTies
import Derived.KernelRfl
namespace Go.Proofs.YtchoafdpckknmaaDoor
/- THE CELL 'sum', in the pinned program and in every row, IS THE sha256 OF THE DUMP (.gsa) THAT YtchoafdpckknmaaDoorProg.lean LOADS. Nothing in Lean hashes anything: it is a label: what it is worth is what the hold of that sum in a sandbox is worth. -/
noncomputable def Tryd.pinned : Pinned := { name := "ytchoafdpckknmaadoor", sum := "dabb55c76182ebfa02d41552cc5ea4cec4eb018ee432a31d68a971d2ebaa8493", checked := Tryd.checked }
namespace Rows
def none {H : Type} : Left H := { results := [], args := [] }

/- WHAT THE LISTED PACKAGE-LEVEL VARIABLES READ AS WHEN THE CALL BEGINS. Each datum BY PROGRAM (the guide's laid-datum.mjs) off the statement by which the dump's own 'gosem.cut.vars' lays the variable. In a bare row this is a premise. The card (YtchoafdpckknmaaDoorCards.lean) ties it to the program's text. -/
def laid_unicode_utf8_acceptRanges {H : Type} : DataW H := .agg [.agg [.lit (.int .u8 128), .lit (.int .u8 191)], .agg [.lit (.int .u8 160), .lit (.int .u8 191)], .agg [.lit (.int .u8 128), .lit (.int .u8 159)], .agg [.lit (.int .u8 144), .lit (.int .u8 191)], .agg [.lit (.int .u8 128), .lit (.int .u8 143)], .agg [.lit (.int .u8 0), .lit (.int .u8 0)], .agg [.lit (.int .u8 0), .lit (.int .u8 0)], .agg [.lit (.int .u8 0), .lit (.int .u8 0)], .agg [.lit (.int .u8 0), .lit (.int .u8 0)], .agg [.lit (.int .u8 0), .lit (.int .u8 0)], .agg [.lit (.int .u8 0), .lit (.int .u8 0)], .agg [.lit (.int .u8 0), .lit (.int .u8 0)], .agg [.lit (.int .u8 0), .lit (.int .u8 0)], .agg [.lit (.int .u8 0), .lit (.int .u8 0)], .agg [.lit (.int .u8 0), .lit (.int .u8 0)], .agg [.lit (.int .u8 0), .lit (.int .u8 0)]]
/-- One of Go's own tables, pinned by name: the form's constant. -/
def laid_unicode_utf8_first : DataW Unit := Go.Pinned.utf8First

/-- 'euphroelaw09.Utf16Lays': WHATEVER THE INPUT: true; the input reads as it did. -/
def utf16LaysSpec : ChangeSpec := { name := "utf16Lays", fn := fun _ => fun
  | [d] => { results := [.lit (.bool true)], args := [d] }
  | _ => none }
def utf16LaysRow : OpenClaim := { program := "ytchoafdpckknmaadoor", sum := "dabb55c76182ebfa02d41552cc5ea4cec4eb018ee432a31d68a971d2ebaa8493", func := "euphroe/euphroelaw09.Utf16Lays", spec := "utf16Lays", inPlace := ["internal/abi.NoEscape"], named := ["unicode/utf8.first", "unicode/utf8.acceptRanges"], apart := false, laid := [("unicode/utf8.acceptRanges", laid_unicode_utf8_acceptRanges), ("unicode/utf8.first", laid_unicode_utf8_first)] }
def Utf16LaysSaid : Prop := utf16LaysRow.holds Tryd.pinned (OpenSpec.ofChange utf16LaysSpec)

/-- ITS FALSE NEIGHBOUR: 'it returns false'. Refute it at one input. -/
def utf16LaysWrong : ChangeSpec := { name := "utf16Lays", fn := fun _ => fun
  | [d] => { results := [.lit (.bool false)], args := [d] }
  | _ => none }
def Utf16LaysWrongFalsely : Prop := utf16LaysRow.holds Tryd.pinned (OpenSpec.ofChange utf16LaysWrong)

/-- 'euphroelaw09.Utf16Back': WHATEVER THE INPUT: true; the input reads as it did. -/
def utf16BackSpec : ChangeSpec := { name := "utf16Back", fn := fun _ => fun
  | [d1, d2] => { results := [.lit (.bool true)], args := [d1, d2] }
  | _ => none }
def utf16BackRow : OpenClaim := { program := "ytchoafdpckknmaadoor", sum := "dabb55c76182ebfa02d41552cc5ea4cec4eb018ee432a31d68a971d2ebaa8493", func := "euphroe/euphroelaw09.Utf16Back", spec := "utf16Back", inPlace := ["internal/abi.NoEscape"], named := ["unicode/utf8.first", "unicode/utf8.acceptRanges"], apart := false, laid := [("unicode/utf8.acceptRanges", laid_unicode_utf8_acceptRanges), ("unicode/utf8.first", laid_unicode_utf8_first)] }
def Utf16BackSaid : Prop := utf16BackRow.holds Tryd.pinned (OpenSpec.ofChange utf16BackSpec)

/-- ITS FALSE NEIGHBOUR: 'it returns false'. Refute it at one input. -/
def utf16BackWrong : ChangeSpec := { name := "utf16Back", fn := fun _ => fun
  | [d1, d2] => { results := [.lit (.bool false)], args := [d1, d2] }
  | _ => none }
def Utf16BackWrongFalsely : Prop := utf16BackRow.holds Tryd.pinned (OpenSpec.ofChange utf16BackWrong)

/-- 'euphroelaw09.Utf16Units': WHATEVER THE INPUT: true; the input reads as it did. -/
def utf16UnitsSpec : ChangeSpec := { name := "utf16Units", fn := fun _ => fun
  | [d] => { results := [.lit (.bool true)], args := [d] }
  | _ => none }
def utf16UnitsRow : OpenClaim := { program := "ytchoafdpckknmaadoor", sum := "dabb55c76182ebfa02d41552cc5ea4cec4eb018ee432a31d68a971d2ebaa8493", func := "euphroe/euphroelaw09.Utf16Units", spec := "utf16Units", inPlace := ["internal/abi.NoEscape"], named := ["unicode/utf8.first", "unicode/utf8.acceptRanges"], apart := false, laid := [("unicode/utf8.acceptRanges", laid_unicode_utf8_acceptRanges), ("unicode/utf8.first", laid_unicode_utf8_first)] }
def Utf16UnitsSaid : Prop := utf16UnitsRow.holds Tryd.pinned (OpenSpec.ofChange utf16UnitsSpec)

/-- ITS FALSE NEIGHBOUR: 'it returns false'. Refute it at one input. -/
def utf16UnitsWrong : ChangeSpec := { name := "utf16Units", fn := fun _ => fun
  | [d] => { results := [.lit (.bool false)], args := [d] }
  | _ => none }
def Utf16UnitsWrongFalsely : Prop := utf16UnitsRow.holds Tryd.pinned (OpenSpec.ofChange utf16UnitsWrong)

/- THE SECOND FORM. 'bulk': how many values and letters a reading holds, each counted each time it is reached (what is shared counts as often as it is met; a slice's spare places count too). A statement '..UptoSaid' is the law's where the arguments, and the package variables that the reading takes, are together of bulk at most 1048576: NARROWER than '..Said'. Prove '..Said' where nothing that the law and all that it calls make is longer than what came in: it says more and counts as full. Else prove '..UptoSaid'. A law counts once. -/
mutual
def uptoBulk {H : Type} : DataW H → Nat
  | .lit (.string bytes) => bytes.length + 1
  | .lit _ => 1
  | .nil => 1
  | .ptr d => uptoBulk d + 1
  | .slice elems spare => uptoBulkAll elems + uptoBulkAll spare + 1
  | .agg parts => uptoBulkAll parts + 1
  | .iface _ d => uptoBulk d + 1
  | .map entries => uptoBulkEntries entries + 1
  | .held _ => 1
def uptoBulkAll {H : Type} : List (DataW H) → Nat
  | [] => 0
  | d :: r => uptoBulk d + uptoBulkAll r
def uptoBulkEntries {H : Type} : List (Lit × DataW H) → Nat
  | [] => 0
  | x :: r => uptoBulkEntry x + uptoBulkEntries r
def uptoBulkEntry {H : Type} : Lit × DataW H → Nat
  | (.string bytes, d) => bytes.length + uptoBulk d + 1
  | (_, d) => uptoBulk d + 1
 end
def uptoSmall : (H : Type) → List (DataW H) → Bool := fun _ ds => decide (uptoBulkAll ds ≤ 1048576)
def OpenSpec.upto (s : _root_.Go.ChangeSpec) : _root_.Go.OpenSpec := { _root_.Go.OpenSpec.ofChange s with cond := some uptoSmall }

/-- 'euphroelaw09.Utf16Lays', WHERE WHAT IT READS IS OF BULK AT MOST 1048576: true; the input reads as it did. -/
def utf16LaysUptoRow : OpenClaim := { program := "ytchoafdpckknmaadoor", sum := "dabb55c76182ebfa02d41552cc5ea4cec4eb018ee432a31d68a971d2ebaa8493", func := "euphroe/euphroelaw09.Utf16Lays", spec := "utf16Lays", inPlace := ["internal/abi.NoEscape"], named := ["unicode/utf8.first", "unicode/utf8.acceptRanges"], apart := false, laid := [("unicode/utf8.acceptRanges", laid_unicode_utf8_acceptRanges), ("unicode/utf8.first", laid_unicode_utf8_first)], narrowed := true }
def Utf16LaysUptoSaid : Prop := utf16LaysUptoRow.holds Tryd.pinned (OpenSpec.upto utf16LaysSpec)

/-- 'euphroelaw09.Utf16Back', WHERE WHAT IT READS IS OF BULK AT MOST 1048576: true; the input reads as it did. -/
def utf16BackUptoRow : OpenClaim := { program := "ytchoafdpckknmaadoor", sum := "dabb55c76182ebfa02d41552cc5ea4cec4eb018ee432a31d68a971d2ebaa8493", func := "euphroe/euphroelaw09.Utf16Back", spec := "utf16Back", inPlace := ["internal/abi.NoEscape"], named := ["unicode/utf8.first", "unicode/utf8.acceptRanges"], apart := false, laid := [("unicode/utf8.acceptRanges", laid_unicode_utf8_acceptRanges), ("unicode/utf8.first", laid_unicode_utf8_first)], narrowed := true }
def Utf16BackUptoSaid : Prop := utf16BackUptoRow.holds Tryd.pinned (OpenSpec.upto utf16BackSpec)

/-- 'euphroelaw09.Utf16Units', WHERE WHAT IT READS IS OF BULK AT MOST 1048576: true; the input reads as it did. -/
def utf16UnitsUptoRow : OpenClaim := { program := "ytchoafdpckknmaadoor", sum := "dabb55c76182ebfa02d41552cc5ea4cec4eb018ee432a31d68a971d2ebaa8493", func := "euphroe/euphroelaw09.Utf16Units", spec := "utf16Units", inPlace := ["internal/abi.NoEscape"], named := ["unicode/utf8.first", "unicode/utf8.acceptRanges"], apart := false, laid := [("unicode/utf8.acceptRanges", laid_unicode_utf8_acceptRanges), ("unicode/utf8.first", laid_unicode_utf8_first)], narrowed := true }
def Utf16UnitsUptoSaid : Prop := utf16UnitsUptoRow.holds Tryd.pinned (OpenSpec.upto utf16UnitsSpec)

end Rows
end Go.Proofs.YtchoafdpckknmaaDoor
