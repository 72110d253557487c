/-
  No cell of these rows narrows 'for every input' (looked for: loops, veiled, ifaces, maps, wideKeys, modest, calm, conditions, laid).
  DERIVED. THE GIVEN ROWS OF THIS SEAT. 9 by the template 'for every input the law returns true; each argument reads behind the call as it read before'; 0 by the template 'total and deterministic' (their statements: YtjkdflcccoeggaaTotals.lean).
  GIVEN WITH THE SEED: the statements are not yours to turn. If you find one false, say at which input.
  Laid BY PROGRAM, IN A SANDBOX (cutbox-rows.mjs): the forced cells as the released guide's own fill.sh prints them over the translation 755049b20205f9a5… (all of the seat's roots in one cut). By AI agents, Wed Nov 11 2026. No macro, syntax, notation, axiom, sorry.
-/
import Derived.Test.YtjkdflcccoeggaaChecked
import GoSem.Claim
import GoSem.ClaimJoined
import GoSem.ClaimMapViews
import Derived.JoinedTies
import Derived.KernelRfl
namespace Go.Proofs.Ytjkdflcccoeggaa
/- THE CELL 'sum', in the pinned program and in every row, IS THE sha256 OF THE DUMP (.gsa) THAT YtjkdflcccoeggaaProg.lean LOADS. Nothing in Lean hashes anything: it is a label: what it is worth is what the hold of that sum in a sandbox is worth. -/
noncomputable def Try.pinned : Pinned := { name := "ytjkdflcccoeggaa", sum := "755049b20205f9a57ec93c64e460d8643a8e53741d6848c5b8bbe61e1388bdf6", checked := Try.checked }
namespace Rows
def none {H : Type} : Left H := { results := [], args := [] }

/-- 'euphroelaw01.OctsHex': WHATEVER THE INPUT: true; the input reads as it did. -/
def octsHexSpec : ChangeSpec := { name := "octsHex", fn := fun _ => fun
  | [d1, d2] => { results := [.lit (.bool true)], args := [d1, d2] }
  | _ => none }
def octsHexRow : OpenClaim := { program := "ytjkdflcccoeggaa", sum := "755049b20205f9a57ec93c64e460d8643a8e53741d6848c5b8bbe61e1388bdf6", func := "euphroe/euphroelaw01.OctsHex", spec := "octsHex", inPlace := ["internal/bytealg.IndexByteString"], apart := false }
def OctsHexSaid : Prop := octsHexRow.holds Try.pinned (OpenSpec.ofChange octsHexSpec)

/-- ITS FALSE NEIGHBOUR: 'it returns false'. Refute it at one input. -/
def octsHexWrong : ChangeSpec := { name := "octsHex", fn := fun _ => fun
  | [d1, d2] => { results := [.lit (.bool false)], args := [d1, d2] }
  | _ => none }
def OctsHexWrongFalsely : Prop := octsHexRow.holds Try.pinned (OpenSpec.ofChange octsHexWrong)

/-- 'euphroelaw01.OctsTurns': WHATEVER THE INPUT: true; the input reads as it did. -/
def octsTurnsSpec : ChangeSpec := { name := "octsTurns", fn := fun _ => fun
  | [d1, d2] => { results := [.lit (.bool true)], args := [d1, d2] }
  | _ => none }
def octsTurnsRow : OpenClaim := { program := "ytjkdflcccoeggaa", sum := "755049b20205f9a57ec93c64e460d8643a8e53741d6848c5b8bbe61e1388bdf6", func := "euphroe/euphroelaw01.OctsTurns", spec := "octsTurns", apart := false }
def OctsTurnsSaid : Prop := octsTurnsRow.holds Try.pinned (OpenSpec.ofChange octsTurnsSpec)

/-- ITS FALSE NEIGHBOUR: 'it returns false'. Refute it at one input. -/
def octsTurnsWrong : ChangeSpec := { name := "octsTurns", fn := fun _ => fun
  | [d1, d2] => { results := [.lit (.bool false)], args := [d1, d2] }
  | _ => none }
def OctsTurnsWrongFalsely : Prop := octsTurnsRow.holds Try.pinned (OpenSpec.ofChange octsTurnsWrong)

/-- 'euphroelaw01.OctsBack': WHATEVER THE INPUT: true; the input reads as it did. -/
def octsBackSpec : ChangeSpec := { name := "octsBack", fn := fun _ => fun
  | [d1, d2, d3] => { results := [.lit (.bool true)], args := [d1, d2, d3] }
  | _ => none }
def octsBackRow : OpenClaim := { program := "ytjkdflcccoeggaa", sum := "755049b20205f9a57ec93c64e460d8643a8e53741d6848c5b8bbe61e1388bdf6", func := "euphroe/euphroelaw01.OctsBack", spec := "octsBack", inPlace := ["internal/bytealg.IndexByteString"], apart := false }
def OctsBackSaid : Prop := octsBackRow.holds Try.pinned (OpenSpec.ofChange octsBackSpec)

/-- ITS FALSE NEIGHBOUR: 'it returns false'. Refute it at one input. -/
def octsBackWrong : ChangeSpec := { name := "octsBack", fn := fun _ => fun
  | [d1, d2, d3] => { results := [.lit (.bool false)], args := [d1, d2, d3] }
  | _ => none }
def OctsBackWrongFalsely : Prop := octsBackRow.holds Try.pinned (OpenSpec.ofChange octsBackWrong)

/-- 'euphroelaw20.PppfLays': WHATEVER THE INPUT: true; the input reads as it did. -/
def pppfLaysSpec : ChangeSpec := { name := "pppfLays", fn := fun _ => fun
  | [d1, d2, d3] => { results := [.lit (.bool true)], args := [d1, d2, d3] }
  | _ => none }
def pppfLaysRow : OpenClaim := { program := "ytjkdflcccoeggaa", sum := "755049b20205f9a57ec93c64e460d8643a8e53741d6848c5b8bbe61e1388bdf6", func := "euphroe/euphroelaw20.PppfLays", spec := "pppfLays", apart := false }
def PppfLaysSaid : Prop := pppfLaysRow.holds Try.pinned (OpenSpec.ofChange pppfLaysSpec)

/-- ITS FALSE NEIGHBOUR: 'it returns false'. Refute it at one input. -/
def pppfLaysWrong : ChangeSpec := { name := "pppfLays", fn := fun _ => fun
  | [d1, d2, d3] => { results := [.lit (.bool false)], args := [d1, d2, d3] }
  | _ => none }
def PppfLaysWrongFalsely : Prop := pppfLaysRow.holds Try.pinned (OpenSpec.ofChange pppfLaysWrong)

/-- 'euphroelaw20.PppfParses': WHATEVER THE INPUT: true; the input reads as it did. -/
def pppfParsesSpec : ChangeSpec := { name := "pppfParses", fn := fun _ => fun
  | [d1, d2] => { results := [.lit (.bool true)], args := [d1, d2] }
  | _ => none }
def pppfParsesRow : OpenClaim := { program := "ytjkdflcccoeggaa", sum := "755049b20205f9a57ec93c64e460d8643a8e53741d6848c5b8bbe61e1388bdf6", func := "euphroe/euphroelaw20.PppfParses", spec := "pppfParses", apart := false }
def PppfParsesSaid : Prop := pppfParsesRow.holds Try.pinned (OpenSpec.ofChange pppfParsesSpec)

/-- ITS FALSE NEIGHBOUR: 'it returns false'. Refute it at one input. -/
def pppfParsesWrong : ChangeSpec := { name := "pppfParses", fn := fun _ => fun
  | [d1, d2] => { results := [.lit (.bool false)], args := [d1, d2] }
  | _ => none }
def PppfParsesWrongFalsely : Prop := pppfParsesRow.holds Try.pinned (OpenSpec.ofChange pppfParsesWrong)

/-- 'euphroelaw20.PppfShort': WHATEVER THE INPUT: true; the input reads as it did. -/
def pppfShortSpec : ChangeSpec := { name := "pppfShort", fn := fun _ => fun
  | [d] => { results := [.lit (.bool true)], args := [d] }
  | _ => none }
def pppfShortRow : OpenClaim := { program := "ytjkdflcccoeggaa", sum := "755049b20205f9a57ec93c64e460d8643a8e53741d6848c5b8bbe61e1388bdf6", func := "euphroe/euphroelaw20.PppfShort", spec := "pppfShort", apart := false }
def PppfShortSaid : Prop := pppfShortRow.holds Try.pinned (OpenSpec.ofChange pppfShortSpec)

/-- ITS FALSE NEIGHBOUR: 'it returns false'. Refute it at one input. -/
def pppfShortWrong : ChangeSpec := { name := "pppfShort", fn := fun _ => fun
  | [d] => { results := [.lit (.bool false)], args := [d] }
  | _ => none }
def PppfShortWrongFalsely : Prop := pppfShortRow.holds Try.pinned (OpenSpec.ofChange pppfShortWrong)

/-- 'euphroelaw17.AttrLays': WHATEVER THE INPUT: true; the input reads as it did. -/
def attrLaysSpec : ChangeSpec := { name := "attrLays", fn := fun _ => fun
  | [d1, d2] => { results := [.lit (.bool true)], args := [d1, d2] }
  | _ => none }
def attrLaysRow : OpenClaim := { program := "ytjkdflcccoeggaa", sum := "755049b20205f9a57ec93c64e460d8643a8e53741d6848c5b8bbe61e1388bdf6", func := "euphroe/euphroelaw17.AttrLays", spec := "attrLays", apart := false }
def AttrLaysSaid : Prop := attrLaysRow.holds Try.pinned (OpenSpec.ofChange attrLaysSpec)

/-- ITS FALSE NEIGHBOUR: 'it returns false'. Refute it at one input. -/
def attrLaysWrong : ChangeSpec := { name := "attrLays", fn := fun _ => fun
  | [d1, d2] => { results := [.lit (.bool false)], args := [d1, d2] }
  | _ => none }
def AttrLaysWrongFalsely : Prop := attrLaysRow.holds Try.pinned (OpenSpec.ofChange attrLaysWrong)

/-- 'euphroelaw17.AttrMakes': WHATEVER THE INPUT: true; the input reads as it did. -/
def attrMakesSpec : ChangeSpec := { name := "attrMakes", fn := fun _ => fun
  | [d1, d2, d3] => { results := [.lit (.bool true)], args := [d1, d2, d3] }
  | _ => none }
def attrMakesRow : OpenClaim := { program := "ytjkdflcccoeggaa", sum := "755049b20205f9a57ec93c64e460d8643a8e53741d6848c5b8bbe61e1388bdf6", func := "euphroe/euphroelaw17.AttrMakes", spec := "attrMakes", apart := false }
def AttrMakesSaid : Prop := attrMakesRow.holds Try.pinned (OpenSpec.ofChange attrMakesSpec)

/-- ITS FALSE NEIGHBOUR: 'it returns false'. Refute it at one input. -/
def attrMakesWrong : ChangeSpec := { name := "attrMakes", fn := fun _ => fun
  | [d1, d2, d3] => { results := [.lit (.bool false)], args := [d1, d2, d3] }
  | _ => none }
def AttrMakesWrongFalsely : Prop := attrMakesRow.holds Try.pinned (OpenSpec.ofChange attrMakesWrong)

/-- 'euphroelaw17.AttrTakes': WHATEVER THE INPUT: true; the input reads as it did. -/
def attrTakesSpec : ChangeSpec := { name := "attrTakes", fn := fun _ => fun
  | [d] => { results := [.lit (.bool true)], args := [d] }
  | _ => none }
def attrTakesRow : OpenClaim := { program := "ytjkdflcccoeggaa", sum := "755049b20205f9a57ec93c64e460d8643a8e53741d6848c5b8bbe61e1388bdf6", func := "euphroe/euphroelaw17.AttrTakes", spec := "attrTakes", apart := false }
def AttrTakesSaid : Prop := attrTakesRow.holds Try.pinned (OpenSpec.ofChange attrTakesSpec)

/-- ITS FALSE NEIGHBOUR: 'it returns false'. Refute it at one input. -/
def attrTakesWrong : ChangeSpec := { name := "attrTakes", fn := fun _ => fun
  | [d] => { results := [.lit (.bool false)], args := [d] }
  | _ => none }
def AttrTakesWrongFalsely : Prop := attrTakesRow.holds Try.pinned (OpenSpec.ofChange attrTakesWrong)

/- THE SECOND FORM. 'bulk': how many values and letters a reading holds, each counted each time it is reached (what is shared counts as often as it is met; a slice's spare places count too). A statement '..UptoSaid' is the law's where the arguments, and the package variables that the reading takes, are together of bulk at most 1048576: NARROWER than '..Said'. Prove '..Said' where nothing that the law and all that it calls make is longer than what came in: it says more and counts as full. Else prove '..UptoSaid'. A law counts once. -/
mutual
def uptoBulk {H : Type} : DataW H → Nat
  | .lit (.string bytes) => bytes.length + 1
  | .lit _ => 1
  | .nil => 1
  | .ptr d => uptoBulk d + 1
  | .slice elems spare => uptoBulkAll elems + uptoBulkAll spare + 1
  | .agg parts => uptoBulkAll parts + 1
  | .iface _ d => uptoBulk d + 1
  | .map entries => uptoBulkEntries entries + 1
  | .held _ => 1
def uptoBulkAll {H : Type} : List (DataW H) → Nat
  | [] => 0
  | d :: r => uptoBulk d + uptoBulkAll r
def uptoBulkEntries {H : Type} : List (Lit × DataW H) → Nat
  | [] => 0
  | x :: r => uptoBulkEntry x + uptoBulkEntries r
def uptoBulkEntry {H : Type} : Lit × DataW H → Nat
  | (.string bytes, d) => bytes.length + uptoBulk d + 1
  | (_, d) => uptoBulk d + 1
 end
def uptoSmall : (H : Type) → List (DataW H) → Bool := fun _ ds => decide (uptoBulkAll ds ≤ 1048576)
def OpenSpec.upto (s : _root_.Go.ChangeSpec) : _root_.Go.OpenSpec := { _root_.Go.OpenSpec.ofChange s with cond := some uptoSmall }

/-- 'euphroelaw01.OctsHex', WHERE WHAT IT READS IS OF BULK AT MOST 1048576: true; the input reads as it did. -/
def octsHexUptoRow : OpenClaim := { program := "ytjkdflcccoeggaa", sum := "755049b20205f9a57ec93c64e460d8643a8e53741d6848c5b8bbe61e1388bdf6", func := "euphroe/euphroelaw01.OctsHex", spec := "octsHex", inPlace := ["internal/bytealg.IndexByteString"], apart := false, narrowed := true }
def OctsHexUptoSaid : Prop := octsHexUptoRow.holds Try.pinned (OpenSpec.upto octsHexSpec)

/-- 'euphroelaw01.OctsTurns', WHERE WHAT IT READS IS OF BULK AT MOST 1048576: true; the input reads as it did. -/
def octsTurnsUptoRow : OpenClaim := { program := "ytjkdflcccoeggaa", sum := "755049b20205f9a57ec93c64e460d8643a8e53741d6848c5b8bbe61e1388bdf6", func := "euphroe/euphroelaw01.OctsTurns", spec := "octsTurns", apart := false, narrowed := true }
def OctsTurnsUptoSaid : Prop := octsTurnsUptoRow.holds Try.pinned (OpenSpec.upto octsTurnsSpec)

/-- 'euphroelaw01.OctsBack', WHERE WHAT IT READS IS OF BULK AT MOST 1048576: true; the input reads as it did. -/
def octsBackUptoRow : OpenClaim := { program := "ytjkdflcccoeggaa", sum := "755049b20205f9a57ec93c64e460d8643a8e53741d6848c5b8bbe61e1388bdf6", func := "euphroe/euphroelaw01.OctsBack", spec := "octsBack", inPlace := ["internal/bytealg.IndexByteString"], apart := false, narrowed := true }
def OctsBackUptoSaid : Prop := octsBackUptoRow.holds Try.pinned (OpenSpec.upto octsBackSpec)

/-- 'euphroelaw20.PppfLays', WHERE WHAT IT READS IS OF BULK AT MOST 1048576: true; the input reads as it did. -/
def pppfLaysUptoRow : OpenClaim := { program := "ytjkdflcccoeggaa", sum := "755049b20205f9a57ec93c64e460d8643a8e53741d6848c5b8bbe61e1388bdf6", func := "euphroe/euphroelaw20.PppfLays", spec := "pppfLays", apart := false, narrowed := true }
def PppfLaysUptoSaid : Prop := pppfLaysUptoRow.holds Try.pinned (OpenSpec.upto pppfLaysSpec)

/-- 'euphroelaw20.PppfParses', WHERE WHAT IT READS IS OF BULK AT MOST 1048576: true; the input reads as it did. -/
def pppfParsesUptoRow : OpenClaim := { program := "ytjkdflcccoeggaa", sum := "755049b20205f9a57ec93c64e460d8643a8e53741d6848c5b8bbe61e1388bdf6", func := "euphroe/euphroelaw20.PppfParses", spec := "pppfParses", apart := false, narrowed := true }
def PppfParsesUptoSaid : Prop := pppfParsesUptoRow.holds Try.pinned (OpenSpec.upto pppfParsesSpec)

/-- 'euphroelaw20.PppfShort', WHERE WHAT IT READS IS OF BULK AT MOST 1048576: true; the input reads as it did. -/
def pppfShortUptoRow : OpenClaim := { program := "ytjkdflcccoeggaa", sum := "755049b20205f9a57ec93c64e460d8643a8e53741d6848c5b8bbe61e1388bdf6", func := "euphroe/euphroelaw20.PppfShort", spec := "pppfShort", apart := false, narrowed := true }
def PppfShortUptoSaid : Prop := pppfShortUptoRow.holds Try.pinned (OpenSpec.upto pppfShortSpec)

/-- 'euphroelaw17.AttrLays', WHERE WHAT IT READS IS OF BULK AT MOST 1048576: true; the input reads as it did. -/
def attrLaysUptoRow : OpenClaim := { program := "ytjkdflcccoeggaa", sum := "755049b20205f9a57ec93c64e460d8643a8e53741d6848c5b8bbe61e1388bdf6", func := "euphroe/euphroelaw17.AttrLays", spec := "attrLays", apart := false, narrowed := true }
def AttrLaysUptoSaid : Prop := attrLaysUptoRow.holds Try.pinned (OpenSpec.upto attrLaysSpec)

/-- 'euphroelaw17.AttrMakes', WHERE WHAT IT READS IS OF BULK AT MOST 1048576: true; the input reads as it did. -/
def attrMakesUptoRow : OpenClaim := { program := "ytjkdflcccoeggaa", sum := "755049b20205f9a57ec93c64e460d8643a8e53741d6848c5b8bbe61e1388bdf6", func := "euphroe/euphroelaw17.AttrMakes", spec := "attrMakes", apart := false, narrowed := true }
def AttrMakesUptoSaid : Prop := attrMakesUptoRow.holds Try.pinned (OpenSpec.upto attrMakesSpec)

/-- 'euphroelaw17.AttrTakes', WHERE WHAT IT READS IS OF BULK AT MOST 1048576: true; the input reads as it did. -/
def attrTakesUptoRow : OpenClaim := { program := "ytjkdflcccoeggaa", sum := "755049b20205f9a57ec93c64e460d8643a8e53741d6848c5b8bbe61e1388bdf6", func := "euphroe/euphroelaw17.AttrTakes", spec := "attrTakes", apart := false, narrowed := true }
def AttrTakesUptoSaid : Prop := attrTakesUptoRow.holds Try.pinned (OpenSpec.upto attrTakesSpec)

end Rows
end Go.Proofs.Ytjkdflcccoeggaa
