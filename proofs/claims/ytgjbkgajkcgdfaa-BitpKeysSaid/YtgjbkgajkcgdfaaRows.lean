/-
  No cell of these rows narrows 'for every input' (looked for: loops, veiled, ifaces, maps, wideKeys, modest, calm, conditions, laid).
  DERIVED. THE GIVEN ROWS OF THIS SEAT. 8 by the template 'for every input the law returns true; each argument reads behind the call as it read before'; 0 by the template 'total and deterministic' (their statements: YtgjbkgajkcgdfaaTotals.lean).
  GIVEN WITH THE SEED: the statements are not yours to turn. If you find one false, say at which input.
  Laid BY PROGRAM, IN A SANDBOX (cutbox-rows.mjs): the forced cells as the released guide's own fill.sh prints them over the translation df893d467e4bdf23… (all of the seat's roots in one cut). By AI agents, Wed Nov 11 2026. No macro, syntax, notation, axiom, sorry.
-/
import Derived.Test.YtgjbkgajkcgdfaaChecked
import GoSem.Claim
import GoSem.ClaimJoined
import GoSem.ClaimMapViews
import Derived.JoinedTies
import Derived.KernelRfl
namespace Go.Proofs.Ytgjbkgajkcgdfaa
/- THE CELL 'sum', in the pinned program and in every row, IS THE sha256 OF THE DUMP (.gsa) THAT YtgjbkgajkcgdfaaProg.lean LOADS. Nothing in Lean hashes anything: it is a label: what it is worth is what the hold of that sum in a sandbox is worth. -/
noncomputable def Try.pinned : Pinned := { name := "ytgjbkgajkcgdfaa", sum := "df893d467e4bdf2360b3e0cbf9d5cefd0eb7e39ba93e7c9bcfa4520d23fa49d7", checked := Try.checked }
namespace Rows
def none {H : Type} : Left H := { results := [], args := [] }

/-- 'euphroelaw01.OctsPuts': WHATEVER THE INPUT: true; the input reads as it did. -/
def octsPutsSpec : ChangeSpec := { name := "octsPuts", fn := fun _ => fun
  | [d1, d2, d3] => { results := [.lit (.bool true)], args := [d1, d2, d3] }
  | _ => none }
def octsPutsRow : OpenClaim := { program := "ytgjbkgajkcgdfaa", sum := "df893d467e4bdf2360b3e0cbf9d5cefd0eb7e39ba93e7c9bcfa4520d23fa49d7", func := "euphroe/euphroelaw01.OctsPuts", spec := "octsPuts", apart := false }
def OctsPutsSaid : Prop := octsPutsRow.holds Try.pinned (OpenSpec.ofChange octsPutsSpec)

/-- ITS FALSE NEIGHBOUR: 'it returns false'. Refute it at one input. -/
def octsPutsWrong : ChangeSpec := { name := "octsPuts", fn := fun _ => fun
  | [d1, d2, d3] => { results := [.lit (.bool false)], args := [d1, d2, d3] }
  | _ => none }
def OctsPutsWrongFalsely : Prop := octsPutsRow.holds Try.pinned (OpenSpec.ofChange octsPutsWrong)

/-- 'euphroelaw03.BitpOdd': WHATEVER THE INPUT: true; the input reads as it did. -/
def bitpOddSpec : ChangeSpec := { name := "bitpOdd", fn := fun _ => fun
  | [d1, d2] => { results := [.lit (.bool true)], args := [d1, d2] }
  | _ => none }
def bitpOddRow : OpenClaim := { program := "ytgjbkgajkcgdfaa", sum := "df893d467e4bdf2360b3e0cbf9d5cefd0eb7e39ba93e7c9bcfa4520d23fa49d7", func := "euphroe/euphroelaw03.BitpOdd", spec := "bitpOdd", unfollowed := true, recurses := true, apart := false }
def BitpOddSaid : Prop := bitpOddRow.holds Try.pinned (OpenSpec.ofChange bitpOddSpec)

/-- ITS FALSE NEIGHBOUR: 'it returns false'. Refute it at one input. -/
def bitpOddWrong : ChangeSpec := { name := "bitpOdd", fn := fun _ => fun
  | [d1, d2] => { results := [.lit (.bool false)], args := [d1, d2] }
  | _ => none }
def BitpOddWrongFalsely : Prop := bitpOddRow.holds Try.pinned (OpenSpec.ofChange bitpOddWrong)

/-- 'euphroelaw03.BitpWords': WHATEVER THE INPUT: true; the input reads as it did. -/
def bitpWordsSpec : ChangeSpec := { name := "bitpWords", fn := fun _ => fun
  | [d1, d2, d3] => { results := [.lit (.bool true)], args := [d1, d2, d3] }
  | _ => none }
def bitpWordsRow : OpenClaim := { program := "ytgjbkgajkcgdfaa", sum := "df893d467e4bdf2360b3e0cbf9d5cefd0eb7e39ba93e7c9bcfa4520d23fa49d7", func := "euphroe/euphroelaw03.BitpWords", spec := "bitpWords", unfollowed := true, recurses := true, apart := false }
def BitpWordsSaid : Prop := bitpWordsRow.holds Try.pinned (OpenSpec.ofChange bitpWordsSpec)

/-- ITS FALSE NEIGHBOUR: 'it returns false'. Refute it at one input. -/
def bitpWordsWrong : ChangeSpec := { name := "bitpWords", fn := fun _ => fun
  | [d1, d2, d3] => { results := [.lit (.bool false)], args := [d1, d2, d3] }
  | _ => none }
def BitpWordsWrongFalsely : Prop := bitpWordsRow.holds Try.pinned (OpenSpec.ofChange bitpWordsWrong)

/-- 'euphroelaw03.BitpTurns': WHATEVER THE INPUT: true; the input reads as it did. -/
def bitpTurnsSpec : ChangeSpec := { name := "bitpTurns", fn := fun _ => fun
  | [d1, d2, d3] => { results := [.lit (.bool true)], args := [d1, d2, d3] }
  | _ => none }
def bitpTurnsRow : OpenClaim := { program := "ytgjbkgajkcgdfaa", sum := "df893d467e4bdf2360b3e0cbf9d5cefd0eb7e39ba93e7c9bcfa4520d23fa49d7", func := "euphroe/euphroelaw03.BitpTurns", spec := "bitpTurns", unfollowed := true, recurses := true, apart := false }
def BitpTurnsSaid : Prop := bitpTurnsRow.holds Try.pinned (OpenSpec.ofChange bitpTurnsSpec)

/-- ITS FALSE NEIGHBOUR: 'it returns false'. Refute it at one input. -/
def bitpTurnsWrong : ChangeSpec := { name := "bitpTurns", fn := fun _ => fun
  | [d1, d2, d3] => { results := [.lit (.bool false)], args := [d1, d2, d3] }
  | _ => none }
def BitpTurnsWrongFalsely : Prop := bitpTurnsRow.holds Try.pinned (OpenSpec.ofChange bitpTurnsWrong)

/-- 'euphroelaw03.BitpKeys': WHATEVER THE INPUT: true; the input reads as it did. -/
def bitpKeysSpec : ChangeSpec := { name := "bitpKeys", fn := fun _ => fun
  | [d1, d2] => { results := [.lit (.bool true)], args := [d1, d2] }
  | _ => none }
def bitpKeysRow : OpenClaim := { program := "ytgjbkgajkcgdfaa", sum := "df893d467e4bdf2360b3e0cbf9d5cefd0eb7e39ba93e7c9bcfa4520d23fa49d7", func := "euphroe/euphroelaw03.BitpKeys", spec := "bitpKeys", unfollowed := true, recurses := true, apart := false }
def BitpKeysSaid : Prop := bitpKeysRow.holds Try.pinned (OpenSpec.ofChange bitpKeysSpec)

/-- ITS FALSE NEIGHBOUR: 'it returns false'. Refute it at one input. -/
def bitpKeysWrong : ChangeSpec := { name := "bitpKeys", fn := fun _ => fun
  | [d1, d2] => { results := [.lit (.bool false)], args := [d1, d2] }
  | _ => none }
def BitpKeysWrongFalsely : Prop := bitpKeysRow.holds Try.pinned (OpenSpec.ofChange bitpKeysWrong)

/-- 'euphroelaw01.OctsHex': WHATEVER THE INPUT: true; the input reads as it did. -/
def octsHexSpec : ChangeSpec := { name := "octsHex", fn := fun _ => fun
  | [d1, d2] => { results := [.lit (.bool true)], args := [d1, d2] }
  | _ => none }
def octsHexRow : OpenClaim := { program := "ytgjbkgajkcgdfaa", sum := "df893d467e4bdf2360b3e0cbf9d5cefd0eb7e39ba93e7c9bcfa4520d23fa49d7", func := "euphroe/euphroelaw01.OctsHex", spec := "octsHex", inPlace := ["internal/bytealg.IndexByteString"], apart := false }
def OctsHexSaid : Prop := octsHexRow.holds Try.pinned (OpenSpec.ofChange octsHexSpec)

/-- ITS FALSE NEIGHBOUR: 'it returns false'. Refute it at one input. -/
def octsHexWrong : ChangeSpec := { name := "octsHex", fn := fun _ => fun
  | [d1, d2] => { results := [.lit (.bool false)], args := [d1, d2] }
  | _ => none }
def OctsHexWrongFalsely : Prop := octsHexRow.holds Try.pinned (OpenSpec.ofChange octsHexWrong)

/-- 'euphroelaw01.OctsTurns': WHATEVER THE INPUT: true; the input reads as it did. -/
def octsTurnsSpec : ChangeSpec := { name := "octsTurns", fn := fun _ => fun
  | [d1, d2] => { results := [.lit (.bool true)], args := [d1, d2] }
  | _ => none }
def octsTurnsRow : OpenClaim := { program := "ytgjbkgajkcgdfaa", sum := "df893d467e4bdf2360b3e0cbf9d5cefd0eb7e39ba93e7c9bcfa4520d23fa49d7", func := "euphroe/euphroelaw01.OctsTurns", spec := "octsTurns", apart := false }
def OctsTurnsSaid : Prop := octsTurnsRow.holds Try.pinned (OpenSpec.ofChange octsTurnsSpec)

/-- ITS FALSE NEIGHBOUR: 'it returns false'. Refute it at one input. -/
def octsTurnsWrong : ChangeSpec := { name := "octsTurns", fn := fun _ => fun
  | [d1, d2] => { results := [.lit (.bool false)], args := [d1, d2] }
  | _ => none }
def OctsTurnsWrongFalsely : Prop := octsTurnsRow.holds Try.pinned (OpenSpec.ofChange octsTurnsWrong)

/-- 'euphroelaw01.OctsBack': WHATEVER THE INPUT: true; the input reads as it did. -/
def octsBackSpec : ChangeSpec := { name := "octsBack", fn := fun _ => fun
  | [d1, d2, d3] => { results := [.lit (.bool true)], args := [d1, d2, d3] }
  | _ => none }
def octsBackRow : OpenClaim := { program := "ytgjbkgajkcgdfaa", sum := "df893d467e4bdf2360b3e0cbf9d5cefd0eb7e39ba93e7c9bcfa4520d23fa49d7", func := "euphroe/euphroelaw01.OctsBack", spec := "octsBack", inPlace := ["internal/bytealg.IndexByteString"], apart := false }
def OctsBackSaid : Prop := octsBackRow.holds Try.pinned (OpenSpec.ofChange octsBackSpec)

/-- ITS FALSE NEIGHBOUR: 'it returns false'. Refute it at one input. -/
def octsBackWrong : ChangeSpec := { name := "octsBack", fn := fun _ => fun
  | [d1, d2, d3] => { results := [.lit (.bool false)], args := [d1, d2, d3] }
  | _ => none }
def OctsBackWrongFalsely : Prop := octsBackRow.holds Try.pinned (OpenSpec.ofChange octsBackWrong)

/- THE SECOND FORM. 'bulk': how many values and letters a reading holds, each counted each time it is reached (what is shared counts as often as it is met; a slice's spare places count too). A statement '..UptoSaid' is the law's where the arguments, and the package variables that the reading takes, are together of bulk at most 1048576: NARROWER than '..Said'. Prove '..Said' where nothing that the law and all that it calls make is longer than what came in: it says more and counts as full. Else prove '..UptoSaid'. A law counts once. -/
mutual
def uptoBulk {H : Type} : DataW H → Nat
  | .lit (.string bytes) => bytes.length + 1
  | .lit _ => 1
  | .nil => 1
  | .ptr d => uptoBulk d + 1
  | .slice elems spare => uptoBulkAll elems + uptoBulkAll spare + 1
  | .agg parts => uptoBulkAll parts + 1
  | .iface _ d => uptoBulk d + 1
  | .map entries => uptoBulkEntries entries + 1
  | .held _ => 1
def uptoBulkAll {H : Type} : List (DataW H) → Nat
  | [] => 0
  | d :: r => uptoBulk d + uptoBulkAll r
def uptoBulkEntries {H : Type} : List (Lit × DataW H) → Nat
  | [] => 0
  | x :: r => uptoBulkEntry x + uptoBulkEntries r
def uptoBulkEntry {H : Type} : Lit × DataW H → Nat
  | (.string bytes, d) => bytes.length + uptoBulk d + 1
  | (_, d) => uptoBulk d + 1
 end
def uptoSmall : (H : Type) → List (DataW H) → Bool := fun _ ds => decide (uptoBulkAll ds ≤ 1048576)
def OpenSpec.upto (s : _root_.Go.ChangeSpec) : _root_.Go.OpenSpec := { _root_.Go.OpenSpec.ofChange s with cond := some uptoSmall }

/-- 'euphroelaw01.OctsPuts', WHERE WHAT IT READS IS OF BULK AT MOST 1048576: true; the input reads as it did. -/
def octsPutsUptoRow : OpenClaim := { program := "ytgjbkgajkcgdfaa", sum := "df893d467e4bdf2360b3e0cbf9d5cefd0eb7e39ba93e7c9bcfa4520d23fa49d7", func := "euphroe/euphroelaw01.OctsPuts", spec := "octsPuts", apart := false, narrowed := true }
def OctsPutsUptoSaid : Prop := octsPutsUptoRow.holds Try.pinned (OpenSpec.upto octsPutsSpec)

/-- 'euphroelaw03.BitpOdd', WHERE WHAT IT READS IS OF BULK AT MOST 1048576: true; the input reads as it did. -/
def bitpOddUptoRow : OpenClaim := { program := "ytgjbkgajkcgdfaa", sum := "df893d467e4bdf2360b3e0cbf9d5cefd0eb7e39ba93e7c9bcfa4520d23fa49d7", func := "euphroe/euphroelaw03.BitpOdd", spec := "bitpOdd", unfollowed := true, recurses := true, apart := false, narrowed := true }
def BitpOddUptoSaid : Prop := bitpOddUptoRow.holds Try.pinned (OpenSpec.upto bitpOddSpec)

/-- 'euphroelaw03.BitpWords', WHERE WHAT IT READS IS OF BULK AT MOST 1048576: true; the input reads as it did. -/
def bitpWordsUptoRow : OpenClaim := { program := "ytgjbkgajkcgdfaa", sum := "df893d467e4bdf2360b3e0cbf9d5cefd0eb7e39ba93e7c9bcfa4520d23fa49d7", func := "euphroe/euphroelaw03.BitpWords", spec := "bitpWords", unfollowed := true, recurses := true, apart := false, narrowed := true }
def BitpWordsUptoSaid : Prop := bitpWordsUptoRow.holds Try.pinned (OpenSpec.upto bitpWordsSpec)

/-- 'euphroelaw03.BitpTurns', WHERE WHAT IT READS IS OF BULK AT MOST 1048576: true; the input reads as it did. -/
def bitpTurnsUptoRow : OpenClaim := { program := "ytgjbkgajkcgdfaa", sum := "df893d467e4bdf2360b3e0cbf9d5cefd0eb7e39ba93e7c9bcfa4520d23fa49d7", func := "euphroe/euphroelaw03.BitpTurns", spec := "bitpTurns", unfollowed := true, recurses := true, apart := false, narrowed := true }
def BitpTurnsUptoSaid : Prop := bitpTurnsUptoRow.holds Try.pinned (OpenSpec.upto bitpTurnsSpec)

/-- 'euphroelaw03.BitpKeys', WHERE WHAT IT READS IS OF BULK AT MOST 1048576: true; the input reads as it did. -/
def bitpKeysUptoRow : OpenClaim := { program := "ytgjbkgajkcgdfaa", sum := "df893d467e4bdf2360b3e0cbf9d5cefd0eb7e39ba93e7c9bcfa4520d23fa49d7", func := "euphroe/euphroelaw03.BitpKeys", spec := "bitpKeys", unfollowed := true, recurses := true, apart := false, narrowed := true }
def BitpKeysUptoSaid : Prop := bitpKeysUptoRow.holds Try.pinned (OpenSpec.upto bitpKeysSpec)

/-- 'euphroelaw01.OctsHex', WHERE WHAT IT READS IS OF BULK AT MOST 1048576: true; the input reads as it did. -/
def octsHexUptoRow : OpenClaim := { program := "ytgjbkgajkcgdfaa", sum := "df893d467e4bdf2360b3e0cbf9d5cefd0eb7e39ba93e7c9bcfa4520d23fa49d7", func := "euphroe/euphroelaw01.OctsHex", spec := "octsHex", inPlace := ["internal/bytealg.IndexByteString"], apart := false, narrowed := true }
def OctsHexUptoSaid : Prop := octsHexUptoRow.holds Try.pinned (OpenSpec.upto octsHexSpec)

/-- 'euphroelaw01.OctsTurns', WHERE WHAT IT READS IS OF BULK AT MOST 1048576: true; the input reads as it did. -/
def octsTurnsUptoRow : OpenClaim := { program := "ytgjbkgajkcgdfaa", sum := "df893d467e4bdf2360b3e0cbf9d5cefd0eb7e39ba93e7c9bcfa4520d23fa49d7", func := "euphroe/euphroelaw01.OctsTurns", spec := "octsTurns", apart := false, narrowed := true }
def OctsTurnsUptoSaid : Prop := octsTurnsUptoRow.holds Try.pinned (OpenSpec.upto octsTurnsSpec)

/-- 'euphroelaw01.OctsBack', WHERE WHAT IT READS IS OF BULK AT MOST 1048576: true; the input reads as it did. -/
def octsBackUptoRow : OpenClaim := { program := "ytgjbkgajkcgdfaa", sum := "df893d467e4bdf2360b3e0cbf9d5cefd0eb7e39ba93e7c9bcfa4520d23fa49d7", func := "euphroe/euphroelaw01.OctsBack", spec := "octsBack", inPlace := ["internal/bytealg.IndexByteString"], apart := false, narrowed := true }
def OctsBackUptoSaid : Prop := octsBackUptoRow.holds Try.pinned (OpenSpec.upto octsBackSpec)

end Rows
end Go.Proofs.Ytgjbkgajkcgdfaa
