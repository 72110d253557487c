/-
  No cell of these rows narrows 'for every input' (looked for: loops, veiled, ifaces, maps, wideKeys, modest, calm, conditions, laid).
  DERIVED. THE GIVEN ROWS OF THIS SEAT. 5 by the template 'for every input the law returns true; each argument reads behind the call as it read before'; 0 by the template 'total and deterministic' (their statements: YtciafmcbccgggaaTotals.lean).
  GIVEN WITH THE SEED: the statements are not yours to turn. If you find one false, say at which input.
  Laid BY PROGRAM, IN A SANDBOX (cutbox-rows.mjs): the forced cells as the released guide's own fill.sh prints them over the translation 101154d229fec5f5… (all of the seat's roots in one cut). By AI agents, Wed Nov 11 2026. No macro, syntax, notation, axiom, sorry.
-/
import Derived.Test.YtciafmcbccgggaaChecked
import GoSem.Claim
import GoSem.ClaimJoined
import GoSem.ClaimMapViews
import Derived.JoinedTies
import Derived.KernelRfl
namespace Go.Proofs.Ytciafmcbccgggaa
/- THE CELL 'sum', in the pinned program and in every row, IS THE sha256 OF THE DUMP (.gsa) THAT YtciafmcbccgggaaProg.lean LOADS. Nothing in Lean hashes anything: it is a label: what it is worth is what the hold of that sum in a sandbox is worth. -/
noncomputable def Try.pinned : Pinned := { name := "ytciafmcbccgggaa", sum := "101154d229fec5f598d482691c9e55e040a956e63cdf54be9ab129ad3ca2b100", checked := Try.checked }
namespace Rows
def none {H : Type} : Left H := { results := [], args := [] }

/-- 'euphroelaw13.PrfDerives': WHATEVER THE INPUT: true; the input reads as it did. -/
def prfDerivesSpec : ChangeSpec := { name := "prfDerives", fn := fun _ => fun
  | [d1, d2, d3] => { results := [.lit (.bool true)], args := [d1, d2, d3] }
  | _ => none }
def prfDerivesRow : OpenClaim := { program := "ytciafmcbccgggaa", sum := "101154d229fec5f598d482691c9e55e040a956e63cdf54be9ab129ad3ca2b100", func := "euphroe/euphroelaw13.PrfDerives", spec := "prfDerives", unfollowed := true, recurses := true, apart := false }
def PrfDerivesSaid : Prop := prfDerivesRow.holds Try.pinned (OpenSpec.ofChange prfDerivesSpec)

/-- ITS FALSE NEIGHBOUR: 'it returns false'. Refute it at one input. -/
def prfDerivesWrong : ChangeSpec := { name := "prfDerives", fn := fun _ => fun
  | [d1, d2, d3] => { results := [.lit (.bool false)], args := [d1, d2, d3] }
  | _ => none }
def PrfDerivesWrongFalsely : Prop := prfDerivesRow.holds Try.pinned (OpenSpec.ofChange prfDerivesWrong)

/-- 'euphroelaw13.PrfBinds': WHATEVER THE INPUT: true; the input reads as it did. -/
def prfBindsSpec : ChangeSpec := { name := "prfBinds", fn := fun _ => fun
  | [d1, d2, d3] => { results := [.lit (.bool true)], args := [d1, d2, d3] }
  | _ => none }
def prfBindsRow : OpenClaim := { program := "ytciafmcbccgggaa", sum := "101154d229fec5f598d482691c9e55e040a956e63cdf54be9ab129ad3ca2b100", func := "euphroe/euphroelaw13.PrfBinds", spec := "prfBinds", unfollowed := true, recurses := true, apart := false }
def PrfBindsSaid : Prop := prfBindsRow.holds Try.pinned (OpenSpec.ofChange prfBindsSpec)

/-- ITS FALSE NEIGHBOUR: 'it returns false'. Refute it at one input. -/
def prfBindsWrong : ChangeSpec := { name := "prfBinds", fn := fun _ => fun
  | [d1, d2, d3] => { results := [.lit (.bool false)], args := [d1, d2, d3] }
  | _ => none }
def PrfBindsWrongFalsely : Prop := prfBindsRow.holds Try.pinned (OpenSpec.ofChange prfBindsWrong)

/-- 'euphroelaw13.PrfLong': WHATEVER THE INPUT: true; the input reads as it did. -/
def prfLongSpec : ChangeSpec := { name := "prfLong", fn := fun _ => fun
  | [d1, d2, d3] => { results := [.lit (.bool true)], args := [d1, d2, d3] }
  | _ => none }
def prfLongRow : OpenClaim := { program := "ytciafmcbccgggaa", sum := "101154d229fec5f598d482691c9e55e040a956e63cdf54be9ab129ad3ca2b100", func := "euphroe/euphroelaw13.PrfLong", spec := "prfLong", unfollowed := true, recurses := true, apart := false }
def PrfLongSaid : Prop := prfLongRow.holds Try.pinned (OpenSpec.ofChange prfLongSpec)

/-- ITS FALSE NEIGHBOUR: 'it returns false'. Refute it at one input. -/
def prfLongWrong : ChangeSpec := { name := "prfLong", fn := fun _ => fun
  | [d1, d2, d3] => { results := [.lit (.bool false)], args := [d1, d2, d3] }
  | _ => none }
def PrfLongWrongFalsely : Prop := prfLongRow.holds Try.pinned (OpenSpec.ofChange prfLongWrong)

/-- 'euphroelaw34.BindOwn': WHATEVER THE INPUT: true; the input reads as it did. -/
def bindOwnSpec : ChangeSpec := { name := "bindOwn", fn := fun _ => fun
  | [d1, d2] => { results := [.lit (.bool true)], args := [d1, d2] }
  | _ => none }
def bindOwnRow : OpenClaim := { program := "ytciafmcbccgggaa", sum := "101154d229fec5f598d482691c9e55e040a956e63cdf54be9ab129ad3ca2b100", func := "euphroe/euphroelaw34.BindOwn", spec := "bindOwn", unfollowed := true, recurses := true, apart := false }
def BindOwnSaid : Prop := bindOwnRow.holds Try.pinned (OpenSpec.ofChange bindOwnSpec)

/-- ITS FALSE NEIGHBOUR: 'it returns false'. Refute it at one input. -/
def bindOwnWrong : ChangeSpec := { name := "bindOwn", fn := fun _ => fun
  | [d1, d2] => { results := [.lit (.bool false)], args := [d1, d2] }
  | _ => none }
def BindOwnWrongFalsely : Prop := bindOwnRow.holds Try.pinned (OpenSpec.ofChange bindOwnWrong)

/-- 'euphroelaw34.BindMakes': WHATEVER THE INPUT: true; the input reads as it did. -/
def bindMakesSpec : ChangeSpec := { name := "bindMakes", fn := fun _ => fun
  | [d] => { results := [.lit (.bool true)], args := [d] }
  | _ => none }
def bindMakesRow : OpenClaim := { program := "ytciafmcbccgggaa", sum := "101154d229fec5f598d482691c9e55e040a956e63cdf54be9ab129ad3ca2b100", func := "euphroe/euphroelaw34.BindMakes", spec := "bindMakes", unfollowed := true, recurses := true, apart := false }
def BindMakesSaid : Prop := bindMakesRow.holds Try.pinned (OpenSpec.ofChange bindMakesSpec)

/-- ITS FALSE NEIGHBOUR: 'it returns false'. Refute it at one input. -/
def bindMakesWrong : ChangeSpec := { name := "bindMakes", fn := fun _ => fun
  | [d] => { results := [.lit (.bool false)], args := [d] }
  | _ => none }
def BindMakesWrongFalsely : Prop := bindMakesRow.holds Try.pinned (OpenSpec.ofChange bindMakesWrong)

/- THE SECOND FORM. 'bulk': how many values and letters a reading holds, each counted each time it is reached (what is shared counts as often as it is met; a slice's spare places count too). A statement '..UptoSaid' is the law's where the arguments, and the package variables that the reading takes, are together of bulk at most 1048576: NARROWER than '..Said'. Prove '..Said' where nothing that the law and all that it calls make is longer than what came in: it says more and counts as full. Else prove '..UptoSaid'. A law counts once. -/
mutual
def uptoBulk {H : Type} : DataW H → Nat
  | .lit (.string bytes) => bytes.length + 1
  | .lit _ => 1
  | .nil => 1
  | .ptr d => uptoBulk d + 1
  | .slice elems spare => uptoBulkAll elems + uptoBulkAll spare + 1
  | .agg parts => uptoBulkAll parts + 1
  | .iface _ d => uptoBulk d + 1
  | .map entries => uptoBulkEntries entries + 1
  | .held _ => 1
def uptoBulkAll {H : Type} : List (DataW H) → Nat
  | [] => 0
  | d :: r => uptoBulk d + uptoBulkAll r
def uptoBulkEntries {H : Type} : List (Lit × DataW H) → Nat
  | [] => 0
  | x :: r => uptoBulkEntry x + uptoBulkEntries r
def uptoBulkEntry {H : Type} : Lit × DataW H → Nat
  | (.string bytes, d) => bytes.length + uptoBulk d + 1
  | (_, d) => uptoBulk d + 1
 end
def uptoSmall : (H : Type) → List (DataW H) → Bool := fun _ ds => decide (uptoBulkAll ds ≤ 1048576)
def OpenSpec.upto (s : _root_.Go.ChangeSpec) : _root_.Go.OpenSpec := { _root_.Go.OpenSpec.ofChange s with cond := some uptoSmall }

/-- 'euphroelaw13.PrfDerives', WHERE WHAT IT READS IS OF BULK AT MOST 1048576: true; the input reads as it did. -/
def prfDerivesUptoRow : OpenClaim := { program := "ytciafmcbccgggaa", sum := "101154d229fec5f598d482691c9e55e040a956e63cdf54be9ab129ad3ca2b100", func := "euphroe/euphroelaw13.PrfDerives", spec := "prfDerives", unfollowed := true, recurses := true, apart := false, narrowed := true }
def PrfDerivesUptoSaid : Prop := prfDerivesUptoRow.holds Try.pinned (OpenSpec.upto prfDerivesSpec)

/-- 'euphroelaw13.PrfBinds', WHERE WHAT IT READS IS OF BULK AT MOST 1048576: true; the input reads as it did. -/
def prfBindsUptoRow : OpenClaim := { program := "ytciafmcbccgggaa", sum := "101154d229fec5f598d482691c9e55e040a956e63cdf54be9ab129ad3ca2b100", func := "euphroe/euphroelaw13.PrfBinds", spec := "prfBinds", unfollowed := true, recurses := true, apart := false, narrowed := true }
def PrfBindsUptoSaid : Prop := prfBindsUptoRow.holds Try.pinned (OpenSpec.upto prfBindsSpec)

/-- 'euphroelaw13.PrfLong', WHERE WHAT IT READS IS OF BULK AT MOST 1048576: true; the input reads as it did. -/
def prfLongUptoRow : OpenClaim := { program := "ytciafmcbccgggaa", sum := "101154d229fec5f598d482691c9e55e040a956e63cdf54be9ab129ad3ca2b100", func := "euphroe/euphroelaw13.PrfLong", spec := "prfLong", unfollowed := true, recurses := true, apart := false, narrowed := true }
def PrfLongUptoSaid : Prop := prfLongUptoRow.holds Try.pinned (OpenSpec.upto prfLongSpec)

/-- 'euphroelaw34.BindOwn', WHERE WHAT IT READS IS OF BULK AT MOST 1048576: true; the input reads as it did. -/
def bindOwnUptoRow : OpenClaim := { program := "ytciafmcbccgggaa", sum := "101154d229fec5f598d482691c9e55e040a956e63cdf54be9ab129ad3ca2b100", func := "euphroe/euphroelaw34.BindOwn", spec := "bindOwn", unfollowed := true, recurses := true, apart := false, narrowed := true }
def BindOwnUptoSaid : Prop := bindOwnUptoRow.holds Try.pinned (OpenSpec.upto bindOwnSpec)

/-- 'euphroelaw34.BindMakes', WHERE WHAT IT READS IS OF BULK AT MOST 1048576: true; the input reads as it did. -/
def bindMakesUptoRow : OpenClaim := { program := "ytciafmcbccgggaa", sum := "101154d229fec5f598d482691c9e55e040a956e63cdf54be9ab129ad3ca2b100", func := "euphroe/euphroelaw34.BindMakes", spec := "bindMakes", unfollowed := true, recurses := true, apart := false, narrowed := true }
def BindMakesUptoSaid : Prop := bindMakesUptoRow.holds Try.pinned (OpenSpec.upto bindMakesSpec)

end Rows
end Go.Proofs.Ytciafmcbccgggaa
