/-
  No cell of these rows narrows 'for every input' (looked for: loops, veiled, ifaces, maps, wideKeys, modest, calm, conditions, laid).
  DERIVED. THE GIVEN ROWS OF THIS SEAT. 4 by the template 'for every input the law returns true; each argument reads behind the call as it read before'; 0 by the template 'total and deterministic' (their statements: YtcnkihdjenjdgaaTotals.lean).
  GIVEN WITH THE SEED: the statements are not yours to turn. If you find one false, say at which input.
  Laid BY PROGRAM, IN A SANDBOX (cutbox-rows.mjs): the forced cells as the released guide's own fill.sh prints them over the translation 6a23fa4cebc259c9… (all of the seat's roots in one cut). By AI agents, Wed Nov 11 2026. No macro, syntax, notation, axiom, sorry.
-/
import Derived.Test.YtcnkihdjenjdgaaChecked
import GoSem.Claim
import GoSem.ClaimJoined
import GoSem.ClaimMapViews
import Derived.JoinedTies
import Derived.KernelRfl
namespace Go.Proofs.Ytcnkihdjenjdgaa
/- THE CELL 'sum', in the pinned program and in every row, IS THE sha256 OF THE DUMP (.gsa) THAT YtcnkihdjenjdgaaProg.lean LOADS. Nothing in Lean hashes anything: it is a label: what it is worth is what the hold of that sum in a sandbox is worth. -/
noncomputable def Try.pinned : Pinned := { name := "ytcnkihdjenjdgaa", sum := "6a23fa4cebc259c96a01259f8ebeb68107583b76beb6c8bf1bc4aa06ce33e507", checked := Try.checked }
namespace Rows
def none {H : Type} : Left H := { results := [], args := [] }

/-- 'euphroelaw38.ChansOrder': WHATEVER THE INPUT: true; the input reads as it did. -/
def chansOrderSpec : ChangeSpec := { name := "chansOrder", fn := fun _ => fun
  | [d1, d2] => { results := [.lit (.bool true)], args := [d1, d2] }
  | _ => none }
def chansOrderRow : OpenClaim := { program := "ytcnkihdjenjdgaa", sum := "6a23fa4cebc259c96a01259f8ebeb68107583b76beb6c8bf1bc4aa06ce33e507", func := "euphroe/euphroelaw38.ChansOrder", spec := "chansOrder", apart := false }
def ChansOrderSaid : Prop := chansOrderRow.holds Try.pinned (OpenSpec.ofChange chansOrderSpec)

/-- ITS FALSE NEIGHBOUR: 'it returns false'. Refute it at one input. -/
def chansOrderWrong : ChangeSpec := { name := "chansOrder", fn := fun _ => fun
  | [d1, d2] => { results := [.lit (.bool false)], args := [d1, d2] }
  | _ => none }
def ChansOrderWrongFalsely : Prop := chansOrderRow.holds Try.pinned (OpenSpec.ofChange chansOrderWrong)

/-- 'euphroelaw38.ChansRelays': WHATEVER THE INPUT: true; the input reads as it did. -/
def chansRelaysSpec : ChangeSpec := { name := "chansRelays", fn := fun _ => fun
  | [d1, d2, d3] => { results := [.lit (.bool true)], args := [d1, d2, d3] }
  | _ => none }
def chansRelaysRow : OpenClaim := { program := "ytcnkihdjenjdgaa", sum := "6a23fa4cebc259c96a01259f8ebeb68107583b76beb6c8bf1bc4aa06ce33e507", func := "euphroe/euphroelaw38.ChansRelays", spec := "chansRelays", apart := false }
def ChansRelaysSaid : Prop := chansRelaysRow.holds Try.pinned (OpenSpec.ofChange chansRelaysSpec)

/-- ITS FALSE NEIGHBOUR: 'it returns false'. Refute it at one input. -/
def chansRelaysWrong : ChangeSpec := { name := "chansRelays", fn := fun _ => fun
  | [d1, d2, d3] => { results := [.lit (.bool false)], args := [d1, d2, d3] }
  | _ => none }
def ChansRelaysWrongFalsely : Prop := chansRelaysRow.holds Try.pinned (OpenSpec.ofChange chansRelaysWrong)

/-- 'euphroelaw38.ChansPlay': WHATEVER THE INPUT: true; the input reads as it did. -/
def chansPlaySpec : ChangeSpec := { name := "chansPlay", fn := fun _ => fun
  | [d] => { results := [.lit (.bool true)], args := [d] }
  | _ => none }
def chansPlayRow : OpenClaim := { program := "ytcnkihdjenjdgaa", sum := "6a23fa4cebc259c96a01259f8ebeb68107583b76beb6c8bf1bc4aa06ce33e507", func := "euphroe/euphroelaw38.ChansPlay", spec := "chansPlay", apart := false }
def ChansPlaySaid : Prop := chansPlayRow.holds Try.pinned (OpenSpec.ofChange chansPlaySpec)

/-- ITS FALSE NEIGHBOUR: 'it returns false'. Refute it at one input. -/
def chansPlayWrong : ChangeSpec := { name := "chansPlay", fn := fun _ => fun
  | [d] => { results := [.lit (.bool false)], args := [d] }
  | _ => none }
def ChansPlayWrongFalsely : Prop := chansPlayRow.holds Try.pinned (OpenSpec.ofChange chansPlayWrong)

/-- 'euphroelaw38.ChansNobody': WHATEVER THE INPUT: true; the input reads as it did. -/
def chansNobodySpec : ChangeSpec := { name := "chansNobody", fn := fun _ => fun
  | [d1, d2, d3] => { results := [.lit (.bool true)], args := [d1, d2, d3] }
  | _ => none }
def chansNobodyRow : OpenClaim := { program := "ytcnkihdjenjdgaa", sum := "6a23fa4cebc259c96a01259f8ebeb68107583b76beb6c8bf1bc4aa06ce33e507", func := "euphroe/euphroelaw38.ChansNobody", spec := "chansNobody", apart := false }
def ChansNobodySaid : Prop := chansNobodyRow.holds Try.pinned (OpenSpec.ofChange chansNobodySpec)

/-- ITS FALSE NEIGHBOUR: 'it returns false'. Refute it at one input. -/
def chansNobodyWrong : ChangeSpec := { name := "chansNobody", fn := fun _ => fun
  | [d1, d2, d3] => { results := [.lit (.bool false)], args := [d1, d2, d3] }
  | _ => none }
def ChansNobodyWrongFalsely : Prop := chansNobodyRow.holds Try.pinned (OpenSpec.ofChange chansNobodyWrong)

/- THE SECOND FORM. 'bulk': how many values and letters a reading holds, each counted each time it is reached (what is shared counts as often as it is met; a slice's spare places count too). A statement '..UptoSaid' is the law's where the arguments, and the package variables that the reading takes, are together of bulk at most 1048576: NARROWER than '..Said'. Prove '..Said' where nothing that the law and all that it calls make is longer than what came in: it says more and counts as full. Else prove '..UptoSaid'. A law counts once. -/
mutual
def uptoBulk {H : Type} : DataW H → Nat
  | .lit (.string bytes) => bytes.length + 1
  | .lit _ => 1
  | .nil => 1
  | .ptr d => uptoBulk d + 1
  | .slice elems spare => uptoBulkAll elems + uptoBulkAll spare + 1
  | .agg parts => uptoBulkAll parts + 1
  | .iface _ d => uptoBulk d + 1
  | .map entries => uptoBulkEntries entries + 1
  | .held _ => 1
def uptoBulkAll {H : Type} : List (DataW H) → Nat
  | [] => 0
  | d :: r => uptoBulk d + uptoBulkAll r
def uptoBulkEntries {H : Type} : List (Lit × DataW H) → Nat
  | [] => 0
  | x :: r => uptoBulkEntry x + uptoBulkEntries r
def uptoBulkEntry {H : Type} : Lit × DataW H → Nat
  | (.string bytes, d) => bytes.length + uptoBulk d + 1
  | (_, d) => uptoBulk d + 1
 end
def uptoSmall : (H : Type) → List (DataW H) → Bool := fun _ ds => decide (uptoBulkAll ds ≤ 1048576)
def OpenSpec.upto (s : _root_.Go.ChangeSpec) : _root_.Go.OpenSpec := { _root_.Go.OpenSpec.ofChange s with cond := some uptoSmall }

/-- 'euphroelaw38.ChansOrder', WHERE WHAT IT READS IS OF BULK AT MOST 1048576: true; the input reads as it did. -/
def chansOrderUptoRow : OpenClaim := { program := "ytcnkihdjenjdgaa", sum := "6a23fa4cebc259c96a01259f8ebeb68107583b76beb6c8bf1bc4aa06ce33e507", func := "euphroe/euphroelaw38.ChansOrder", spec := "chansOrder", apart := false, narrowed := true }
def ChansOrderUptoSaid : Prop := chansOrderUptoRow.holds Try.pinned (OpenSpec.upto chansOrderSpec)

/-- 'euphroelaw38.ChansRelays', WHERE WHAT IT READS IS OF BULK AT MOST 1048576: true; the input reads as it did. -/
def chansRelaysUptoRow : OpenClaim := { program := "ytcnkihdjenjdgaa", sum := "6a23fa4cebc259c96a01259f8ebeb68107583b76beb6c8bf1bc4aa06ce33e507", func := "euphroe/euphroelaw38.ChansRelays", spec := "chansRelays", apart := false, narrowed := true }
def ChansRelaysUptoSaid : Prop := chansRelaysUptoRow.holds Try.pinned (OpenSpec.upto chansRelaysSpec)

/-- 'euphroelaw38.ChansPlay', WHERE WHAT IT READS IS OF BULK AT MOST 1048576: true; the input reads as it did. -/
def chansPlayUptoRow : OpenClaim := { program := "ytcnkihdjenjdgaa", sum := "6a23fa4cebc259c96a01259f8ebeb68107583b76beb6c8bf1bc4aa06ce33e507", func := "euphroe/euphroelaw38.ChansPlay", spec := "chansPlay", apart := false, narrowed := true }
def ChansPlayUptoSaid : Prop := chansPlayUptoRow.holds Try.pinned (OpenSpec.upto chansPlaySpec)

/-- 'euphroelaw38.ChansNobody', WHERE WHAT IT READS IS OF BULK AT MOST 1048576: true; the input reads as it did. -/
def chansNobodyUptoRow : OpenClaim := { program := "ytcnkihdjenjdgaa", sum := "6a23fa4cebc259c96a01259f8ebeb68107583b76beb6c8bf1bc4aa06ce33e507", func := "euphroe/euphroelaw38.ChansNobody", spec := "chansNobody", apart := false, narrowed := true }
def ChansNobodyUptoSaid : Prop := chansNobodyUptoRow.holds Try.pinned (OpenSpec.upto chansNobodySpec)

end Rows
end Go.Proofs.Ytcnkihdjenjdgaa
