/-
  No cell of these rows narrows 'for every input' (looked for: loops, veiled, ifaces, maps, wideKeys, modest, calm, conditions, laid).
  DERIVED. THE GIVEN ROWS OF THIS SEAT. 6 by the template 'for every input the law returns true; each argument reads behind the call as it read before'; 0 by the template 'total and deterministic' (their statements: YtjgaemdfaknemaaTotals.lean).
  GIVEN WITH THE SEED: the statements are not yours to turn. If you find one false, say at which input.
  Laid BY PROGRAM, IN A SANDBOX (cutbox-rows.mjs): the forced cells as the released guide's own fill.sh prints them over the translation cf83d7856e981cc2… (all of the seat's roots in one cut). By AI agents, Wed Nov 11 2026. No macro, syntax, notation, axiom, sorry.
-/
import Derived.Test.YtjgaemdfaknemaaChecked
import GoSem.Claim
import GoSem.ClaimJoined
import GoSem.ClaimMapViews
import Derived.JoinedTies
import Derived.KernelRfl
namespace Go.Proofs.Ytjgaemdfaknemaa
/- THE CELL 'sum', in the pinned program and in every row, IS THE sha256 OF THE DUMP (.gsa) THAT YtjgaemdfaknemaaProg.lean LOADS. Nothing in Lean hashes anything: it is a label: what it is worth is what the hold of that sum in a sandbox is worth. -/
noncomputable def Try.pinned : Pinned := { name := "ytjgaemdfaknemaa", sum := "cf83d7856e981cc2b9c3b9d111438d988dbbd67269fe9c8f7d7b22f3427369b5", checked := Try.checked }
namespace Rows
def none {H : Type} : Left H := { results := [], args := [] }

/-- 'euphroelaw04.Md4Blocks': WHATEVER THE INPUT: true; the input reads as it did. -/
def md4BlocksSpec : ChangeSpec := { name := "md4Blocks", fn := fun _ => fun
  | [d1, d2, d3] => { results := [.lit (.bool true)], args := [d1, d2, d3] }
  | _ => none }
def md4BlocksRow : OpenClaim := { program := "ytjgaemdfaknemaa", sum := "cf83d7856e981cc2b9c3b9d111438d988dbbd67269fe9c8f7d7b22f3427369b5", func := "euphroe/euphroelaw04.Md4Blocks", spec := "md4Blocks", unfollowed := true, recurses := true, apart := false }
def Md4BlocksSaid : Prop := md4BlocksRow.holds Try.pinned (OpenSpec.ofChange md4BlocksSpec)

/-- ITS FALSE NEIGHBOUR: 'it returns false'. Refute it at one input. -/
def md4BlocksWrong : ChangeSpec := { name := "md4Blocks", fn := fun _ => fun
  | [d1, d2, d3] => { results := [.lit (.bool false)], args := [d1, d2, d3] }
  | _ => none }
def Md4BlocksWrongFalsely : Prop := md4BlocksRow.holds Try.pinned (OpenSpec.ofChange md4BlocksWrong)

/-- 'euphroelaw04.Md4Is': WHATEVER THE INPUT: true; the input reads as it did. -/
def md4IsSpec : ChangeSpec := { name := "md4Is", fn := fun _ => fun
  | [d] => { results := [.lit (.bool true)], args := [d] }
  | _ => none }
def md4IsRow : OpenClaim := { program := "ytjgaemdfaknemaa", sum := "cf83d7856e981cc2b9c3b9d111438d988dbbd67269fe9c8f7d7b22f3427369b5", func := "euphroe/euphroelaw04.Md4Is", spec := "md4Is", unfollowed := true, recurses := true, apart := false }
def Md4IsSaid : Prop := md4IsRow.holds Try.pinned (OpenSpec.ofChange md4IsSpec)

/-- ITS FALSE NEIGHBOUR: 'it returns false'. Refute it at one input. -/
def md4IsWrong : ChangeSpec := { name := "md4Is", fn := fun _ => fun
  | [d] => { results := [.lit (.bool false)], args := [d] }
  | _ => none }
def Md4IsWrongFalsely : Prop := md4IsRow.holds Try.pinned (OpenSpec.ofChange md4IsWrong)

/-- 'euphroelaw04.Md4Parts': WHATEVER THE INPUT: true; the input reads as it did. -/
def md4PartsSpec : ChangeSpec := { name := "md4Parts", fn := fun _ => fun
  | [d] => { results := [.lit (.bool true)], args := [d] }
  | _ => none }
def md4PartsRow : OpenClaim := { program := "ytjgaemdfaknemaa", sum := "cf83d7856e981cc2b9c3b9d111438d988dbbd67269fe9c8f7d7b22f3427369b5", func := "euphroe/euphroelaw04.Md4Parts", spec := "md4Parts", unfollowed := true, recurses := true, apart := false }
def Md4PartsSaid : Prop := md4PartsRow.holds Try.pinned (OpenSpec.ofChange md4PartsSpec)

/-- ITS FALSE NEIGHBOUR: 'it returns false'. Refute it at one input. -/
def md4PartsWrong : ChangeSpec := { name := "md4Parts", fn := fun _ => fun
  | [d] => { results := [.lit (.bool false)], args := [d] }
  | _ => none }
def Md4PartsWrongFalsely : Prop := md4PartsRow.holds Try.pinned (OpenSpec.ofChange md4PartsWrong)

/-- 'euphroelaw05.Sha1Blocks': WHATEVER THE INPUT: true; the input reads as it did. -/
def sha1BlocksSpec : ChangeSpec := { name := "sha1Blocks", fn := fun _ => fun
  | [d1, d2, d3] => { results := [.lit (.bool true)], args := [d1, d2, d3] }
  | _ => none }
def sha1BlocksRow : OpenClaim := { program := "ytjgaemdfaknemaa", sum := "cf83d7856e981cc2b9c3b9d111438d988dbbd67269fe9c8f7d7b22f3427369b5", func := "euphroe/euphroelaw05.Sha1Blocks", spec := "sha1Blocks", unfollowed := true, recurses := true, apart := false }
def Sha1BlocksSaid : Prop := sha1BlocksRow.holds Try.pinned (OpenSpec.ofChange sha1BlocksSpec)

/-- ITS FALSE NEIGHBOUR: 'it returns false'. Refute it at one input. -/
def sha1BlocksWrong : ChangeSpec := { name := "sha1Blocks", fn := fun _ => fun
  | [d1, d2, d3] => { results := [.lit (.bool false)], args := [d1, d2, d3] }
  | _ => none }
def Sha1BlocksWrongFalsely : Prop := sha1BlocksRow.holds Try.pinned (OpenSpec.ofChange sha1BlocksWrong)

/-- 'euphroelaw05.Sha1Is': WHATEVER THE INPUT: true; the input reads as it did. -/
def sha1IsSpec : ChangeSpec := { name := "sha1Is", fn := fun _ => fun
  | [d] => { results := [.lit (.bool true)], args := [d] }
  | _ => none }
def sha1IsRow : OpenClaim := { program := "ytjgaemdfaknemaa", sum := "cf83d7856e981cc2b9c3b9d111438d988dbbd67269fe9c8f7d7b22f3427369b5", func := "euphroe/euphroelaw05.Sha1Is", spec := "sha1Is", unfollowed := true, recurses := true, apart := false }
def Sha1IsSaid : Prop := sha1IsRow.holds Try.pinned (OpenSpec.ofChange sha1IsSpec)

/-- ITS FALSE NEIGHBOUR: 'it returns false'. Refute it at one input. -/
def sha1IsWrong : ChangeSpec := { name := "sha1Is", fn := fun _ => fun
  | [d] => { results := [.lit (.bool false)], args := [d] }
  | _ => none }
def Sha1IsWrongFalsely : Prop := sha1IsRow.holds Try.pinned (OpenSpec.ofChange sha1IsWrong)

/-- 'euphroelaw05.Sha1Parts': WHATEVER THE INPUT: true; the input reads as it did. -/
def sha1PartsSpec : ChangeSpec := { name := "sha1Parts", fn := fun _ => fun
  | [d] => { results := [.lit (.bool true)], args := [d] }
  | _ => none }
def sha1PartsRow : OpenClaim := { program := "ytjgaemdfaknemaa", sum := "cf83d7856e981cc2b9c3b9d111438d988dbbd67269fe9c8f7d7b22f3427369b5", func := "euphroe/euphroelaw05.Sha1Parts", spec := "sha1Parts", unfollowed := true, recurses := true, apart := false }
def Sha1PartsSaid : Prop := sha1PartsRow.holds Try.pinned (OpenSpec.ofChange sha1PartsSpec)

/-- ITS FALSE NEIGHBOUR: 'it returns false'. Refute it at one input. -/
def sha1PartsWrong : ChangeSpec := { name := "sha1Parts", fn := fun _ => fun
  | [d] => { results := [.lit (.bool false)], args := [d] }
  | _ => none }
def Sha1PartsWrongFalsely : Prop := sha1PartsRow.holds Try.pinned (OpenSpec.ofChange sha1PartsWrong)

/- THE SECOND FORM. 'bulk': how many values and letters a reading holds, each counted each time it is reached (what is shared counts as often as it is met; a slice's spare places count too). A statement '..UptoSaid' is the law's where the arguments, and the package variables that the reading takes, are together of bulk at most 1048576: NARROWER than '..Said'. Prove '..Said' where nothing that the law and all that it calls make is longer than what came in: it says more and counts as full. Else prove '..UptoSaid'. A law counts once. -/
mutual
def uptoBulk {H : Type} : DataW H → Nat
  | .lit (.string bytes) => bytes.length + 1
  | .lit _ => 1
  | .nil => 1
  | .ptr d => uptoBulk d + 1
  | .slice elems spare => uptoBulkAll elems + uptoBulkAll spare + 1
  | .agg parts => uptoBulkAll parts + 1
  | .iface _ d => uptoBulk d + 1
  | .map entries => uptoBulkEntries entries + 1
  | .held _ => 1
def uptoBulkAll {H : Type} : List (DataW H) → Nat
  | [] => 0
  | d :: r => uptoBulk d + uptoBulkAll r
def uptoBulkEntries {H : Type} : List (Lit × DataW H) → Nat
  | [] => 0
  | x :: r => uptoBulkEntry x + uptoBulkEntries r
def uptoBulkEntry {H : Type} : Lit × DataW H → Nat
  | (.string bytes, d) => bytes.length + uptoBulk d + 1
  | (_, d) => uptoBulk d + 1
 end
def uptoSmall : (H : Type) → List (DataW H) → Bool := fun _ ds => decide (uptoBulkAll ds ≤ 1048576)
def OpenSpec.upto (s : _root_.Go.ChangeSpec) : _root_.Go.OpenSpec := { _root_.Go.OpenSpec.ofChange s with cond := some uptoSmall }

/-- 'euphroelaw04.Md4Blocks', WHERE WHAT IT READS IS OF BULK AT MOST 1048576: true; the input reads as it did. -/
def md4BlocksUptoRow : OpenClaim := { program := "ytjgaemdfaknemaa", sum := "cf83d7856e981cc2b9c3b9d111438d988dbbd67269fe9c8f7d7b22f3427369b5", func := "euphroe/euphroelaw04.Md4Blocks", spec := "md4Blocks", unfollowed := true, recurses := true, apart := false, narrowed := true }
def Md4BlocksUptoSaid : Prop := md4BlocksUptoRow.holds Try.pinned (OpenSpec.upto md4BlocksSpec)

/-- 'euphroelaw04.Md4Is', WHERE WHAT IT READS IS OF BULK AT MOST 1048576: true; the input reads as it did. -/
def md4IsUptoRow : OpenClaim := { program := "ytjgaemdfaknemaa", sum := "cf83d7856e981cc2b9c3b9d111438d988dbbd67269fe9c8f7d7b22f3427369b5", func := "euphroe/euphroelaw04.Md4Is", spec := "md4Is", unfollowed := true, recurses := true, apart := false, narrowed := true }
def Md4IsUptoSaid : Prop := md4IsUptoRow.holds Try.pinned (OpenSpec.upto md4IsSpec)

/-- 'euphroelaw04.Md4Parts', WHERE WHAT IT READS IS OF BULK AT MOST 1048576: true; the input reads as it did. -/
def md4PartsUptoRow : OpenClaim := { program := "ytjgaemdfaknemaa", sum := "cf83d7856e981cc2b9c3b9d111438d988dbbd67269fe9c8f7d7b22f3427369b5", func := "euphroe/euphroelaw04.Md4Parts", spec := "md4Parts", unfollowed := true, recurses := true, apart := false, narrowed := true }
def Md4PartsUptoSaid : Prop := md4PartsUptoRow.holds Try.pinned (OpenSpec.upto md4PartsSpec)

/-- 'euphroelaw05.Sha1Blocks', WHERE WHAT IT READS IS OF BULK AT MOST 1048576: true; the input reads as it did. -/
def sha1BlocksUptoRow : OpenClaim := { program := "ytjgaemdfaknemaa", sum := "cf83d7856e981cc2b9c3b9d111438d988dbbd67269fe9c8f7d7b22f3427369b5", func := "euphroe/euphroelaw05.Sha1Blocks", spec := "sha1Blocks", unfollowed := true, recurses := true, apart := false, narrowed := true }
def Sha1BlocksUptoSaid : Prop := sha1BlocksUptoRow.holds Try.pinned (OpenSpec.upto sha1BlocksSpec)

/-- 'euphroelaw05.Sha1Is', WHERE WHAT IT READS IS OF BULK AT MOST 1048576: true; the input reads as it did. -/
def sha1IsUptoRow : OpenClaim := { program := "ytjgaemdfaknemaa", sum := "cf83d7856e981cc2b9c3b9d111438d988dbbd67269fe9c8f7d7b22f3427369b5", func := "euphroe/euphroelaw05.Sha1Is", spec := "sha1Is", unfollowed := true, recurses := true, apart := false, narrowed := true }
def Sha1IsUptoSaid : Prop := sha1IsUptoRow.holds Try.pinned (OpenSpec.upto sha1IsSpec)

/-- 'euphroelaw05.Sha1Parts', WHERE WHAT IT READS IS OF BULK AT MOST 1048576: true; the input reads as it did. -/
def sha1PartsUptoRow : OpenClaim := { program := "ytjgaemdfaknemaa", sum := "cf83d7856e981cc2b9c3b9d111438d988dbbd67269fe9c8f7d7b22f3427369b5", func := "euphroe/euphroelaw05.Sha1Parts", spec := "sha1Parts", unfollowed := true, recurses := true, apart := false, narrowed := true }
def Sha1PartsUptoSaid : Prop := sha1PartsUptoRow.holds Try.pinned (OpenSpec.upto sha1PartsSpec)

end Rows
end Go.Proofs.Ytjgaemdfaknemaa
