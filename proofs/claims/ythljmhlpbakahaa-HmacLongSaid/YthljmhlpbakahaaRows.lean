/-
  No cell of these rows narrows 'for every input' (looked for: loops, veiled, ifaces, maps, wideKeys, modest, calm, conditions, laid).
  DERIVED. THE GIVEN ROWS OF THIS SEAT. 7 by the template 'for every input the law returns true; each argument reads behind the call as it read before'; 0 by the template 'total and deterministic' (their statements: YthljmhlpbakahaaTotals.lean).
  GIVEN WITH THE SEED: the statements are not yours to turn. If you find one false, say at which input.
  Laid BY PROGRAM, IN A SANDBOX (cutbox-rows.mjs): the forced cells as the released guide's own fill.sh prints them over the translation 2f1907fc38507376… (all of the seat's roots in one cut). By AI agents, Wed Nov 11 2026. No macro, syntax, notation, axiom, sorry.
-/
import Derived.Test.YthljmhlpbakahaaChecked
import GoSem.Claim
import GoSem.ClaimJoined
import GoSem.ClaimMapViews
import Derived.JoinedTies
import Derived.KernelRfl
namespace Go.Proofs.Ythljmhlpbakahaa
/- THE CELL 'sum', in the pinned program and in every row, IS THE sha256 OF THE DUMP (.gsa) THAT YthljmhlpbakahaaProg.lean LOADS. Nothing in Lean hashes anything: it is a label: what it is worth is what the hold of that sum in a sandbox is worth. -/
noncomputable def Try.pinned : Pinned := { name := "ythljmhlpbakahaa", sum := "2f1907fc385073763abeddfdc9178cb636a30ba9a9b0f6bfeb678fa408ed67c7", checked := Try.checked }
namespace Rows
def none {H : Type} : Left H := { results := [], args := [] }

/-- 'euphroelaw06.Sha256Is': WHATEVER THE INPUT: true; the input reads as it did. -/
def sha256IsSpec : ChangeSpec := { name := "sha256Is", fn := fun _ => fun
  | [d] => { results := [.lit (.bool true)], args := [d] }
  | _ => none }
def sha256IsRow : OpenClaim := { program := "ythljmhlpbakahaa", sum := "2f1907fc385073763abeddfdc9178cb636a30ba9a9b0f6bfeb678fa408ed67c7", func := "euphroe/euphroelaw06.Sha256Is", spec := "sha256Is", unfollowed := true, recurses := true, apart := false }
def Sha256IsSaid : Prop := sha256IsRow.holds Try.pinned (OpenSpec.ofChange sha256IsSpec)

/-- ITS FALSE NEIGHBOUR: 'it returns false'. Refute it at one input. -/
def sha256IsWrong : ChangeSpec := { name := "sha256Is", fn := fun _ => fun
  | [d] => { results := [.lit (.bool false)], args := [d] }
  | _ => none }
def Sha256IsWrongFalsely : Prop := sha256IsRow.holds Try.pinned (OpenSpec.ofChange sha256IsWrong)

/-- 'euphroelaw06.Sha256Blocks': WHATEVER THE INPUT: true; the input reads as it did. -/
def sha256BlocksSpec : ChangeSpec := { name := "sha256Blocks", fn := fun _ => fun
  | [d1, d2, d3] => { results := [.lit (.bool true)], args := [d1, d2, d3] }
  | _ => none }
def sha256BlocksRow : OpenClaim := { program := "ythljmhlpbakahaa", sum := "2f1907fc385073763abeddfdc9178cb636a30ba9a9b0f6bfeb678fa408ed67c7", func := "euphroe/euphroelaw06.Sha256Blocks", spec := "sha256Blocks", unfollowed := true, recurses := true, apart := false }
def Sha256BlocksSaid : Prop := sha256BlocksRow.holds Try.pinned (OpenSpec.ofChange sha256BlocksSpec)

/-- ITS FALSE NEIGHBOUR: 'it returns false'. Refute it at one input. -/
def sha256BlocksWrong : ChangeSpec := { name := "sha256Blocks", fn := fun _ => fun
  | [d1, d2, d3] => { results := [.lit (.bool false)], args := [d1, d2, d3] }
  | _ => none }
def Sha256BlocksWrongFalsely : Prop := sha256BlocksRow.holds Try.pinned (OpenSpec.ofChange sha256BlocksWrong)

/-- 'euphroelaw06.Sha256Parts': WHATEVER THE INPUT: true; the input reads as it did. -/
def sha256PartsSpec : ChangeSpec := { name := "sha256Parts", fn := fun _ => fun
  | [d] => { results := [.lit (.bool true)], args := [d] }
  | _ => none }
def sha256PartsRow : OpenClaim := { program := "ythljmhlpbakahaa", sum := "2f1907fc385073763abeddfdc9178cb636a30ba9a9b0f6bfeb678fa408ed67c7", func := "euphroe/euphroelaw06.Sha256Parts", spec := "sha256Parts", unfollowed := true, recurses := true, apart := false }
def Sha256PartsSaid : Prop := sha256PartsRow.holds Try.pinned (OpenSpec.ofChange sha256PartsSpec)

/-- ITS FALSE NEIGHBOUR: 'it returns false'. Refute it at one input. -/
def sha256PartsWrong : ChangeSpec := { name := "sha256Parts", fn := fun _ => fun
  | [d] => { results := [.lit (.bool false)], args := [d] }
  | _ => none }
def Sha256PartsWrongFalsely : Prop := sha256PartsRow.holds Try.pinned (OpenSpec.ofChange sha256PartsWrong)

/-- 'euphroelaw07.HmacSeals': WHATEVER THE INPUT: true; the input reads as it did. -/
def hmacSealsSpec : ChangeSpec := { name := "hmacSeals", fn := fun _ => fun
  | [d1, d2, d3] => { results := [.lit (.bool true)], args := [d1, d2, d3] }
  | _ => none }
def hmacSealsRow : OpenClaim := { program := "ythljmhlpbakahaa", sum := "2f1907fc385073763abeddfdc9178cb636a30ba9a9b0f6bfeb678fa408ed67c7", func := "euphroe/euphroelaw07.HmacSeals", spec := "hmacSeals", unfollowed := true, recurses := true, apart := false }
def HmacSealsSaid : Prop := hmacSealsRow.holds Try.pinned (OpenSpec.ofChange hmacSealsSpec)

/-- ITS FALSE NEIGHBOUR: 'it returns false'. Refute it at one input. -/
def hmacSealsWrong : ChangeSpec := { name := "hmacSeals", fn := fun _ => fun
  | [d1, d2, d3] => { results := [.lit (.bool false)], args := [d1, d2, d3] }
  | _ => none }
def HmacSealsWrongFalsely : Prop := hmacSealsRow.holds Try.pinned (OpenSpec.ofChange hmacSealsWrong)

/-- 'euphroelaw07.HmacChains': WHATEVER THE INPUT: true; the input reads as it did. -/
def hmacChainsSpec : ChangeSpec := { name := "hmacChains", fn := fun _ => fun
  | [d1, d2] => { results := [.lit (.bool true)], args := [d1, d2] }
  | _ => none }
def hmacChainsRow : OpenClaim := { program := "ythljmhlpbakahaa", sum := "2f1907fc385073763abeddfdc9178cb636a30ba9a9b0f6bfeb678fa408ed67c7", func := "euphroe/euphroelaw07.HmacChains", spec := "hmacChains", unfollowed := true, recurses := true, apart := false }
def HmacChainsSaid : Prop := hmacChainsRow.holds Try.pinned (OpenSpec.ofChange hmacChainsSpec)

/-- ITS FALSE NEIGHBOUR: 'it returns false'. Refute it at one input. -/
def hmacChainsWrong : ChangeSpec := { name := "hmacChains", fn := fun _ => fun
  | [d1, d2] => { results := [.lit (.bool false)], args := [d1, d2] }
  | _ => none }
def HmacChainsWrongFalsely : Prop := hmacChainsRow.holds Try.pinned (OpenSpec.ofChange hmacChainsWrong)

/-- 'euphroelaw07.HmacNoughts': WHATEVER THE INPUT: true; the input reads as it did. -/
def hmacNoughtsSpec : ChangeSpec := { name := "hmacNoughts", fn := fun _ => fun
  | [d1, d2, d3] => { results := [.lit (.bool true)], args := [d1, d2, d3] }
  | _ => none }
def hmacNoughtsRow : OpenClaim := { program := "ythljmhlpbakahaa", sum := "2f1907fc385073763abeddfdc9178cb636a30ba9a9b0f6bfeb678fa408ed67c7", func := "euphroe/euphroelaw07.HmacNoughts", spec := "hmacNoughts", unfollowed := true, recurses := true, apart := false }
def HmacNoughtsSaid : Prop := hmacNoughtsRow.holds Try.pinned (OpenSpec.ofChange hmacNoughtsSpec)

/-- ITS FALSE NEIGHBOUR: 'it returns false'. Refute it at one input. -/
def hmacNoughtsWrong : ChangeSpec := { name := "hmacNoughts", fn := fun _ => fun
  | [d1, d2, d3] => { results := [.lit (.bool false)], args := [d1, d2, d3] }
  | _ => none }
def HmacNoughtsWrongFalsely : Prop := hmacNoughtsRow.holds Try.pinned (OpenSpec.ofChange hmacNoughtsWrong)

/-- 'euphroelaw07.HmacLong': WHATEVER THE INPUT: true; the input reads as it did. -/
def hmacLongSpec : ChangeSpec := { name := "hmacLong", fn := fun _ => fun
  | [d1, d2] => { results := [.lit (.bool true)], args := [d1, d2] }
  | _ => none }
def hmacLongRow : OpenClaim := { program := "ythljmhlpbakahaa", sum := "2f1907fc385073763abeddfdc9178cb636a30ba9a9b0f6bfeb678fa408ed67c7", func := "euphroe/euphroelaw07.HmacLong", spec := "hmacLong", unfollowed := true, recurses := true, apart := false }
def HmacLongSaid : Prop := hmacLongRow.holds Try.pinned (OpenSpec.ofChange hmacLongSpec)

/-- ITS FALSE NEIGHBOUR: 'it returns false'. Refute it at one input. -/
def hmacLongWrong : ChangeSpec := { name := "hmacLong", fn := fun _ => fun
  | [d1, d2] => { results := [.lit (.bool false)], args := [d1, d2] }
  | _ => none }
def HmacLongWrongFalsely : Prop := hmacLongRow.holds Try.pinned (OpenSpec.ofChange hmacLongWrong)

/- THE SECOND FORM. 'bulk': how many values and letters a reading holds, each counted each time it is reached (what is shared counts as often as it is met; a slice's spare places count too). A statement '..UptoSaid' is the law's where the arguments, and the package variables that the reading takes, are together of bulk at most 1048576: NARROWER than '..Said'. Prove '..Said' where nothing that the law and all that it calls make is longer than what came in: it says more and counts as full. Else prove '..UptoSaid'. A law counts once. -/
mutual
def uptoBulk {H : Type} : DataW H → Nat
  | .lit (.string bytes) => bytes.length + 1
  | .lit _ => 1
  | .nil => 1
  | .ptr d => uptoBulk d + 1
  | .slice elems spare => uptoBulkAll elems + uptoBulkAll spare + 1
  | .agg parts => uptoBulkAll parts + 1
  | .iface _ d => uptoBulk d + 1
  | .map entries => uptoBulkEntries entries + 1
  | .held _ => 1
def uptoBulkAll {H : Type} : List (DataW H) → Nat
  | [] => 0
  | d :: r => uptoBulk d + uptoBulkAll r
def uptoBulkEntries {H : Type} : List (Lit × DataW H) → Nat
  | [] => 0
  | x :: r => uptoBulkEntry x + uptoBulkEntries r
def uptoBulkEntry {H : Type} : Lit × DataW H → Nat
  | (.string bytes, d) => bytes.length + uptoBulk d + 1
  | (_, d) => uptoBulk d + 1
 end
def uptoSmall : (H : Type) → List (DataW H) → Bool := fun _ ds => decide (uptoBulkAll ds ≤ 1048576)
def OpenSpec.upto (s : _root_.Go.ChangeSpec) : _root_.Go.OpenSpec := { _root_.Go.OpenSpec.ofChange s with cond := some uptoSmall }

/-- 'euphroelaw06.Sha256Is', WHERE WHAT IT READS IS OF BULK AT MOST 1048576: true; the input reads as it did. -/
def sha256IsUptoRow : OpenClaim := { program := "ythljmhlpbakahaa", sum := "2f1907fc385073763abeddfdc9178cb636a30ba9a9b0f6bfeb678fa408ed67c7", func := "euphroe/euphroelaw06.Sha256Is", spec := "sha256Is", unfollowed := true, recurses := true, apart := false, narrowed := true }
def Sha256IsUptoSaid : Prop := sha256IsUptoRow.holds Try.pinned (OpenSpec.upto sha256IsSpec)

/-- 'euphroelaw06.Sha256Blocks', WHERE WHAT IT READS IS OF BULK AT MOST 1048576: true; the input reads as it did. -/
def sha256BlocksUptoRow : OpenClaim := { program := "ythljmhlpbakahaa", sum := "2f1907fc385073763abeddfdc9178cb636a30ba9a9b0f6bfeb678fa408ed67c7", func := "euphroe/euphroelaw06.Sha256Blocks", spec := "sha256Blocks", unfollowed := true, recurses := true, apart := false, narrowed := true }
def Sha256BlocksUptoSaid : Prop := sha256BlocksUptoRow.holds Try.pinned (OpenSpec.upto sha256BlocksSpec)

/-- 'euphroelaw06.Sha256Parts', WHERE WHAT IT READS IS OF BULK AT MOST 1048576: true; the input reads as it did. -/
def sha256PartsUptoRow : OpenClaim := { program := "ythljmhlpbakahaa", sum := "2f1907fc385073763abeddfdc9178cb636a30ba9a9b0f6bfeb678fa408ed67c7", func := "euphroe/euphroelaw06.Sha256Parts", spec := "sha256Parts", unfollowed := true, recurses := true, apart := false, narrowed := true }
def Sha256PartsUptoSaid : Prop := sha256PartsUptoRow.holds Try.pinned (OpenSpec.upto sha256PartsSpec)

/-- 'euphroelaw07.HmacSeals', WHERE WHAT IT READS IS OF BULK AT MOST 1048576: true; the input reads as it did. -/
def hmacSealsUptoRow : OpenClaim := { program := "ythljmhlpbakahaa", sum := "2f1907fc385073763abeddfdc9178cb636a30ba9a9b0f6bfeb678fa408ed67c7", func := "euphroe/euphroelaw07.HmacSeals", spec := "hmacSeals", unfollowed := true, recurses := true, apart := false, narrowed := true }
def HmacSealsUptoSaid : Prop := hmacSealsUptoRow.holds Try.pinned (OpenSpec.upto hmacSealsSpec)

/-- 'euphroelaw07.HmacChains', WHERE WHAT IT READS IS OF BULK AT MOST 1048576: true; the input reads as it did. -/
def hmacChainsUptoRow : OpenClaim := { program := "ythljmhlpbakahaa", sum := "2f1907fc385073763abeddfdc9178cb636a30ba9a9b0f6bfeb678fa408ed67c7", func := "euphroe/euphroelaw07.HmacChains", spec := "hmacChains", unfollowed := true, recurses := true, apart := false, narrowed := true }
def HmacChainsUptoSaid : Prop := hmacChainsUptoRow.holds Try.pinned (OpenSpec.upto hmacChainsSpec)

/-- 'euphroelaw07.HmacNoughts', WHERE WHAT IT READS IS OF BULK AT MOST 1048576: true; the input reads as it did. -/
def hmacNoughtsUptoRow : OpenClaim := { program := "ythljmhlpbakahaa", sum := "2f1907fc385073763abeddfdc9178cb636a30ba9a9b0f6bfeb678fa408ed67c7", func := "euphroe/euphroelaw07.HmacNoughts", spec := "hmacNoughts", unfollowed := true, recurses := true, apart := false, narrowed := true }
def HmacNoughtsUptoSaid : Prop := hmacNoughtsUptoRow.holds Try.pinned (OpenSpec.upto hmacNoughtsSpec)

/-- 'euphroelaw07.HmacLong', WHERE WHAT IT READS IS OF BULK AT MOST 1048576: true; the input reads as it did. -/
def hmacLongUptoRow : OpenClaim := { program := "ythljmhlpbakahaa", sum := "2f1907fc385073763abeddfdc9178cb636a30ba9a9b0f6bfeb678fa408ed67c7", func := "euphroe/euphroelaw07.HmacLong", spec := "hmacLong", unfollowed := true, recurses := true, apart := false, narrowed := true }
def HmacLongUptoSaid : Prop := hmacLongUptoRow.holds Try.pinned (OpenSpec.upto hmacLongSpec)

end Rows
end Go.Proofs.Ythljmhlpbakahaa
