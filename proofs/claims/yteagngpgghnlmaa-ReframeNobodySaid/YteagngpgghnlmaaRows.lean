/-
  No cell of these rows narrows 'for every input' (looked for: loops, veiled, ifaces, maps, wideKeys, modest, calm, conditions, laid).
  DERIVED. THE GIVEN ROWS OF THIS SEAT. 9 by the template 'for every input the law returns true; each argument reads behind the call as it read before'; 0 by the template 'total and deterministic' (their statements: YteagngpgghnlmaaTotals.lean).
  GIVEN WITH THE SEED: the statements are not yours to turn. If you find one false, say at which input.
  Laid BY PROGRAM, IN A SANDBOX (cutbox-rows.mjs): the forced cells as the released guide's own fill.sh prints them over the translation 3dccfc1755568b7b… (all of the seat's roots in one cut). By AI agents, Wed Nov 11 2026. No macro, syntax, notation, axiom, sorry.
-/
import Derived.Test.YteagngpgghnlmaaChecked
import GoSem.Claim
import GoSem.ClaimJoined
import GoSem.ClaimMapViews
import Derived.JoinedTies
import Derived.KernelRfl
namespace Go.Proofs.Yteagngpgghnlmaa
/- THE CELL 'sum', in the pinned program and in every row, IS THE sha256 OF THE DUMP (.gsa) THAT YteagngpgghnlmaaProg.lean LOADS. Nothing in Lean hashes anything: it is a label: what it is worth is what the hold of that sum in a sandbox is worth. -/
noncomputable def Try.pinned : Pinned := { name := "yteagngpgghnlmaa", sum := "3dccfc1755568b7b5cc852a35676033ffe94a1413e78a8a55f424558c4531d74", checked := Try.checked }
namespace Rows
def none {H : Type} : Left H := { results := [], args := [] }

/-- 'euphroelaw19.ReframeNobody': WHATEVER THE INPUT: true; the input reads as it did. -/
def reframeNobodySpec : ChangeSpec := { name := "reframeNobody", fn := fun _ => fun
  | [d1, d2] => { results := [.lit (.bool true)], args := [d1, d2] }
  | _ => none }
def reframeNobodyRow : OpenClaim := { program := "yteagngpgghnlmaa", sum := "3dccfc1755568b7b5cc852a35676033ffe94a1413e78a8a55f424558c4531d74", func := "euphroe/euphroelaw19.ReframeNobody", spec := "reframeNobody", apart := false }
def ReframeNobodySaid : Prop := reframeNobodyRow.holds Try.pinned (OpenSpec.ofChange reframeNobodySpec)

/-- ITS FALSE NEIGHBOUR: 'it returns false'. Refute it at one input. -/
def reframeNobodyWrong : ChangeSpec := { name := "reframeNobody", fn := fun _ => fun
  | [d1, d2] => { results := [.lit (.bool false)], args := [d1, d2] }
  | _ => none }
def ReframeNobodyWrongFalsely : Prop := reframeNobodyRow.holds Try.pinned (OpenSpec.ofChange reframeNobodyWrong)

/-- 'euphroelaw19.ReframeHeld': WHATEVER THE INPUT: true; the input reads as it did. -/
def reframeHeldSpec : ChangeSpec := { name := "reframeHeld", fn := fun _ => fun
  | [d1, d2] => { results := [.lit (.bool true)], args := [d1, d2] }
  | _ => none }
def reframeHeldRow : OpenClaim := { program := "yteagngpgghnlmaa", sum := "3dccfc1755568b7b5cc852a35676033ffe94a1413e78a8a55f424558c4531d74", func := "euphroe/euphroelaw19.ReframeHeld", spec := "reframeHeld", apart := false }
def ReframeHeldSaid : Prop := reframeHeldRow.holds Try.pinned (OpenSpec.ofChange reframeHeldSpec)

/-- ITS FALSE NEIGHBOUR: 'it returns false'. Refute it at one input. -/
def reframeHeldWrong : ChangeSpec := { name := "reframeHeld", fn := fun _ => fun
  | [d1, d2] => { results := [.lit (.bool false)], args := [d1, d2] }
  | _ => none }
def ReframeHeldWrongFalsely : Prop := reframeHeldRow.holds Try.pinned (OpenSpec.ofChange reframeHeldWrong)

/-- 'euphroelaw19.ReframeWrites': WHATEVER THE INPUT: true; the input reads as it did. -/
def reframeWritesSpec : ChangeSpec := { name := "reframeWrites", fn := fun _ => fun
  | [d1, d2] => { results := [.lit (.bool true)], args := [d1, d2] }
  | _ => none }
def reframeWritesRow : OpenClaim := { program := "yteagngpgghnlmaa", sum := "3dccfc1755568b7b5cc852a35676033ffe94a1413e78a8a55f424558c4531d74", func := "euphroe/euphroelaw19.ReframeWrites", spec := "reframeWrites", unfollowed := true, recurses := true, apart := false }
def ReframeWritesSaid : Prop := reframeWritesRow.holds Try.pinned (OpenSpec.ofChange reframeWritesSpec)

/-- ITS FALSE NEIGHBOUR: 'it returns false'. Refute it at one input. -/
def reframeWritesWrong : ChangeSpec := { name := "reframeWrites", fn := fun _ => fun
  | [d1, d2] => { results := [.lit (.bool false)], args := [d1, d2] }
  | _ => none }
def ReframeWritesWrongFalsely : Prop := reframeWritesRow.holds Try.pinned (OpenSpec.ofChange reframeWritesWrong)

/-- 'euphroelaw19.ReframeSame': WHATEVER THE INPUT: true; the input reads as it did. -/
def reframeSameSpec : ChangeSpec := { name := "reframeSame", fn := fun _ => fun
  | [d1, d2] => { results := [.lit (.bool true)], args := [d1, d2] }
  | _ => none }
def reframeSameRow : OpenClaim := { program := "yteagngpgghnlmaa", sum := "3dccfc1755568b7b5cc852a35676033ffe94a1413e78a8a55f424558c4531d74", func := "euphroe/euphroelaw19.ReframeSame", spec := "reframeSame", unfollowed := true, recurses := true, apart := false }
def ReframeSameSaid : Prop := reframeSameRow.holds Try.pinned (OpenSpec.ofChange reframeSameSpec)

/-- ITS FALSE NEIGHBOUR: 'it returns false'. Refute it at one input. -/
def reframeSameWrong : ChangeSpec := { name := "reframeSame", fn := fun _ => fun
  | [d1, d2] => { results := [.lit (.bool false)], args := [d1, d2] }
  | _ => none }
def ReframeSameWrongFalsely : Prop := reframeSameRow.holds Try.pinned (OpenSpec.ofChange reframeSameWrong)

/-- 'euphroelaw18.PacketLays': WHATEVER THE INPUT: true; the input reads as it did. -/
def packetLaysSpec : ChangeSpec := { name := "packetLays", fn := fun _ => fun
  | [d] => { results := [.lit (.bool true)], args := [d] }
  | _ => none }
def packetLaysRow : OpenClaim := { program := "yteagngpgghnlmaa", sum := "3dccfc1755568b7b5cc852a35676033ffe94a1413e78a8a55f424558c4531d74", func := "euphroe/euphroelaw18.PacketLays", spec := "packetLays", unfollowed := true, recurses := true, apart := false }
def PacketLaysSaid : Prop := packetLaysRow.holds Try.pinned (OpenSpec.ofChange packetLaysSpec)

/-- ITS FALSE NEIGHBOUR: 'it returns false'. Refute it at one input. -/
def packetLaysWrong : ChangeSpec := { name := "packetLays", fn := fun _ => fun
  | [d] => { results := [.lit (.bool false)], args := [d] }
  | _ => none }
def PacketLaysWrongFalsely : Prop := packetLaysRow.holds Try.pinned (OpenSpec.ofChange packetLaysWrong)

/-- 'euphroelaw18.PacketParses': WHATEVER THE INPUT: true; the input reads as it did. -/
def packetParsesSpec : ChangeSpec := { name := "packetParses", fn := fun _ => fun
  | [d] => { results := [.lit (.bool true)], args := [d] }
  | _ => none }
def packetParsesRow : OpenClaim := { program := "yteagngpgghnlmaa", sum := "3dccfc1755568b7b5cc852a35676033ffe94a1413e78a8a55f424558c4531d74", func := "euphroe/euphroelaw18.PacketParses", spec := "packetParses", unfollowed := true, recurses := true, apart := false }
def PacketParsesSaid : Prop := packetParsesRow.holds Try.pinned (OpenSpec.ofChange packetParsesSpec)

/-- ITS FALSE NEIGHBOUR: 'it returns false'. Refute it at one input. -/
def packetParsesWrong : ChangeSpec := { name := "packetParses", fn := fun _ => fun
  | [d] => { results := [.lit (.bool false)], args := [d] }
  | _ => none }
def PacketParsesWrongFalsely : Prop := packetParsesRow.holds Try.pinned (OpenSpec.ofChange packetParsesWrong)

/-- 'euphroelaw18.PacketBack': WHATEVER THE INPUT: true; the input reads as it did. -/
def packetBackSpec : ChangeSpec := { name := "packetBack", fn := fun _ => fun
  | [d1, d2, d3] => { results := [.lit (.bool true)], args := [d1, d2, d3] }
  | _ => none }
def packetBackRow : OpenClaim := { program := "yteagngpgghnlmaa", sum := "3dccfc1755568b7b5cc852a35676033ffe94a1413e78a8a55f424558c4531d74", func := "euphroe/euphroelaw18.PacketBack", spec := "packetBack", unfollowed := true, recurses := true, apart := false }
def PacketBackSaid : Prop := packetBackRow.holds Try.pinned (OpenSpec.ofChange packetBackSpec)

/-- ITS FALSE NEIGHBOUR: 'it returns false'. Refute it at one input. -/
def packetBackWrong : ChangeSpec := { name := "packetBack", fn := fun _ => fun
  | [d1, d2, d3] => { results := [.lit (.bool false)], args := [d1, d2, d3] }
  | _ => none }
def PacketBackWrongFalsely : Prop := packetBackRow.holds Try.pinned (OpenSpec.ofChange packetBackWrong)

/-- 'euphroelaw18.PacketMakes': WHATEVER THE INPUT: true; the input reads as it did. -/
def packetMakesSpec : ChangeSpec := { name := "packetMakes", fn := fun _ => fun
  | [d1, d2] => { results := [.lit (.bool true)], args := [d1, d2] }
  | _ => none }
def packetMakesRow : OpenClaim := { program := "yteagngpgghnlmaa", sum := "3dccfc1755568b7b5cc852a35676033ffe94a1413e78a8a55f424558c4531d74", func := "euphroe/euphroelaw18.PacketMakes", spec := "packetMakes", unfollowed := true, recurses := true, apart := false }
def PacketMakesSaid : Prop := packetMakesRow.holds Try.pinned (OpenSpec.ofChange packetMakesSpec)

/-- ITS FALSE NEIGHBOUR: 'it returns false'. Refute it at one input. -/
def packetMakesWrong : ChangeSpec := { name := "packetMakes", fn := fun _ => fun
  | [d1, d2] => { results := [.lit (.bool false)], args := [d1, d2] }
  | _ => none }
def PacketMakesWrongFalsely : Prop := packetMakesRow.holds Try.pinned (OpenSpec.ofChange packetMakesWrong)

/-- 'euphroelaw18.PacketLength': WHATEVER THE INPUT: true; the input reads as it did. -/
def packetLengthSpec : ChangeSpec := { name := "packetLength", fn := fun _ => fun
  | [d1, d2] => { results := [.lit (.bool true)], args := [d1, d2] }
  | _ => none }
def packetLengthRow : OpenClaim := { program := "yteagngpgghnlmaa", sum := "3dccfc1755568b7b5cc852a35676033ffe94a1413e78a8a55f424558c4531d74", func := "euphroe/euphroelaw18.PacketLength", spec := "packetLength", unfollowed := true, recurses := true, apart := false }
def PacketLengthSaid : Prop := packetLengthRow.holds Try.pinned (OpenSpec.ofChange packetLengthSpec)

/-- ITS FALSE NEIGHBOUR: 'it returns false'. Refute it at one input. -/
def packetLengthWrong : ChangeSpec := { name := "packetLength", fn := fun _ => fun
  | [d1, d2] => { results := [.lit (.bool false)], args := [d1, d2] }
  | _ => none }
def PacketLengthWrongFalsely : Prop := packetLengthRow.holds Try.pinned (OpenSpec.ofChange packetLengthWrong)

/- THE SECOND FORM. 'bulk': how many values and letters a reading holds, each counted each time it is reached (what is shared counts as often as it is met; a slice's spare places count too). A statement '..UptoSaid' is the law's where the arguments, and the package variables that the reading takes, are together of bulk at most 1048576: NARROWER than '..Said'. Prove '..Said' where nothing that the law and all that it calls make is longer than what came in: it says more and counts as full. Else prove '..UptoSaid'. A law counts once. -/
mutual
def uptoBulk {H : Type} : DataW H → Nat
  | .lit (.string bytes) => bytes.length + 1
  | .lit _ => 1
  | .nil => 1
  | .ptr d => uptoBulk d + 1
  | .slice elems spare => uptoBulkAll elems + uptoBulkAll spare + 1
  | .agg parts => uptoBulkAll parts + 1
  | .iface _ d => uptoBulk d + 1
  | .map entries => uptoBulkEntries entries + 1
  | .held _ => 1
def uptoBulkAll {H : Type} : List (DataW H) → Nat
  | [] => 0
  | d :: r => uptoBulk d + uptoBulkAll r
def uptoBulkEntries {H : Type} : List (Lit × DataW H) → Nat
  | [] => 0
  | x :: r => uptoBulkEntry x + uptoBulkEntries r
def uptoBulkEntry {H : Type} : Lit × DataW H → Nat
  | (.string bytes, d) => bytes.length + uptoBulk d + 1
  | (_, d) => uptoBulk d + 1
 end
def uptoSmall : (H : Type) → List (DataW H) → Bool := fun _ ds => decide (uptoBulkAll ds ≤ 1048576)
def OpenSpec.upto (s : _root_.Go.ChangeSpec) : _root_.Go.OpenSpec := { _root_.Go.OpenSpec.ofChange s with cond := some uptoSmall }

/-- 'euphroelaw19.ReframeNobody', WHERE WHAT IT READS IS OF BULK AT MOST 1048576: true; the input reads as it did. -/
def reframeNobodyUptoRow : OpenClaim := { program := "yteagngpgghnlmaa", sum := "3dccfc1755568b7b5cc852a35676033ffe94a1413e78a8a55f424558c4531d74", func := "euphroe/euphroelaw19.ReframeNobody", spec := "reframeNobody", apart := false, narrowed := true }
def ReframeNobodyUptoSaid : Prop := reframeNobodyUptoRow.holds Try.pinned (OpenSpec.upto reframeNobodySpec)

/-- 'euphroelaw19.ReframeHeld', WHERE WHAT IT READS IS OF BULK AT MOST 1048576: true; the input reads as it did. -/
def reframeHeldUptoRow : OpenClaim := { program := "yteagngpgghnlmaa", sum := "3dccfc1755568b7b5cc852a35676033ffe94a1413e78a8a55f424558c4531d74", func := "euphroe/euphroelaw19.ReframeHeld", spec := "reframeHeld", apart := false, narrowed := true }
def ReframeHeldUptoSaid : Prop := reframeHeldUptoRow.holds Try.pinned (OpenSpec.upto reframeHeldSpec)

/-- 'euphroelaw19.ReframeWrites', WHERE WHAT IT READS IS OF BULK AT MOST 1048576: true; the input reads as it did. -/
def reframeWritesUptoRow : OpenClaim := { program := "yteagngpgghnlmaa", sum := "3dccfc1755568b7b5cc852a35676033ffe94a1413e78a8a55f424558c4531d74", func := "euphroe/euphroelaw19.ReframeWrites", spec := "reframeWrites", unfollowed := true, recurses := true, apart := false, narrowed := true }
def ReframeWritesUptoSaid : Prop := reframeWritesUptoRow.holds Try.pinned (OpenSpec.upto reframeWritesSpec)

/-- 'euphroelaw19.ReframeSame', WHERE WHAT IT READS IS OF BULK AT MOST 1048576: true; the input reads as it did. -/
def reframeSameUptoRow : OpenClaim := { program := "yteagngpgghnlmaa", sum := "3dccfc1755568b7b5cc852a35676033ffe94a1413e78a8a55f424558c4531d74", func := "euphroe/euphroelaw19.ReframeSame", spec := "reframeSame", unfollowed := true, recurses := true, apart := false, narrowed := true }
def ReframeSameUptoSaid : Prop := reframeSameUptoRow.holds Try.pinned (OpenSpec.upto reframeSameSpec)

/-- 'euphroelaw18.PacketLays', WHERE WHAT IT READS IS OF BULK AT MOST 1048576: true; the input reads as it did. -/
def packetLaysUptoRow : OpenClaim := { program := "yteagngpgghnlmaa", sum := "3dccfc1755568b7b5cc852a35676033ffe94a1413e78a8a55f424558c4531d74", func := "euphroe/euphroelaw18.PacketLays", spec := "packetLays", unfollowed := true, recurses := true, apart := false, narrowed := true }
def PacketLaysUptoSaid : Prop := packetLaysUptoRow.holds Try.pinned (OpenSpec.upto packetLaysSpec)

/-- 'euphroelaw18.PacketParses', WHERE WHAT IT READS IS OF BULK AT MOST 1048576: true; the input reads as it did. -/
def packetParsesUptoRow : OpenClaim := { program := "yteagngpgghnlmaa", sum := "3dccfc1755568b7b5cc852a35676033ffe94a1413e78a8a55f424558c4531d74", func := "euphroe/euphroelaw18.PacketParses", spec := "packetParses", unfollowed := true, recurses := true, apart := false, narrowed := true }
def PacketParsesUptoSaid : Prop := packetParsesUptoRow.holds Try.pinned (OpenSpec.upto packetParsesSpec)

/-- 'euphroelaw18.PacketBack', WHERE WHAT IT READS IS OF BULK AT MOST 1048576: true; the input reads as it did. -/
def packetBackUptoRow : OpenClaim := { program := "yteagngpgghnlmaa", sum := "3dccfc1755568b7b5cc852a35676033ffe94a1413e78a8a55f424558c4531d74", func := "euphroe/euphroelaw18.PacketBack", spec := "packetBack", unfollowed := true, recurses := true, apart := false, narrowed := true }
def PacketBackUptoSaid : Prop := packetBackUptoRow.holds Try.pinned (OpenSpec.upto packetBackSpec)

/-- 'euphroelaw18.PacketMakes', WHERE WHAT IT READS IS OF BULK AT MOST 1048576: true; the input reads as it did. -/
def packetMakesUptoRow : OpenClaim := { program := "yteagngpgghnlmaa", sum := "3dccfc1755568b7b5cc852a35676033ffe94a1413e78a8a55f424558c4531d74", func := "euphroe/euphroelaw18.PacketMakes", spec := "packetMakes", unfollowed := true, recurses := true, apart := false, narrowed := true }
def PacketMakesUptoSaid : Prop := packetMakesUptoRow.holds Try.pinned (OpenSpec.upto packetMakesSpec)

/-- 'euphroelaw18.PacketLength', WHERE WHAT IT READS IS OF BULK AT MOST 1048576: true; the input reads as it did. -/
def packetLengthUptoRow : OpenClaim := { program := "yteagngpgghnlmaa", sum := "3dccfc1755568b7b5cc852a35676033ffe94a1413e78a8a55f424558c4531d74", func := "euphroe/euphroelaw18.PacketLength", spec := "packetLength", unfollowed := true, recurses := true, apart := false, narrowed := true }
def PacketLengthUptoSaid : Prop := packetLengthUptoRow.holds Try.pinned (OpenSpec.upto packetLengthSpec)

end Rows
end Go.Proofs.Yteagngpgghnlmaa
