/-
  DERIVED. GIVEN WITH THE SEED: THE CARDS: each row of YtdlmhclopdkhcaaDoorRows.lean that lists a variable, with what it lists TIED to the program's text (the seventh form; the later family's looks); each row that meets fmt, with fmt's text TOLD by the authors' own Lean function (tested against real Go, not proved from fmt's source: count such statements apart). THE CARD IS WHAT COUNTS. Prove the row's statement (the work); the ties are given (YtdlmhclopdkhcaaDoorTie.lean); close each card by the builder's one call (the guide's Derived/Test/ToyasCard.lean, 'card_holds'). Laid BY PROGRAM, IN A SANDBOX (cutbox-door.mjs). By AI agents, Wed Nov 11 2026. No macro, syntax, notation, axiom, sorry.
-/
import Derived.Test.YtdlmhclopdkhcaaDoorRows
import GoSem.ClaimSeven
namespace Go.Proofs.YtdlmhclopdkhcaaDoor
namespace Rows

/-- THE TIED CARD OF 'euphroelaw10.NthashOf'. -/
def nthashOfCard : Claim7 := { stood := { row := nthashOfRow, standIns := [], harness := (true, "abbe5c948ab38366b2f99f6c5a0cf5dc543033ccf4fdb2eae99cf2a3e00db403"), looks := false }, kinds := [], alts := [], laidByText := true, laidKinds := [.data, .pinned], laidTests := true, laidLooks := .later }
def NthashOfCardSaid : Prop := Claim7.holds Tryd.pinned (.plain (OpenSpec.ofChange nthashOfSpec)) nthashOfCard

/-- THE TIED CARD OF 'euphroelaw10.NthashThirds'. -/
def nthashThirdsCard : Claim7 := { stood := { row := nthashThirdsRow, standIns := [], harness := (true, "abbe5c948ab38366b2f99f6c5a0cf5dc543033ccf4fdb2eae99cf2a3e00db403"), looks := false }, kinds := [], alts := [], laidByText := true, laidKinds := [.data, .pinned], laidTests := true, laidLooks := .later }
def NthashThirdsCardSaid : Prop := Claim7.holds Tryd.pinned (.plain (OpenSpec.ofChange nthashThirdsSpec)) nthashThirdsCard

/-- THE TIED CARD OF 'euphroelaw12.MppeKeys'. -/
def mppeKeysCard : Claim7 := { stood := { row := mppeKeysRow, standIns := [], harness := (true, "abbe5c948ab38366b2f99f6c5a0cf5dc543033ccf4fdb2eae99cf2a3e00db403"), looks := false }, kinds := [], alts := [], laidByText := true, laidKinds := [.data, .pinned], laidTests := true, laidLooks := .later }
def MppeKeysCardSaid : Prop := Claim7.holds Tryd.pinned (.plain (OpenSpec.ofChange mppeKeysSpec)) mppeKeysCard

/-- THE TIED CARD OF 'euphroelaw12.MppeBoth'. -/
def mppeBothCard : Claim7 := { stood := { row := mppeBothRow, standIns := [], harness := (true, "abbe5c948ab38366b2f99f6c5a0cf5dc543033ccf4fdb2eae99cf2a3e00db403"), looks := false }, kinds := [], alts := [], laidByText := true, laidKinds := [.data, .pinned], laidTests := true, laidLooks := .later }
def MppeBothCardSaid : Prop := Claim7.holds Tryd.pinned (.plain (OpenSpec.ofChange mppeBothSpec)) mppeBothCard

/-- THE TIED CARD OF 'euphroelaw12.MppeUpper'. -/
def mppeUpperCard : Claim7 := { stood := { row := mppeUpperRow, standIns := [], harness := (true, "abbe5c948ab38366b2f99f6c5a0cf5dc543033ccf4fdb2eae99cf2a3e00db403"), looks := false }, kinds := [], alts := [], laidByText := true, laidKinds := [.data, .pinned], laidTests := true, laidLooks := .later }
def MppeUpperCardSaid : Prop := Claim7.holds Tryd.pinned (.plain (OpenSpec.ofChange mppeUpperSpec)) mppeUpperCard

/-- THE SECOND FORM's CARD OF 'euphroelaw10.NthashOf'. -/
def nthashOfUptoCard : Claim7 := { stood := { row := nthashOfUptoRow, standIns := [], harness := (true, "abbe5c948ab38366b2f99f6c5a0cf5dc543033ccf4fdb2eae99cf2a3e00db403"), looks := false }, kinds := [], alts := [], laidByText := true, laidKinds := [.data, .pinned], laidTests := true, laidLooks := .later }
def NthashOfUptoCardSaid : Prop := Claim7.holds Tryd.pinned (.plain (OpenSpec.upto nthashOfSpec)) nthashOfUptoCard

/-- THE SECOND FORM's CARD OF 'euphroelaw10.NthashThirds'. -/
def nthashThirdsUptoCard : Claim7 := { stood := { row := nthashThirdsUptoRow, standIns := [], harness := (true, "abbe5c948ab38366b2f99f6c5a0cf5dc543033ccf4fdb2eae99cf2a3e00db403"), looks := false }, kinds := [], alts := [], laidByText := true, laidKinds := [.data, .pinned], laidTests := true, laidLooks := .later }
def NthashThirdsUptoCardSaid : Prop := Claim7.holds Tryd.pinned (.plain (OpenSpec.upto nthashThirdsSpec)) nthashThirdsUptoCard

/-- THE SECOND FORM's CARD OF 'euphroelaw12.MppeKeys'. -/
def mppeKeysUptoCard : Claim7 := { stood := { row := mppeKeysUptoRow, standIns := [], harness := (true, "abbe5c948ab38366b2f99f6c5a0cf5dc543033ccf4fdb2eae99cf2a3e00db403"), looks := false }, kinds := [], alts := [], laidByText := true, laidKinds := [.data, .pinned], laidTests := true, laidLooks := .later }
def MppeKeysUptoCardSaid : Prop := Claim7.holds Tryd.pinned (.plain (OpenSpec.upto mppeKeysSpec)) mppeKeysUptoCard

/-- THE SECOND FORM's CARD OF 'euphroelaw12.MppeBoth'. -/
def mppeBothUptoCard : Claim7 := { stood := { row := mppeBothUptoRow, standIns := [], harness := (true, "abbe5c948ab38366b2f99f6c5a0cf5dc543033ccf4fdb2eae99cf2a3e00db403"), looks := false }, kinds := [], alts := [], laidByText := true, laidKinds := [.data, .pinned], laidTests := true, laidLooks := .later }
def MppeBothUptoCardSaid : Prop := Claim7.holds Tryd.pinned (.plain (OpenSpec.upto mppeBothSpec)) mppeBothUptoCard

/-- THE SECOND FORM's CARD OF 'euphroelaw12.MppeUpper'. -/
def mppeUpperUptoCard : Claim7 := { stood := { row := mppeUpperUptoRow, standIns := [], harness := (true, "abbe5c948ab38366b2f99f6c5a0cf5dc543033ccf4fdb2eae99cf2a3e00db403"), looks := false }, kinds := [], alts := [], laidByText := true, laidKinds := [.data, .pinned], laidTests := true, laidLooks := .later }
def MppeUpperUptoCardSaid : Prop := Claim7.holds Tryd.pinned (.plain (OpenSpec.upto mppeUpperSpec)) mppeUpperUptoCard
end Rows
end Go.Proofs.YtdlmhclopdkhcaaDoor
