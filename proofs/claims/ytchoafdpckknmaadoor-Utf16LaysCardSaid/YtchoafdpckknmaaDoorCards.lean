/-
  DERIVED. GIVEN WITH THE SEED: THE CARDS: each row of YtchoafdpckknmaaDoorRows.lean that lists a variable, with what it lists TIED to the program's text (the seventh form; the later family's looks); each row that meets fmt, with fmt's text TOLD by the authors' own Lean function (tested against real Go, not proved from fmt's source: count such statements apart). THE CARD IS WHAT COUNTS. Prove the row's statement (the work); the ties are given (YtchoafdpckknmaaDoorTie.lean); close each card by the builder's one call (the guide's Derived/Test/ToyasCard.lean, 'card_holds'). Laid BY PROGRAM, IN A SANDBOX (cutbox-door.mjs). By AI agents, Wed Nov 11 2026. No macro, syntax, notation, axiom, sorry.
-/
import Derived.Test.YtchoafdpckknmaaDoorRows
import GoSem.ClaimSeven
namespace Go.Proofs.YtchoafdpckknmaaDoor
namespace Rows

/-- THE TIED CARD OF 'euphroelaw09.Utf16Lays'. -/
def utf16LaysCard : Claim7 := { stood := { row := utf16LaysRow, standIns := [], harness := (true, "1063de0dfa8e2e2cacacc2ea057609d4aa9a3a333f98bcf35061ccedba00468a"), looks := false }, kinds := [], alts := [], laidByText := true, laidKinds := [.data, .pinned], laidTests := true, laidLooks := .later }
def Utf16LaysCardSaid : Prop := Claim7.holds Tryd.pinned (.plain (OpenSpec.ofChange utf16LaysSpec)) utf16LaysCard

/-- THE TIED CARD OF 'euphroelaw09.Utf16Back'. -/
def utf16BackCard : Claim7 := { stood := { row := utf16BackRow, standIns := [], harness := (true, "1063de0dfa8e2e2cacacc2ea057609d4aa9a3a333f98bcf35061ccedba00468a"), looks := false }, kinds := [], alts := [], laidByText := true, laidKinds := [.data, .pinned], laidTests := true, laidLooks := .later }
def Utf16BackCardSaid : Prop := Claim7.holds Tryd.pinned (.plain (OpenSpec.ofChange utf16BackSpec)) utf16BackCard

/-- THE TIED CARD OF 'euphroelaw09.Utf16Units'. -/
def utf16UnitsCard : Claim7 := { stood := { row := utf16UnitsRow, standIns := [], harness := (true, "1063de0dfa8e2e2cacacc2ea057609d4aa9a3a333f98bcf35061ccedba00468a"), looks := false }, kinds := [], alts := [], laidByText := true, laidKinds := [.data, .pinned], laidTests := true, laidLooks := .later }
def Utf16UnitsCardSaid : Prop := Claim7.holds Tryd.pinned (.plain (OpenSpec.ofChange utf16UnitsSpec)) utf16UnitsCard

/-- THE SECOND FORM's CARD OF 'euphroelaw09.Utf16Lays'. -/
def utf16LaysUptoCard : Claim7 := { stood := { row := utf16LaysUptoRow, standIns := [], harness := (true, "1063de0dfa8e2e2cacacc2ea057609d4aa9a3a333f98bcf35061ccedba00468a"), looks := false }, kinds := [], alts := [], laidByText := true, laidKinds := [.data, .pinned], laidTests := true, laidLooks := .later }
def Utf16LaysUptoCardSaid : Prop := Claim7.holds Tryd.pinned (.plain (OpenSpec.upto utf16LaysSpec)) utf16LaysUptoCard

/-- THE SECOND FORM's CARD OF 'euphroelaw09.Utf16Back'. -/
def utf16BackUptoCard : Claim7 := { stood := { row := utf16BackUptoRow, standIns := [], harness := (true, "1063de0dfa8e2e2cacacc2ea057609d4aa9a3a333f98bcf35061ccedba00468a"), looks := false }, kinds := [], alts := [], laidByText := true, laidKinds := [.data, .pinned], laidTests := true, laidLooks := .later }
def Utf16BackUptoCardSaid : Prop := Claim7.holds Tryd.pinned (.plain (OpenSpec.upto utf16BackSpec)) utf16BackUptoCard

/-- THE SECOND FORM's CARD OF 'euphroelaw09.Utf16Units'. -/
def utf16UnitsUptoCard : Claim7 := { stood := { row := utf16UnitsUptoRow, standIns := [], harness := (true, "1063de0dfa8e2e2cacacc2ea057609d4aa9a3a333f98bcf35061ccedba00468a"), looks := false }, kinds := [], alts := [], laidByText := true, laidKinds := [.data, .pinned], laidTests := true, laidLooks := .later }
def Utf16UnitsUptoCardSaid : Prop := Claim7.holds Tryd.pinned (.plain (OpenSpec.upto utf16UnitsSpec)) utf16UnitsUptoCard
end Rows
end Go.Proofs.YtchoafdpckknmaaDoor
