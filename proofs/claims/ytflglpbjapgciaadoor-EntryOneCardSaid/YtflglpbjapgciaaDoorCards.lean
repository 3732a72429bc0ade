/-
  DERIVED. GIVEN WITH THE SEED: THE CARDS: each row of YtflglpbjapgciaaDoorRows.lean that lists a variable, with what it lists TIED to the program's text (the seventh form; the later family's looks); each row that meets fmt, with fmt's text TOLD by the authors' own Lean function (tested against real Go, not proved from fmt's source: count such statements apart). THE CARD IS WHAT COUNTS. Prove the row's statement (the work); the ties are given (YtflglpbjapgciaaDoorTie.lean); close each card by the builder's one call (the guide's Derived/Test/ToyasCard.lean, 'card_holds'). Laid BY PROGRAM, IN A SANDBOX (cutbox-door.mjs). By AI agents, Wed Nov 11 2026. No macro, syntax, notation, axiom, sorry.
-/
import Derived.Test.YtflglpbjapgciaaDoorRows
import GoSem.ClaimSeven
namespace Go.Proofs.YtflglpbjapgciaaDoor
namespace Rows

/-- THE TIED CARD OF 'posthouselaw13.EntryName'. -/
def entryNameCard : Claim7 := { stood := { row := entryNameRow, standIns := [], harness := (true, "0cf9e97d89ca94aeb46ef93ed5424a4873279d9a0dde4cdff1d604e3eb61f8d0"), looks := true }, kinds := [], alts := [], laidByText := true, laidKinds := [.data, .pinned], laidTests := true, laidLooks := .later }
def EntryNameCardSaid : Prop := Claim7.holds Tryd.pinned (.plain (OpenSpec.ofChange entryNameSpec)) entryNameCard

/-- THE TIED CARD OF 'posthouselaw13.EntrySame'. -/
def entrySameCard : Claim7 := { stood := { row := entrySameRow, standIns := [], harness := (true, "0cf9e97d89ca94aeb46ef93ed5424a4873279d9a0dde4cdff1d604e3eb61f8d0"), looks := true }, kinds := [], alts := [], laidByText := true, laidKinds := [.data, .pinned], laidTests := true, laidLooks := .later }
def EntrySameCardSaid : Prop := Claim7.holds Tryd.pinned (.plain (OpenSpec.ofChange entrySameSpec)) entrySameCard

/-- THE TIED CARD OF 'posthouselaw13.EntryBack'. -/
def entryBackCard : Claim7 := { stood := { row := entryBackRow, standIns := [], harness := (true, "0cf9e97d89ca94aeb46ef93ed5424a4873279d9a0dde4cdff1d604e3eb61f8d0"), looks := true }, kinds := [], alts := [], laidByText := true, laidKinds := [.data, .pinned], laidTests := true, laidLooks := .later }
def EntryBackCardSaid : Prop := Claim7.holds Tryd.pinned (.plain (OpenSpec.ofChange entryBackSpec)) entryBackCard

/-- THE TIED CARD OF 'posthouselaw13.EntryOne'. -/
def entryOneCard : Claim7 := { stood := { row := entryOneRow, standIns := [], harness := (true, "0cf9e97d89ca94aeb46ef93ed5424a4873279d9a0dde4cdff1d604e3eb61f8d0"), looks := true }, kinds := [], alts := [], laidByText := true, laidKinds := [.data, .pinned], laidTests := true, laidLooks := .later }
def EntryOneCardSaid : Prop := Claim7.holds Tryd.pinned (.plain (OpenSpec.ofChange entryOneSpec)) entryOneCard

/-- THE SECOND FORM's CARD OF 'posthouselaw13.EntryName'. -/
def entryNameUptoCard : Claim7 := { stood := { row := entryNameUptoRow, standIns := [], harness := (true, "0cf9e97d89ca94aeb46ef93ed5424a4873279d9a0dde4cdff1d604e3eb61f8d0"), looks := true }, kinds := [], alts := [], laidByText := true, laidKinds := [.data, .pinned], laidTests := true, laidLooks := .later }
def EntryNameUptoCardSaid : Prop := Claim7.holds Tryd.pinned (.plain (OpenSpec.upto entryNameSpec)) entryNameUptoCard

/-- THE SECOND FORM's CARD OF 'posthouselaw13.EntrySame'. -/
def entrySameUptoCard : Claim7 := { stood := { row := entrySameUptoRow, standIns := [], harness := (true, "0cf9e97d89ca94aeb46ef93ed5424a4873279d9a0dde4cdff1d604e3eb61f8d0"), looks := true }, kinds := [], alts := [], laidByText := true, laidKinds := [.data, .pinned], laidTests := true, laidLooks := .later }
def EntrySameUptoCardSaid : Prop := Claim7.holds Tryd.pinned (.plain (OpenSpec.upto entrySameSpec)) entrySameUptoCard

/-- THE SECOND FORM's CARD OF 'posthouselaw13.EntryBack'. -/
def entryBackUptoCard : Claim7 := { stood := { row := entryBackUptoRow, standIns := [], harness := (true, "0cf9e97d89ca94aeb46ef93ed5424a4873279d9a0dde4cdff1d604e3eb61f8d0"), looks := true }, kinds := [], alts := [], laidByText := true, laidKinds := [.data, .pinned], laidTests := true, laidLooks := .later }
def EntryBackUptoCardSaid : Prop := Claim7.holds Tryd.pinned (.plain (OpenSpec.upto entryBackSpec)) entryBackUptoCard

/-- THE SECOND FORM's CARD OF 'posthouselaw13.EntryOne'. -/
def entryOneUptoCard : Claim7 := { stood := { row := entryOneUptoRow, standIns := [], harness := (true, "0cf9e97d89ca94aeb46ef93ed5424a4873279d9a0dde4cdff1d604e3eb61f8d0"), looks := true }, kinds := [], alts := [], laidByText := true, laidKinds := [.data, .pinned], laidTests := true, laidLooks := .later }
def EntryOneUptoCardSaid : Prop := Claim7.holds Tryd.pinned (.plain (OpenSpec.upto entryOneSpec)) entryOneUptoCard
end Rows
end Go.Proofs.YtflglpbjapgciaaDoor
