/-
  DERIVED. GIVEN WITH THE SEED: THE CARDS: each row of YtflglpbjapgciaaGreatDoorRows.lean that lists a variable, with what it lists TIED to the program's text (the seventh form; the later family's looks); each row that meets fmt, with fmt's text TOLD by the authors' own Lean function (tested against real Go, not proved from fmt's source: count such statements apart). THE CARD IS WHAT COUNTS. Prove the row's statement (the work); the ties are given (YtflglpbjapgciaaGreatDoorTie.lean); close each card by the builder's one call (the guide's Derived/Test/ToyasCard.lean, 'card_holds'). Laid BY PROGRAM, IN A SANDBOX (cutbox-door.mjs). By AI agents, Wed Nov 11 2026. No macro, syntax, notation, axiom, sorry.
-/
import Derived.Test.YtflglpbjapgciaaGreatDoorRows
import GoSem.ClaimSeven
namespace Go.Proofs.YtflglpbjapgciaaGreatDoor
namespace Rows

/-- THE TIED CARD OF 'posthouselaw13.EntryPuts'. -/
def entryPutsCard : Claim7 := { stood := { row := entryPutsRow, standIns := [], harness := (true, "fec65c42124595deb9a633c5a6478cf09141801f86878e744176300d7300e680"), looks := true }, kinds := [], alts := [], laidByText := true, laidKinds := [.data, .pinned], laidTests := true, laidLooks := .later }
def EntryPutsCardSaid : Prop := Claim7.holds Tryz.pinned (.plain (OpenSpec.ofChange entryPutsSpec)) entryPutsCard

/-- THE TIED CARD OF 'posthouselaw13.EntryGets'. -/
def entryGetsCard : Claim7 := { stood := { row := entryGetsRow, standIns := [], harness := (true, "fec65c42124595deb9a633c5a6478cf09141801f86878e744176300d7300e680"), looks := true }, kinds := [], alts := [], laidByText := true, laidKinds := [.data, .pinned], laidTests := true, laidLooks := .later }
def EntryGetsCardSaid : Prop := Claim7.holds Tryz.pinned (.plain (OpenSpec.ofChange entryGetsSpec)) entryGetsCard

/-- THE SECOND FORM's CARD OF 'posthouselaw13.EntryPuts'. -/
def entryPutsUptoCard : Claim7 := { stood := { row := entryPutsUptoRow, standIns := [], harness := (true, "fec65c42124595deb9a633c5a6478cf09141801f86878e744176300d7300e680"), looks := true }, kinds := [], alts := [], laidByText := true, laidKinds := [.data, .pinned], laidTests := true, laidLooks := .later }
def EntryPutsUptoCardSaid : Prop := Claim7.holds Tryz.pinned (.plain (OpenSpec.upto entryPutsSpec)) entryPutsUptoCard

/-- THE SECOND FORM's CARD OF 'posthouselaw13.EntryGets'. -/
def entryGetsUptoCard : Claim7 := { stood := { row := entryGetsUptoRow, standIns := [], harness := (true, "fec65c42124595deb9a633c5a6478cf09141801f86878e744176300d7300e680"), looks := true }, kinds := [], alts := [], laidByText := true, laidKinds := [.data, .pinned], laidTests := true, laidLooks := .later }
def EntryGetsUptoCardSaid : Prop := Claim7.holds Tryz.pinned (.plain (OpenSpec.upto entryGetsSpec)) entryGetsUptoCard
end Rows
end Go.Proofs.YtflglpbjapgciaaGreatDoor
