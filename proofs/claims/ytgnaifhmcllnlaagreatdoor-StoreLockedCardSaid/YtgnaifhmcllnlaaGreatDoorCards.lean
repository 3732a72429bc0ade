/-
  DERIVED. GIVEN WITH THE SEED: THE CARDS: each row of YtgnaifhmcllnlaaGreatDoorRows.lean that lists a variable, with what it lists TIED to the program's text (the seventh form; the later family's looks); each row that meets fmt, with fmt's text TOLD by the authors' own Lean function (tested against real Go, not proved from fmt's source: count such statements apart). THE CARD IS WHAT COUNTS. Prove the row's statement (the work); the ties are given (YtgnaifhmcllnlaaGreatDoorTie.lean); close each card by the builder's one call (the guide's Derived/Test/ToyasCard.lean, 'card_holds'). Laid BY PROGRAM, IN A SANDBOX (cutbox-door.mjs). By AI agents, Wed Nov 11 2026. No macro, syntax, notation, axiom, sorry.
-/
import Derived.Test.YtgnaifhmcllnlaaGreatDoorRows
import GoSem.ClaimSeven
namespace Go.Proofs.YtgnaifhmcllnlaaGreatDoor
namespace Rows

/-- THE TIED CARD OF 'posthouselaw14.StoreApplies'. -/
def storeAppliesCard : Claim7 := { stood := { row := storeAppliesRow, standIns := [], harness := (true, "5c1f1e83da9efec3434e3b7b4d3eb5c7a7454b1ad1b574b023bbed80288a07af"), looks := true }, kinds := [], alts := [], laidByText := true, laidKinds := [.data, .pinned], laidTests := true, laidLooks := .later }
def StoreAppliesCardSaid : Prop := Claim7.holds Tryz.pinned (.plain (OpenSpec.ofChange storeAppliesSpec)) storeAppliesCard

/-- THE TIED CARD OF 'posthouselaw14.StoreRuns'. -/
def storeRunsCard : Claim7 := { stood := { row := storeRunsRow, standIns := [], harness := (true, "5c1f1e83da9efec3434e3b7b4d3eb5c7a7454b1ad1b574b023bbed80288a07af"), looks := true }, kinds := [], alts := [], laidByText := true, laidKinds := [.data, .pinned], laidTests := true, laidLooks := .later }
def StoreRunsCardSaid : Prop := Claim7.holds Tryz.pinned (.plain (OpenSpec.ofChange storeRunsSpec)) storeRunsCard

/-- THE TIED CARD OF 'posthouselaw14.StoreLocked'. -/
def storeLockedCard : Claim7 := { stood := { row := storeLockedRow, standIns := [], harness := (true, "5c1f1e83da9efec3434e3b7b4d3eb5c7a7454b1ad1b574b023bbed80288a07af"), looks := true }, kinds := [], alts := [], laidByText := true, laidKinds := [.data, .pinned], laidTests := true, laidLooks := .later }
def StoreLockedCardSaid : Prop := Claim7.holds Tryz.pinned (.plain (OpenSpec.ofChange storeLockedSpec)) storeLockedCard

/-- THE TIED CARD OF 'posthouselaw14.StoreBranch'. -/
def storeBranchCard : Claim7 := { stood := { row := storeBranchRow, standIns := [], harness := (true, "5c1f1e83da9efec3434e3b7b4d3eb5c7a7454b1ad1b574b023bbed80288a07af"), looks := true }, kinds := [], alts := [], laidByText := true, laidKinds := [.data, .pinned], laidTests := true, laidLooks := .later }
def StoreBranchCardSaid : Prop := Claim7.holds Tryz.pinned (.plain (OpenSpec.ofChange storeBranchSpec)) storeBranchCard

/-- THE SECOND FORM's CARD OF 'posthouselaw14.StoreApplies'. -/
def storeAppliesUptoCard : Claim7 := { stood := { row := storeAppliesUptoRow, standIns := [], harness := (true, "5c1f1e83da9efec3434e3b7b4d3eb5c7a7454b1ad1b574b023bbed80288a07af"), looks := true }, kinds := [], alts := [], laidByText := true, laidKinds := [.data, .pinned], laidTests := true, laidLooks := .later }
def StoreAppliesUptoCardSaid : Prop := Claim7.holds Tryz.pinned (.plain (OpenSpec.upto storeAppliesSpec)) storeAppliesUptoCard

/-- THE SECOND FORM's CARD OF 'posthouselaw14.StoreRuns'. -/
def storeRunsUptoCard : Claim7 := { stood := { row := storeRunsUptoRow, standIns := [], harness := (true, "5c1f1e83da9efec3434e3b7b4d3eb5c7a7454b1ad1b574b023bbed80288a07af"), looks := true }, kinds := [], alts := [], laidByText := true, laidKinds := [.data, .pinned], laidTests := true, laidLooks := .later }
def StoreRunsUptoCardSaid : Prop := Claim7.holds Tryz.pinned (.plain (OpenSpec.upto storeRunsSpec)) storeRunsUptoCard

/-- THE SECOND FORM's CARD OF 'posthouselaw14.StoreLocked'. -/
def storeLockedUptoCard : Claim7 := { stood := { row := storeLockedUptoRow, standIns := [], harness := (true, "5c1f1e83da9efec3434e3b7b4d3eb5c7a7454b1ad1b574b023bbed80288a07af"), looks := true }, kinds := [], alts := [], laidByText := true, laidKinds := [.data, .pinned], laidTests := true, laidLooks := .later }
def StoreLockedUptoCardSaid : Prop := Claim7.holds Tryz.pinned (.plain (OpenSpec.upto storeLockedSpec)) storeLockedUptoCard

/-- THE SECOND FORM's CARD OF 'posthouselaw14.StoreBranch'. -/
def storeBranchUptoCard : Claim7 := { stood := { row := storeBranchUptoRow, standIns := [], harness := (true, "5c1f1e83da9efec3434e3b7b4d3eb5c7a7454b1ad1b574b023bbed80288a07af"), looks := true }, kinds := [], alts := [], laidByText := true, laidKinds := [.data, .pinned], laidTests := true, laidLooks := .later }
def StoreBranchUptoCardSaid : Prop := Claim7.holds Tryz.pinned (.plain (OpenSpec.upto storeBranchSpec)) storeBranchUptoCard
end Rows
end Go.Proofs.YtgnaifhmcllnlaaGreatDoor
