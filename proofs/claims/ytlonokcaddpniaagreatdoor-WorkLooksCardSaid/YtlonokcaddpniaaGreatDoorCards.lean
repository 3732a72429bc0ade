/-
  DERIVED. GIVEN WITH THE SEED: THE CARDS: each row of YtlonokcaddpniaaGreatDoorRows.lean that lists a variable, with what it lists TIED to the program's text (the seventh form; the later family's looks); each row that meets fmt, with fmt's text TOLD by the authors' own Lean function (tested against real Go, not proved from fmt's source: count such statements apart). THE CARD IS WHAT COUNTS. Prove the row's statement (the work); the ties are given (YtlonokcaddpniaaGreatDoorTie.lean); close each card by the builder's one call (the guide's Derived/Test/ToyasCard.lean, 'card_holds'). Laid BY PROGRAM, IN A SANDBOX (cutbox-door.mjs). By AI agents, Wed Nov 11 2026. No macro, syntax, notation, axiom, sorry.
-/
import Derived.Test.YtlonokcaddpniaaGreatDoorRows
import GoSem.ClaimSeven
namespace Go.Proofs.YtlonokcaddpniaaGreatDoor
namespace Rows

/-- THE TIED CARD OF 'posthouselaw17.WorkAdds'. -/
def workAddsCard : Claim7 := { stood := { row := workAddsRow, standIns := [], harness := (true, "2d324bda501c1ce112c10d1f08f0013a39d34c1e0c4a56fa96028b28d9f25116"), looks := true }, kinds := [], alts := [], laidByText := true, laidKinds := [.data, .pinned], laidTests := true, laidLooks := .later }
def WorkAddsCardSaid : Prop := Claim7.holds Tryz.pinned (.plain (OpenSpec.ofChange workAddsSpec)) workAddsCard

/-- THE TIED CARD OF 'posthouselaw17.WorkTells'. -/
def workTellsCard : Claim7 := { stood := { row := workTellsRow, standIns := [], harness := (true, "2d324bda501c1ce112c10d1f08f0013a39d34c1e0c4a56fa96028b28d9f25116"), looks := true }, kinds := [], alts := [], laidByText := true, laidKinds := [.data, .pinned], laidTests := true, laidLooks := .later }
def WorkTellsCardSaid : Prop := Claim7.holds Tryz.pinned (.plain (OpenSpec.ofChange workTellsSpec)) workTellsCard

/-- THE TIED CARD OF 'posthouselaw17.WorkMay'. -/
def workMayCard : Claim7 := { stood := { row := workMayRow, standIns := [], harness := (true, "2d324bda501c1ce112c10d1f08f0013a39d34c1e0c4a56fa96028b28d9f25116"), looks := true }, kinds := [], alts := [], laidByText := true, laidKinds := [.data, .pinned], laidTests := true, laidLooks := .later }
def WorkMayCardSaid : Prop := Claim7.holds Tryz.pinned (.plain (OpenSpec.ofChange workMaySpec)) workMayCard

/-- THE TIED CARD OF 'posthouselaw17.WorkLooks'. -/
def workLooksCard : Claim7 := { stood := { row := workLooksRow, standIns := [], harness := (true, "2d324bda501c1ce112c10d1f08f0013a39d34c1e0c4a56fa96028b28d9f25116"), looks := true }, kinds := [], alts := [], laidByText := true, laidKinds := [.data, .pinned], laidTests := true, laidLooks := .later }
def WorkLooksCardSaid : Prop := Claim7.holds Tryz.pinned (.plain (OpenSpec.ofChange workLooksSpec)) workLooksCard

/-- THE SECOND FORM's CARD OF 'posthouselaw17.WorkAdds'. -/
def workAddsUptoCard : Claim7 := { stood := { row := workAddsUptoRow, standIns := [], harness := (true, "2d324bda501c1ce112c10d1f08f0013a39d34c1e0c4a56fa96028b28d9f25116"), looks := true }, kinds := [], alts := [], laidByText := true, laidKinds := [.data, .pinned], laidTests := true, laidLooks := .later }
def WorkAddsUptoCardSaid : Prop := Claim7.holds Tryz.pinned (.plain (OpenSpec.upto workAddsSpec)) workAddsUptoCard

/-- THE SECOND FORM's CARD OF 'posthouselaw17.WorkTells'. -/
def workTellsUptoCard : Claim7 := { stood := { row := workTellsUptoRow, standIns := [], harness := (true, "2d324bda501c1ce112c10d1f08f0013a39d34c1e0c4a56fa96028b28d9f25116"), looks := true }, kinds := [], alts := [], laidByText := true, laidKinds := [.data, .pinned], laidTests := true, laidLooks := .later }
def WorkTellsUptoCardSaid : Prop := Claim7.holds Tryz.pinned (.plain (OpenSpec.upto workTellsSpec)) workTellsUptoCard

/-- THE SECOND FORM's CARD OF 'posthouselaw17.WorkMay'. -/
def workMayUptoCard : Claim7 := { stood := { row := workMayUptoRow, standIns := [], harness := (true, "2d324bda501c1ce112c10d1f08f0013a39d34c1e0c4a56fa96028b28d9f25116"), looks := true }, kinds := [], alts := [], laidByText := true, laidKinds := [.data, .pinned], laidTests := true, laidLooks := .later }
def WorkMayUptoCardSaid : Prop := Claim7.holds Tryz.pinned (.plain (OpenSpec.upto workMaySpec)) workMayUptoCard

/-- THE SECOND FORM's CARD OF 'posthouselaw17.WorkLooks'. -/
def workLooksUptoCard : Claim7 := { stood := { row := workLooksUptoRow, standIns := [], harness := (true, "2d324bda501c1ce112c10d1f08f0013a39d34c1e0c4a56fa96028b28d9f25116"), looks := true }, kinds := [], alts := [], laidByText := true, laidKinds := [.data, .pinned], laidTests := true, laidLooks := .later }
def WorkLooksUptoCardSaid : Prop := Claim7.holds Tryz.pinned (.plain (OpenSpec.upto workLooksSpec)) workLooksUptoCard
end Rows
end Go.Proofs.YtlonokcaddpniaaGreatDoor
