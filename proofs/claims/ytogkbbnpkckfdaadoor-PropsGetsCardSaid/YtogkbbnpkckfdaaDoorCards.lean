/-
  DERIVED. GIVEN WITH THE SEED: THE CARDS: each row of YtogkbbnpkckfdaaDoorRows.lean that lists a variable, with what it lists TIED to the program's text (the seventh form; the later family's looks); each row that meets fmt, with fmt's text TOLD by the authors' own Lean function (tested against real Go, not proved from fmt's source: count such statements apart). THE CARD IS WHAT COUNTS. Prove the row's statement (the work); the ties are given (YtogkbbnpkckfdaaDoorTie.lean); close each card by the builder's one call (the guide's Derived/Test/ToyasCard.lean, 'card_holds'). Laid BY PROGRAM, IN A SANDBOX (cutbox-door.mjs). By AI agents, Wed Nov 11 2026. No macro, syntax, notation, axiom, sorry.
-/
import Derived.Test.YtogkbbnpkckfdaaDoorRows
import GoSem.ClaimSeven
namespace Go.Proofs.YtogkbbnpkckfdaaDoor
namespace Rows

/-- THE TIED CARD OF 'posthouselaw09.PropsPuts'. -/
def propsPutsCard : Claim7 := { stood := { row := propsPutsRow, standIns := [], harness := (true, "b5cd1742a7e2a62d500e24280a3c06993bc7f5f29126840bebd27c225b529e32"), looks := true }, kinds := [], alts := [], laidByText := true, laidKinds := [.data, .pinned], laidTests := true, laidLooks := .later }
def PropsPutsCardSaid : Prop := Claim7.holds Tryd.pinned (.plain (OpenSpec.ofChange propsPutsSpec)) propsPutsCard

/-- THE TIED CARD OF 'posthouselaw09.PropsGets'. -/
def propsGetsCard : Claim7 := { stood := { row := propsGetsRow, standIns := [], harness := (true, "b5cd1742a7e2a62d500e24280a3c06993bc7f5f29126840bebd27c225b529e32"), looks := true }, kinds := [], alts := [], laidByText := true, laidKinds := [.data, .pinned], laidTests := true, laidLooks := .later }
def PropsGetsCardSaid : Prop := Claim7.holds Tryd.pinned (.plain (OpenSpec.ofChange propsGetsSpec)) propsGetsCard

/-- THE TIED CARD OF 'posthouselaw09.PropsSame'. -/
def propsSameCard : Claim7 := { stood := { row := propsSameRow, standIns := [], harness := (true, "b5cd1742a7e2a62d500e24280a3c06993bc7f5f29126840bebd27c225b529e32"), looks := true }, kinds := [], alts := [], laidByText := true, laidKinds := [.data, .pinned], laidTests := true, laidLooks := .later }
def PropsSameCardSaid : Prop := Claim7.holds Tryd.pinned (.plain (OpenSpec.ofChange propsSameSpec)) propsSameCard

/-- THE TIED CARD OF 'posthouselaw09.PropsBack'. -/
def propsBackCard : Claim7 := { stood := { row := propsBackRow, standIns := [], harness := (true, "b5cd1742a7e2a62d500e24280a3c06993bc7f5f29126840bebd27c225b529e32"), looks := true }, kinds := [], alts := [], laidByText := true, laidKinds := [.data, .pinned], laidTests := true, laidLooks := .later }
def PropsBackCardSaid : Prop := Claim7.holds Tryd.pinned (.plain (OpenSpec.ofChange propsBackSpec)) propsBackCard

/-- THE TIED CARD OF 'posthouselaw09.PropsOne'. -/
def propsOneCard : Claim7 := { stood := { row := propsOneRow, standIns := [], harness := (true, "b5cd1742a7e2a62d500e24280a3c06993bc7f5f29126840bebd27c225b529e32"), looks := true }, kinds := [], alts := [], laidByText := true, laidKinds := [.data, .pinned], laidTests := true, laidLooks := .later }
def PropsOneCardSaid : Prop := Claim7.holds Tryd.pinned (.plain (OpenSpec.ofChange propsOneSpec)) propsOneCard

/-- THE SECOND FORM's CARD OF 'posthouselaw09.PropsPuts'. -/
def propsPutsUptoCard : Claim7 := { stood := { row := propsPutsUptoRow, standIns := [], harness := (true, "b5cd1742a7e2a62d500e24280a3c06993bc7f5f29126840bebd27c225b529e32"), looks := true }, kinds := [], alts := [], laidByText := true, laidKinds := [.data, .pinned], laidTests := true, laidLooks := .later }
def PropsPutsUptoCardSaid : Prop := Claim7.holds Tryd.pinned (.plain (OpenSpec.upto propsPutsSpec)) propsPutsUptoCard

/-- THE SECOND FORM's CARD OF 'posthouselaw09.PropsGets'. -/
def propsGetsUptoCard : Claim7 := { stood := { row := propsGetsUptoRow, standIns := [], harness := (true, "b5cd1742a7e2a62d500e24280a3c06993bc7f5f29126840bebd27c225b529e32"), looks := true }, kinds := [], alts := [], laidByText := true, laidKinds := [.data, .pinned], laidTests := true, laidLooks := .later }
def PropsGetsUptoCardSaid : Prop := Claim7.holds Tryd.pinned (.plain (OpenSpec.upto propsGetsSpec)) propsGetsUptoCard

/-- THE SECOND FORM's CARD OF 'posthouselaw09.PropsSame'. -/
def propsSameUptoCard : Claim7 := { stood := { row := propsSameUptoRow, standIns := [], harness := (true, "b5cd1742a7e2a62d500e24280a3c06993bc7f5f29126840bebd27c225b529e32"), looks := true }, kinds := [], alts := [], laidByText := true, laidKinds := [.data, .pinned], laidTests := true, laidLooks := .later }
def PropsSameUptoCardSaid : Prop := Claim7.holds Tryd.pinned (.plain (OpenSpec.upto propsSameSpec)) propsSameUptoCard

/-- THE SECOND FORM's CARD OF 'posthouselaw09.PropsBack'. -/
def propsBackUptoCard : Claim7 := { stood := { row := propsBackUptoRow, standIns := [], harness := (true, "b5cd1742a7e2a62d500e24280a3c06993bc7f5f29126840bebd27c225b529e32"), looks := true }, kinds := [], alts := [], laidByText := true, laidKinds := [.data, .pinned], laidTests := true, laidLooks := .later }
def PropsBackUptoCardSaid : Prop := Claim7.holds Tryd.pinned (.plain (OpenSpec.upto propsBackSpec)) propsBackUptoCard

/-- THE SECOND FORM's CARD OF 'posthouselaw09.PropsOne'. -/
def propsOneUptoCard : Claim7 := { stood := { row := propsOneUptoRow, standIns := [], harness := (true, "b5cd1742a7e2a62d500e24280a3c06993bc7f5f29126840bebd27c225b529e32"), looks := true }, kinds := [], alts := [], laidByText := true, laidKinds := [.data, .pinned], laidTests := true, laidLooks := .later }
def PropsOneUptoCardSaid : Prop := Claim7.holds Tryd.pinned (.plain (OpenSpec.upto propsOneSpec)) propsOneUptoCard
end Rows
end Go.Proofs.YtogkbbnpkckfdaaDoor
