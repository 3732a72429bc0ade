/- Package disk: what List and maps.Clone do, as statements (proved in DkG): so that the walks need not import the shelf. Conditions: none. -/
import Derived.Test.YtgpdbifgbabnnaaDkC
import Derived.Test.YtgpdbifgbabnnaaStrs0
namespace Go.Proofs.Ytgpdbifgbabnnaa
open Go.RowKit Go.Maps
/-- What List does. -/
def ListOk : Prop := ∀ (w : World) (d b : Nat) (s : DS), Disk w d b s → DOk s → s.L.length < 1000000 →
    Calls Try.prog 14 #[.pointer (some ⟨d, 0, none⟩)] w fun e w' => ∃ v, e = .returned v ∧ Own w.heap.size 9 1 strEnc w' v (s.L.map Fl.n) ∧ Below w.heap.size w w'
/-- What maps.Clone does. -/
def CloneOk : Prop := ∀ (w : World) (b : Nat) (L : List Fl), FilesM w b L L.length →
    Calls Try.prog 44 #[.map (some b)] w fun e w' => e = .returned (.map (some w.heap.size)) ∧ FilesM w' w.heap.size L L.length ∧ Below w.heap.size w w'
end Go.Proofs.Ytgpdbifgbabnnaa
