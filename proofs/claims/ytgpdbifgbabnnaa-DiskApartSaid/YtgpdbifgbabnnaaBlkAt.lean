/- A cell of a block that is known whole. Conditions: none. -/
import Derived.Test.YtgpdbifgbabnnaaLib
namespace Go.Proofs.Ytgpdbifgbabnnaa
open Go.RowKit
theorem Blk.at {w : World} {b : Nat} {cs : List Value} (h : Blk w b cs) (i : Nat) {u : Value} (hu : cs[i]? = some u) : w.cell? ⟨b, i, none⟩ = some u := (h.cell i).trans hu
theorem Blk.dr {w : World} {b : Nat} {cs : List Value} (h : Blk w b cs) (n : Nat) : Blk (w.drewN n) b cs := h.pure (below_drewN (Below.refl _ _) n)
end Go.Proofs.Ytgpdbifgbabnnaa
