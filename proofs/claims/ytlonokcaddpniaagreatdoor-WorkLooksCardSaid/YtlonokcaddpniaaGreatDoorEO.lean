/- Entries: Same, the document's. No condition. Written by gen_enQ.py. (Texts joined.) -/
import Derived.Test.YtlonokcaddpniaaGreatDoorEL
import Derived.Test.YtlonokcaddpniaaGreatDoorPA
import Derived.Test.YtlonokcaddpniaaGreatDoorKA
set_option linter.unusedSimpArgs false
set_option linter.unusedVariables false
namespace Go.Proofs.YtlonokcaddpniaaGreatDoor
open Go.RowKit
theorem cell_kept {w w' : World} {p : Addr} {v : Value} (h : w.cell? p = some v) (hB : Below w.heap.size w w') : w'.cell? p = some v := by
  rw [World.cell?_of_block (w := w) (hB.block p.block (World.block_lt_of_cell? w p h)), h]
end Go.Proofs.YtlonokcaddpniaaGreatDoor
