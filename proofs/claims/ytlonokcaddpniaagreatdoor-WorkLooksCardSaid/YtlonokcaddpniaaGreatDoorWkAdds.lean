/- The law WorkAdds. Conditions: contracts of entry's calls; utf8's tables are laid. Written by gen_wkAdds.py. -/
import Derived.Test.YtlonokcaddpniaaGreatDoorWY
import Derived.Test.YtlonokcaddpniaaGreatDoorWV
set_option linter.unusedSimpArgs false
set_option linter.unusedVariables false
namespace Go.Proofs.YtlonokcaddpniaaGreatDoor
open Go.RowKit
theorem below_refl_drW (w : World) : Below w.heap.size w w.drew := (Below.refl w.heap.size w).drew
end Go.Proofs.YtlonokcaddpniaaGreatDoor
