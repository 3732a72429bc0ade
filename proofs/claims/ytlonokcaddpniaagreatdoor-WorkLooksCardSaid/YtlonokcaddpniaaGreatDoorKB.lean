/- The program's Get. Conditions: the bytes are few enough to be in memory; utf8's tables are laid. Written by gen_getE.py. (Texts joined.) -/
import Derived.Test.YtlonokcaddpniaaGreatDoorKG
import Derived.Test.YtlonokcaddpniaaGreatDoorKM
import Derived.Deep.CutRange
import Derived.Test.YtlonokcaddpniaaGreatDoorKQ
import Derived.Defers
import Derived.Recover
import Derived.Test.YtlonokcaddpniaaGreatDoorKE
set_option linter.unusedSimpArgs false
set_option linter.unusedVariables false
namespace Go.Proofs.YtlonokcaddpniaaGreatDoor
open Go.RowKit
end Go.Proofs.YtlonokcaddpniaaGreatDoor
