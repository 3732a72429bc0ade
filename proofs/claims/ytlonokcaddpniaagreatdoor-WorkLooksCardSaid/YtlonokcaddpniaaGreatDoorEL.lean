/- Entries: Same, the program's. No condition. Written by gen_enN.py. (Texts joined.) -/
import Derived.Test.YtlonokcaddpniaaGreatDoorEB
import Derived.Test.YtlonokcaddpniaaGreatDoorKX
set_option linter.unusedSimpArgs false
set_option linter.unusedVariables false
namespace Go.Proofs.YtlonokcaddpniaaGreatDoor
open Go.RowKit
end Go.Proofs.YtlonokcaddpniaaGreatDoor
