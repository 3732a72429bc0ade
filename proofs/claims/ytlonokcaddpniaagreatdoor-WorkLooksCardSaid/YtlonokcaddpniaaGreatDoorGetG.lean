/- The document's reader of values: values without values in them. Conditions: at most 200 values are left. Written by gen_getF.py. -/
import Derived.Test.YtlonokcaddpniaaGreatDoorKM
import Derived.Deep.CutBlock
import Derived.Deep.CutRange
set_option linter.unusedSimpArgs false
set_option linter.unusedVariables false
namespace Go.Proofs.YtlonokcaddpniaaGreatDoor
open Go.RowKit
end Go.Proofs.YtlonokcaddpniaaGreatDoor
