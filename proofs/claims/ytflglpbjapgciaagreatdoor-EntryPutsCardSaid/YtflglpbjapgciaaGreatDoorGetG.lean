/- The document's reader of values: values without values in them. Conditions: at most 200 values are left. Written by gen_getF.py. -/
import Derived.Test.YtflglpbjapgciaaGreatDoorKM
namespace Go.Proofs.YtflglpbjapgciaaGreatDoor
set_option linter.unusedSimpArgs false
set_option linter.unusedVariables false
open Go.RowKit


end Go.Proofs.YtflglpbjapgciaaGreatDoor
