/- Entries: the document's Small. No condition. Written by gen_enS.py. (Texts joined.) -/
import Derived.Test.YtflglpbjapgciaaGreatDoorEO
set_option linter.unusedSimpArgs false
set_option linter.unusedVariables false
namespace Go.Proofs.YtflglpbjapgciaaGreatDoor
open Go.RowKit
end Go.Proofs.YtflglpbjapgciaaGreatDoor
