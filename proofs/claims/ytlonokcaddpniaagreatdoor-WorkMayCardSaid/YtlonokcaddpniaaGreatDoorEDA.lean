/- Entries: what MayPut tells, plain. Conditions: none. -/
import Derived.Test.YtlonokcaddpniaaGreatDoorEA
set_option linter.unusedSimpArgs false
set_option linter.unusedVariables false
namespace Go.Proofs.YtlonokcaddpniaaGreatDoor
end Go.Proofs.YtlonokcaddpniaaGreatDoor
