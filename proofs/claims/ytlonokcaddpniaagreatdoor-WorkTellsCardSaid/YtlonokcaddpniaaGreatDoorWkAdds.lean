/- The law WorkAdds. Conditions: contracts of entry's calls; utf8's tables are laid. Written by gen_wkAdds.py. -/
import Derived.Test.YtlonokcaddpniaaGreatDoorWY
import Derived.Test.YtlonokcaddpniaaGreatDoorWV
set_option linter.unusedSimpArgs false
set_option linter.unusedVariables false
namespace Go.Proofs.YtlonokcaddpniaaGreatDoor
open Go.RowKit
theorem says_true {B : Nat} {w : World} {Q : Prop} {f : Array Value} {g : FuncId} {u : World} (h : Calls Tryz.prog g f u (Says B w Q)) (q : Q) : Calls Tryz.prog g f u (fun e w' => e = .returned (.bool true) ∧ Below B w w') :=
  h.mono (fun e w' ⟨⟨b, h1, h2⟩, h3⟩ => ⟨by rw [h1, h2.2 q], h3⟩)
end Go.Proofs.YtlonokcaddpniaaGreatDoor
