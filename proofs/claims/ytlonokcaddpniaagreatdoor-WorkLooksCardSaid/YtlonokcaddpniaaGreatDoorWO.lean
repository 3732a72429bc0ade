/- The contracts of posthouseref13's calls that chapter 17's walks ask for. Conditions: none. (Texts joined.) -/
import Derived.Test.YtlonokcaddpniaaGreatDoorEB
import Derived.Test.YtlonokcaddpniaaGreatDoorEE
import Derived.Test.YtlonokcaddpniaaGreatDoorEY
import Derived.Test.YtlonokcaddpniaaGreatDoorWJ
import Derived.Test.YtlonokcaddpniaaGreatDoorEDA
import Derived.Test.YtlonokcaddpniaaGreatDoorWR
set_option linter.unusedSimpArgs false
set_option linter.unusedVariables false
namespace Go.Proofs.YtlonokcaddpniaaGreatDoor
open Go.RowKit
theorem ck_ok : CkOk := fun t P w hR hT => echeck_any t P w hR hT
theorem pu_ok : PuOk := fun t P w hR hT => eput_any t P w hR hT
theorem ge_ok : GeOk := by
  intro w s q hw h0 hs hT; have hs2 := en_text.1 hs; have h := eget0_hap w s (by have := en_len h0; rw [hs2, ba_len] at this; omega) hT (by rw [← hs2]; exact enHap_put q hw (en_ok.1 h0) _ rfl) (by rw [← hs2, egO_bytes hw h0]; simp); rw [← hs2, egO_bytes hw h0] at h; exact h
theorem mp_ok : MpOk := fun t P w hR hq => dmayput_any t P w hR hq
theorem dq_ok : DqOk := fun w s h => dqname_any w s h
theorem di_ok : DiOk := fun w n => did_any w n
end Go.Proofs.YtlonokcaddpniaaGreatDoor
