/- posthouseref17.Copy, AddPut, AddTake. Conditions: contracts of posthouseref13's calls; sizes. Written by gen_wkU.py. (Texts joined.) -/
import Derived.Test.YtlonokcaddpniaaGreatDoorWE
import Derived.Test.YtlonokcaddpniaaGreatDoorEDA
import Derived.Test.YtlonokcaddpniaaGreatDoorWH
import Derived.Test.YtlonokcaddpniaaGreatDoorEU
import Derived.Test.YtlonokcaddpniaaGreatDoorER
set_option linter.unusedSimpArgs false
set_option linter.unusedVariables false
namespace Go.Proofs.YtlonokcaddpniaaGreatDoor
open Go.RowKit
/-- A work's lists as a copy makes them. -/
theorem CSt.wk {w0 w : World} {v u : Value} {L : List PtT} {T : List Rf} (h : CSt w0 w v L) (hO : Own w0.heap.size 37 2 rfEnc w u T) (hd : ∀ b, v.ownBlock = some b → u.ownBlock ≠ some b) (hp : ∀ p ∈ L, 0 ≤ p.id ∧ p.id < 18446744073709551616) (ht : ∀ r ∈ T, 0 ≤ r.id ∧ r.id < 18446744073709551616) : WkOw w0.heap.size w ⟨v, u, L, T⟩ :=
  ⟨h.o, h.rd, hO, hd, ⟨(by show (0 : Int) ≤ 4; omega), (by show (4 : Int) < 256; omega), (by show (0 : Int) ≤ 0; omega), (by show (0 : Int) < 18446744073709551616; omega), (by show (0 : Int) ≤ 0; omega), (by show (0 : Int) < 4294967296; omega), fun p hp' => by
    obtain ⟨y, hy, rfl⟩ := List.mem_map.1 hp'
    exact ⟨(hp y hy).1, (hp y hy).2, (h.rd y hy).wf⟩, ht⟩⟩
end Go.Proofs.YtlonokcaddpniaaGreatDoor
