/- Properties: Get, the program's. Conditions: the text is short enough to be in memory; utf8's tables are laid. Written by gen_prI.py. -/
import Derived.Test.YtlonokcaddpniaaGreatDoorPG
import Derived.Test.YtlonokcaddpniaaGreatDoorKJ
import Derived.Deep.CutRange
set_option linter.unusedSimpArgs false
set_option linter.unusedVariables false
namespace Go.Proofs.YtlonokcaddpniaaGreatDoor
open Go.RowKit
theorem below_only {B vb : Nat} {w w1 w2 : World} (h : Below B w w1) (hU : Upd (Only vb) w1 w2) (hv : B ≤ vb) (hB : B ≤ w1.heap.size) : Below B w w2 :=
  h.trans (hU.below hB (fun k hk => by unfold Only at hk; omega))
theorem RdP.other {S : Nat → Prop} {w w' : World} {rb vb : Nat} (h : RdP w rb vb) (hu : Upd S w w') (hS : ¬ S rb) : RdP w' rb vb := ⟨h.1.upd hu hS, h.2⟩
theorem tkR_le1 (n : Nat) (r : RS) : (tkR n r).1.length ≤ r.1.length := by unfold tkR; split <;> simp; omega
theorem zt_rd {P : Nat → Prop} {w : World} : Rd P w (VT.mk 0 0 ⟨#[]⟩ (.slice none 0 0) (.slice none 0 0) [] []) := Rd.leaf (by omega) (by omega) (by omega) (by omega)
theorem pgP_one {L : List UInt8} {d r : Bool} {k : ByteArray} {rK : RS} (h : pgA (L, false) = ((d, r, k), rK)) (h0 : ¬ 0 < rK.1.length) : pgP L = (⟨k, d, r, ⟨#[]⟩, V.zero⟩, rK) := by
  unfold pgP; rw [h]; exact if_neg h0
theorem pgP_two {L : List UInt8} {d r : Bool} {k m : ByteArray} {v : V} {rK rE : RS} (h : pgA (L, false) = ((d, r, k), rK)) (h0 : 0 < rK.1.length) (h1 : pgB rK = ((m, v), rE)) : pgP L = (⟨k, d, r, m, v⟩, rE) := by
  unfold pgP; rw [h]; refine (if_pos h0).trans ?_; rw [h1]
theorem pgO_ok {L : List UInt8} {q : Pr} {rE : RS} (h : pgP L = (q, rE)) (h0 : rE.2 = false) (h1 : q.chk = 0) (h2 : q.bytes = L) : pgO L = some q := by
  rw [pgO_P, h]; exact if_pos ⟨h0, h1, h2⟩
theorem pgO_no {L : List UInt8} {q : Pr} {rE : RS} (h : pgP L = (q, rE)) (h0 : ¬ (rE.2 = false ∧ q.chk = 0 ∧ q.bytes = L)) : pgO L = none := by
  rw [pgO_P, h]; exact if_neg h0
end Go.Proofs.YtlonokcaddpniaaGreatDoor
