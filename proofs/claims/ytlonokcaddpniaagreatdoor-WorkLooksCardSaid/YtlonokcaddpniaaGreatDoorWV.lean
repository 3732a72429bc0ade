/- posthouseref17.Same, Small. Conditions: contracts of posthouseref13's calls. Written by gen_wkX.py. (Texts joined.) -/
import Derived.Test.YtlonokcaddpniaaGreatDoorWR
import Derived.Test.YtlonokcaddpniaaGreatDoorWH
import Derived.Test.YtlonokcaddpniaaGreatDoorEO
set_option linter.unusedSimpArgs false
set_option linter.unusedVariables false
namespace Go.Proofs.YtlonokcaddpniaaGreatDoor
open Go.RowKit
theorem sm_qp {t : WkT} (h : SmEn t.en) : ∀ p ∈ t.puts, (p.q.size : Int) < 4611686018427387904 := fun p hp => by have := (h.puts p hp).q; omega
theorem sm_qt {t : WkT} (h : SmEn t.en) : ∀ r ∈ t.takes, (r.q.size : Int) < 4611686018427387904 := fun r hr => by have := h.takes r hr; omega
set_option maxRecDepth 100000 in
set_option maxHeartbeats 3200000 in
theorem dsmall17_any (t : WkT) (P : Nat → Prop) (w : World) (hR : WkRd P w t) : Calls Tryz.prog 7 #[t.arg] w (Tells w.heap.size w (SmEn t.en)) := by
  have h0 : EnRd P w ⟨0, ⟨#[]⟩, 0, Xn.zero, t.pv, t.tv, t.puts, t.takes⟩ := hR.as 0 ⟨#[]⟩ 0 Xn.zero (by omega) (by omega) (by omega) (by omega) (by show (0 : Int) ≤ 0; omega) (by show (0 : Int) < 4294967296; omega); have hs := fun (u : World) (h : Below w.heap.size w u) => edsmall_any _ P u (h0.pure h)
  have hq : SmEn ⟨0, ⟨#[]⟩, 0, Xn.zero, t.pv, t.tv, t.puts, t.takes⟩ → SmEn t.en := fun h => ⟨h.nt, h.name, h.np, h.puts, h.bodies, h.takes⟩
  obtain ⟨Q, hQ⟩ : ∃ Q, SmEn t.en = Q := ⟨_, rfl⟩
  obtain ⟨Q0, hQ0⟩ : ∃ Q, SmEn ⟨0, ⟨#[]⟩, 0, Xn.zero, t.pv, t.tv, t.puts, t.takes⟩ = Q := ⟨_, rfl⟩
  rw [hQ, hQ0] at hq; rw [hQ0] at hs; rw [hQ]; obtain ⟨pa, pc, ta, tc, puts, takes, rfl, -, -⟩ := wkrd_open hR; rw [WkT.arg_mk]; unfold Xn.zero at hs; simp only [EnT.arg_mk] at hs; have hsh := Lib.hid hs; have hqh := Lib.hid hq; clear hs hq hR h0 hQ hQ0; have zi := w_einfo; have hB1 := (Below.refl w.heap.size w).alloc (Nat.le_refl _) (.cells #[.slice pa puts.length pc, .slice ta takes.length tc] 25); have A1 := Blk.new w [.slice pa puts.length pc, .slice ta takes.length tc] 25; have a0 := A1.at 0 rfl; have a1 := A1.at 1 rfl; go_enter Tryz.func7, Tryz.ntmps7; go_wp2_with (go_at_call 32; (with_reducible refine (hsh.out _ hB1).mono ?_); rintro e w2 ⟨⟨b, rfl, hb⟩, hB2⟩; have hT2 := hB1.trans (hB2.mono hB1.size); have hbh := Lib.hid hb; clear hb); go_ret; exact tells_if (fun e => hqh.out (hbh.out e)) hT2
end Go.Proofs.YtlonokcaddpniaaGreatDoor
