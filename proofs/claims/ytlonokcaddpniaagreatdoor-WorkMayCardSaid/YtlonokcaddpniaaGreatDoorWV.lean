/- posthouseref17.Same, Small. Conditions: contracts of posthouseref13's calls. Written by gen_wkX.py. (Texts joined.) -/
import Derived.Test.YtlonokcaddpniaaGreatDoorWR
import Derived.Test.YtlonokcaddpniaaGreatDoorWH
import Derived.Test.YtlonokcaddpniaaGreatDoorEO
set_option linter.unusedSimpArgs false
set_option linter.unusedVariables false
namespace Go.Proofs.YtlonokcaddpniaaGreatDoor
open Go.RowKit
set_option maxRecDepth 100000 in
set_option maxHeartbeats 3200000 in
theorem dsmall17_any (t : WkT) (P : Nat → Prop) (w : World) (hR : WkRd P w t) : Calls Tryz.prog 7 #[t.arg] w (Tells w.heap.size w (SmEn t.en)) := by
  have h0 : EnRd P w ⟨0, ⟨#[]⟩, 0, Xn.zero, t.pv, t.tv, t.puts, t.takes⟩ := hR.as 0 ⟨#[]⟩ 0 Xn.zero (by omega) (by omega) (by omega) (by omega) (by show (0 : Int) ≤ 0; omega) (by show (0 : Int) < 4294967296; omega); have hs := fun (u : World) (h : Below w.heap.size w u) => edsmall_any _ P u (h0.pure h)
  have hq : SmEn ⟨0, ⟨#[]⟩, 0, Xn.zero, t.pv, t.tv, t.puts, t.takes⟩ → SmEn t.en := fun h => ⟨h.nt, h.name, h.np, h.puts, h.bodies, h.takes⟩
  obtain ⟨Q, hQ⟩ : ∃ Q, SmEn t.en = Q := ⟨_, rfl⟩
  obtain ⟨Q0, hQ0⟩ : ∃ Q, SmEn ⟨0, ⟨#[]⟩, 0, Xn.zero, t.pv, t.tv, t.puts, t.takes⟩ = Q := ⟨_, rfl⟩
  rw [hQ, hQ0] at hq; rw [hQ0] at hs; rw [hQ]; obtain ⟨pa, pc, ta, tc, puts, takes, rfl, -, -⟩ := wkrd_open hR; rw [WkT.arg_mk]; unfold Xn.zero at hs; simp only [EnT.arg_mk] at hs; have hsh := Lib.hid hs; have hqh := Lib.hid hq; clear hs hq hR h0 hQ hQ0; have zi := w_einfo; have hB1 := (Below.refl w.heap.size w).alloc (Nat.le_refl _) (.cells #[.slice pa puts.length pc, .slice ta takes.length tc] 25); have A1 := Blk.new w [.slice pa puts.length pc, .slice ta takes.length tc] 25; have a0 := A1.at 0 rfl; have a1 := A1.at 1 rfl; go_enter Tryz.func7, Tryz.ntmps7; go_wp2_with (go_at_call 32; (with_reducible refine (hsh.out _ hB1).mono ?_); rintro e w2 ⟨⟨b, rfl, hb⟩, hB2⟩; have hT2 := hB1.trans (hB2.mono hB1.size); have hbh := Lib.hid hb; clear hb); go_ret; exact tells_if (fun e => hqh.out (hbh.out e)) hT2
theorem wk_eq {t u : WkT} : t.w = u.w ↔ t.puts.map PtT.p = u.puts.map PtT.p ∧ t.takes = u.takes := by
  show Wk.mk _ _ = Wk.mk _ _ ↔ _
  rw [Wk.mk.injEq]
set_option maxRecDepth 100000 in
set_option maxHeartbeats 3200000 in
theorem dsame17_any (t u : WkT) (P P2 : Nat → Prop) (w : World) (hR : WkRd P w t) (hR2 : WkRd P2 w u) : Calls Tryz.prog 15 #[t.arg, u.arg] w (Says w.heap.size w (t.w = u.w)) := by
  rw [show (t.w = u.w) = (t.puts.map PtT.p = u.puts.map PtT.p ∧ t.takes = u.takes) from propext wk_eq]; obtain ⟨pa, pc, ta, tc, puts, takes, rfl, hpl, htl⟩ := wkrd_open hR; obtain ⟨qa, qc, ua, uc, puts2, takes2, rfl, -, -⟩ := wkrd_open hR2; have hpi : (puts.length : Int) ≤ 9223372036854775807 := by unfold maxLen at hpl; omega
  have hti : (takes.length : Int) ≤ 9223372036854775807 := by unfold maxLen at htl; omega
  have h1 := fun (v : World) (h : Below w.heap.size w v) => dsameputs_any v pa qa pc qc puts puts2 P P2 (hR.p.pure h) (hR2.p.pure h) hpi (fun x hx => (hR.r x hx).pure h) (fun x hx => (hR2.r x hx).pure h)
  have h2 := fun (v : World) (h : Below w.heap.size w v) => dsamerefs_any v ta ua tc uc takes takes2 (hR.s.pure h) (hR2.s.pure h) hti
  simp only [WkT.arg_mk]; show Calls _ _ _ _ (Says w.heap.size w (puts.map PtT.p = puts2.map PtT.p ∧ takes = takes2))
  obtain ⟨Q, hQ⟩ : ∃ Q, (puts.map PtT.p = puts2.map PtT.p) = Q := ⟨_, rfl⟩
  obtain ⟨Q0, hQ0⟩ : ∃ Q, (takes = takes2) = Q := ⟨_, rfl⟩
  rw [hQ] at h1; rw [hQ0] at h2; rw [hQ, hQ0]; have h1h := Lib.hid h1; have h2h := Lib.hid h2; clear h1 h2 hR hR2 hQ hQ0 hpl htl; have hB1 := ((Below.refl w.heap.size w).alloc (Nat.le_refl _) (.cells #[.slice pa puts.length pc, .slice ta takes.length tc] 25)).alloc (by simp) (.cells #[.slice qa puts2.length qc, .slice ua takes2.length uc] 25); have A1 := (Blk.new w [.slice pa puts.length pc, .slice ta takes.length tc] 25).alloc (.cells #[.slice qa puts2.length qc, .slice ua takes2.length uc] 25); have C1 := Blk.newE (w.alloc (.cells #[.slice pa puts.length pc, .slice ta takes.length tc] 25)) [.slice qa puts2.length qc, .slice ua takes2.length uc] 25 (w.heap.size + 1) (by simp); have a0 := A1.at 0 rfl; have c0 := C1.at 0 rfl; go_enter Tryz.func15, Tryz.ntmps15; go_wp2_with (go_at_call 43; (with_reducible refine (h1h.out _ hB1).mono ?_); rintro e w2 ⟨⟨b, rfl, hb⟩, hB2⟩; have hT2 := hB1.trans (hB2.mono hB1.size); have hbh := Lib.hid hb; clear hb; have A2 := A1.pure hB2; have C2 := C1.pure hB2; have b1 := A2.at 1 rfl; have d1 := C2.at 1 rfl; cases b)
  · go_wp2; go_ret; have q0 : ¬ Q := by have := hbh.out; simpa using this
    exact says_no (fun h => q0 h.1) hT2
  · go_wp2_with (go_at_call 44; (with_reducible refine (h2h.out _ hT2).mono ?_); rintro e w3 ⟨⟨c, rfl, hc⟩, hB3⟩; have hT3 := hT2.trans (hB3.mono hT2.size); have hch := Lib.hid hc; clear hc); go_ret; have q1 : Q := by have := hbh.out; simpa using this
    exact says_iff ⟨fun h => ⟨q1, hch.out.1 h⟩, fun h => hch.out.2 h.2⟩ hT3
end Go.Proofs.YtlonokcaddpniaaGreatDoor
