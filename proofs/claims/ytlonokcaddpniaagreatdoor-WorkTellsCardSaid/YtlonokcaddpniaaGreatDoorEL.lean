/- Entries: Same, the program's. No condition. Written by gen_enN.py. (Texts joined.) -/
import Derived.Test.YtlonokcaddpniaaGreatDoorEB
import Derived.Test.YtlonokcaddpniaaGreatDoorKX
set_option linter.unusedSimpArgs false
set_option linter.unusedVariables false
namespace Go.Proofs.YtlonokcaddpniaaGreatDoor
open Go.RowKit
theorem pt_same (q body q2 body2 : ByteArray) (id id2 : Int) (pr pr2 : PT) : (PtT.mk q id pr body).p = (PtT.mk q2 id2 pr2 body2).p ↔ q = q2 ∧ id = id2 ∧ body = body2 ∧ pr.p = pr2.p := by
  show Pt.mk _ _ _ _ = Pt.mk _ _ _ _ ↔ _
  rw [Pt.mk.injEq]; exact ⟨fun h => ⟨h.1, h.2.1, h.2.2.2, h.2.2.1⟩, fun h => ⟨h.1, h.2.1, h.2.2.2, h.2.2.1⟩⟩
set_option maxRecDepth 100000 in
set_option maxHeartbeats 800000 in
theorem rf_neq (w : World) (q q2 : ByteArray) (i i2 : Int) : (binOp .neq 37 (.agg #[.string q, .int .u64 i]) (.agg #[.string q2, .int .u64 i2])).run Tryz.prog w = .ok (.bool (!(q == q2 && i == i2))) w := by
  have hf : Tryz.prog.fieldsOf 37 = (match Tryz.prog.underlying 37 with | some (.struct fs) => fs | _ => #[]) := rfl; rw [Tryz.underlying37] at hf; simp only at hf; rw [run_neq_struct, show (10000 : Nat) = 9999 + 1 from rfl, run_equalIn_agg w 9999 _ _ _ (by rw [hf]; exact Tryz.underlying37) (by kernel_rfl), hf]; cases h1 : (q == q2) <;> cases h2 : (i == i2) <;> simp [go_sem, bytes_beq, h1, h2]
theorem says_dec' {B : Nat} {w w' : World} {Q : Prop} {e : Ending} (h : Says B w Q e w') (b : Bool) (hb : b = true ↔ Q) : e = .returned (.bool b) ∧ Below B w w' := by
  obtain ⟨⟨c, rfl, hc⟩, hB⟩ := h; refine ⟨?_, hB⟩; have : c = b := by cases b <;> cases c <;> simp_all
  rw [this]
theorem rf_eqb (q q2 : ByteArray) (i i2 : Int) : (q == q2 && i == i2) = true ↔ (⟨q, i⟩ : Rf) = ⟨q2, i2⟩ := by
  rw [Rf.mk.injEq, Bool.and_eq_true, beq_toListBytes, beq_iff_eq, beq_iff_eq]; exact ⟨fun h => ⟨toList_inj h.1, h.2⟩, fun h => ⟨by rw [h.1], h.2⟩⟩
theorem en_same (k n k2 n2 : Int) (s s2 : ByteArray) (x x2 : Xn) (pv tv pv2 tv2 : Value) (P P2 : List PtT) (T T2 : List Rf) : (EnT.mk k s n x pv tv P T).e = (EnT.mk k2 s2 n2 x2 pv2 tv2 P2 T2).e ↔ k = k2 ∧ s = s2 ∧ n = n2 ∧ x = x2 ∧ T = T2 ∧ P.map PtT.p = P2.map PtT.p := by
  show En.mk _ _ _ _ _ _ = En.mk _ _ _ _ _ _ ↔ _
  rw [En.mk.injEq]; exact ⟨fun h => ⟨h.1, h.2.1, h.2.2.1, h.2.2.2.1, h.2.2.2.2.2, h.2.2.2.2.1⟩, fun h => ⟨h.1, h.2.1, h.2.2.1, h.2.2.2.1, h.2.2.2.2.2, h.2.2.2.2.1⟩⟩
theorem xn_eqb (xf yf : Int) (xg xb yg yb : ByteArray) : (xf == yf && (xg == yg && xb == yb)) = true ↔ ((xf, xg, xb) : Xn) = (yf, yg, yb) := by
  rw [Prod.mk.injEq, Prod.mk.injEq, Bool.and_eq_true, Bool.and_eq_true, beq_iff_eq, beq_toListBytes, beq_toListBytes, beq_iff_eq, beq_iff_eq]; exact ⟨fun h => ⟨h.1, toList_inj h.2.1, toList_inj h.2.2⟩, fun h => ⟨h.1, by rw [h.2.1], by rw [h.2.2]⟩⟩
end Go.Proofs.YtlonokcaddpniaaGreatDoor
