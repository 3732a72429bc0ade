/- Entries: the document's MayPut. Condition: the queue's name is short enough to be in memory. Written by gen_edB.py. (Texts joined.) -/
import Derived.Test.YtlonokcaddpniaaGreatDoorEA
import Derived.Test.YtlonokcaddpniaaGreatDoorKC
import Derived.Test.YtlonokcaddpniaaGreatDoorPC
set_option linter.unusedSimpArgs false
set_option linter.unusedVariables false
namespace Go.Proofs.YtlonokcaddpniaaGreatDoor
open Go.RowKit
/-- Bytes as a string. -/
def bs (l : List UInt8) : ByteArray := ⟨l.toArray⟩
theorem did_any (w : World) (n : Int) : Calls Tryz.prog 59 #[.int .u64 n] w fun e w' => e = .returned (.bool (idOk n)) ∧ w = w' := by
  unfold idOk; by_cases h1 : 1 ≤ n
  · have d1 : decide (1 ≤ n) = true := decide_eq_true h1; obtain ⟨b, hb⟩ : ∃ b, decide (n ≤ 1099511627776) = b := ⟨_, rfl⟩
    rw [d1, hb]; clear h1; go_enter Tryz.func59, Tryz.ntmps59; go_wp2; go_ret; exact ⟨by simp, rfl⟩
  · have d1 : decide (1 ≤ n) = false := decide_eq_false h1; rw [d1]; clear h1; go_enter Tryz.func59, Tryz.ntmps59; go_wp2; go_ret; exact ⟨by simp, rfl⟩
set_option maxRecDepth 100000 in
set_option maxHeartbeats 1600000 in
theorem dxcheck_any (w : World) (xf : Int) (xg xb : ByteArray) : Calls Tryz.prog 47 #[.agg #[.int .u32 xf, .string xg, .string xb]] w fun e w' => e = .returned (.int .i64 (if Xn.okB (xf, xg, xb) then 0 else 40)) ∧ Below w.heap.size w w' := by
  have hB := (Below.refl w.heap.size w).alloc (Nat.le_refl _) (.cells #[.int .u32 xf, .string xg, .string xb] 55); have A1 := Blk.new w [.int .u32 xf, .string xg, .string xb] 55; have a1 := A1.at 1 rfl; have a2 := A1.at 2 rfl; obtain ⟨k, hk⟩ : ∃ k, Xn.okB (xf, xg, xb) = k := ⟨_, rfl⟩
  rw [hk]; unfold Xn.okB at hk; by_cases h0 : 0 < xg.size
  · by_cases h1 : xg.size ≤ 64
    · by_cases h2 : xb.size ≤ 64
      · obtain rfl : true = k := by rw [← hk]; simp [h0, h1, h2]
        have f0 : ¬ ((xg.size : Int) < 1) := by omega
        have f0a : decide ((xg.size : Int) < 1) = false := decide_eq_false f0; have f1 : ¬ ((64 : Int) < (xg.size : Int)) := by omega
        have f1a : decide ((64 : Int) < (xg.size : Int)) = false := decide_eq_false f1; have f2 : ¬ ((64 : Int) < (xb.size : Int)) := by omega
        have f2a : decide ((64 : Int) < (xb.size : Int)) = false := decide_eq_false f2; clear hk h0 h1 h2; go_enter Tryz.func47, Tryz.ntmps47; go_wp2; go_ret; exact ⟨rfl, hB⟩
      · obtain rfl : false = k := by rw [← hk]; simp [h2]
        have f0 : ¬ ((xg.size : Int) < 1) := by omega
        have f0a : decide ((xg.size : Int) < 1) = false := decide_eq_false f0; have f1 : ¬ ((64 : Int) < (xg.size : Int)) := by omega
        have f1a : decide ((64 : Int) < (xg.size : Int)) = false := decide_eq_false f1; have f2 : ((64 : Int) < (xb.size : Int)) := by omega
        have f2a : decide ((64 : Int) < (xb.size : Int)) = true := decide_eq_true f2; clear hk h0 h1 h2; go_enter Tryz.func47, Tryz.ntmps47; go_wp2; go_ret; exact ⟨rfl, hB⟩
    · obtain rfl : false = k := by rw [← hk]; simp [h1]
      have f0 : ¬ ((xg.size : Int) < 1) := by omega
      have f0a : decide ((xg.size : Int) < 1) = false := decide_eq_false f0; have f1 : ((64 : Int) < (xg.size : Int)) := by omega
      have f1a : decide ((64 : Int) < (xg.size : Int)) = true := decide_eq_true f1; clear hk h0 h1; go_enter Tryz.func47, Tryz.ntmps47; go_wp2; go_ret; exact ⟨rfl, hB⟩
  · obtain rfl : false = k := by rw [← hk]; simp [h0]
    have f0 : ((xg.size : Int) < 1) := by omega
    have f0a : decide ((xg.size : Int) < 1) = true := decide_eq_true f0; clear hk h0; go_enter Tryz.func47, Tryz.ntmps47; go_wp2; go_ret; exact ⟨rfl, hB⟩
end Go.Proofs.YtlonokcaddpniaaGreatDoor
namespace Go.Proofs.YtlonokcaddpniaaGreatDoor
def Pt.mayB (p : Pt) : Bool := qn p.q && (decide (p.id = 0) || idOk p.id) && p.pr.smallB && decide (p.body.size ≤ 4096)
theorem may_ok4 (p : Pt) : (p.mayB && decide (p.id = 0)) = p.okB false := by
  unfold Pt.mayB Pt.okB; by_cases h : p.id = 0
  · have e : idOk p.id = false := by rw [h]; rfl
    rw [e, decide_eq_true h]; cases qn p.q <;> cases p.pr.smallB <;> simp
  · rw [decide_eq_false h]; simp
end Go.Proofs.YtlonokcaddpniaaGreatDoor
namespace Go.Proofs.YtlonokcaddpniaaGreatDoor
open Go.RowKit
set_option maxRecDepth 100000 in
set_option maxHeartbeats 6400000 in
theorem dmayput_any (t : PtT) (P : Nat → Prop) (w : World) (hR : Rd P w t.pr.app) (hqs : (t.q.size : Int) < 4611686018427387904) : Calls Tryz.prog 56 #[t.arg] w fun e w' => e = .returned (.bool t.p.mayB) ∧ Below w.heap.size w w' := by
  obtain ⟨q, id, ⟨key, dur, red, mid, uv⟩, body⟩ := t; have hR : Rd _ _ uv := hR; obtain ⟨uk, un, us, uka, ukc, ula, ulc, uks, ul, rfl, -⟩ := hR.open; rw [PtT.arg_mk]; have hqs := Lib.hid (show (q.size : Int) < 4611686018427387904 from hqs); have hB1 := (Below.refl w.heap.size w).alloc (Nat.le_refl _) (.cells #[.string q, .int .u64 id, .string key, .bool dur, .bool red, .string mid, .int .u8 uk, .int .u64 un, .string us, .slice uka uks.length ukc, .slice ula ul.length ulc, .string body] 35); have A1 := Blk.new w [.string q, .int .u64 id, .string key, .bool dur, .bool red, .string mid, .int .u8 uk, .int .u64 un, .string us, .slice uka uks.length ukc, .slice ula ul.length ulc, .string body] 35; have R1 := hR.pure hB1; have hput := d9put_any (PT.mk key dur red mid (VT.mk uk un us (.slice uka uks.length ukc) (.slice ula ul.length ulc) uks ul)) P _ R1; obtain ⟨px, hpx⟩ : ∃ px, (PT.mk key dur red mid (VT.mk uk un us (.slice uka uks.length ukc) (.slice ula ul.length ulc) uks ul)).p = px := ⟨_, rfl⟩
  obtain ⟨cx, hcx⟩ : ∃ cx, px.chk = cx := ⟨_, rfl⟩
  obtain ⟨tx, htx⟩ : ∃ tx, (if cx = 0 then px.text else (⟨#[]⟩ : ByteArray)) = tx := ⟨_, rfl⟩
  rw [hpx, hcx, htx, PT.arg_mk] at hput; have hputh := Lib.hid hput; obtain ⟨qb, hqb⟩ : ∃ b, qn q = b := ⟨_, rfl⟩
  obtain ⟨ib, hib⟩ : ∃ b, idOk id = b := ⟨_, rfl⟩
  obtain ⟨sb, hsb⟩ : ∃ b, px.smallB = b := ⟨_, rfl⟩
  have hok := Lib.hid (show (PtT.mk q id (PT.mk key dur red mid (VT.mk uk un us (.slice uka uks.length ukc) (.slice ula ul.length ulc) uks ul)) body).p.mayB = (qb && (decide (id = 0) || ib) && sb && decide (body.size ≤ 4096)) by rw [← hqb, ← hib, ← hsb, ← hpx]; rfl); have hqbh := Lib.hid hqb; have hibh := Lib.hid hib; have htxh := Lib.hid htx; have hcxh := Lib.hid hcx; have hsbh := Lib.hid hsb; clear hput hpx hcx htx hqb hib hsb; have a0 := A1.at 0 rfl; have a1 := A1.at 1 rfl; have a2 := A1.at 2 rfl; have a3 := A1.at 3 rfl; have a4 := A1.at 4 rfl; have a5 := A1.at 5 rfl; have a6 := A1.at 6 rfl; have a7 := A1.at 7 rfl; have a8 := A1.at 8 rfl; have a9 := A1.at 9 rfl; have a10 := A1.at 10 rfl; have a11 := A1.at 11 rfl; go_enter Tryz.func56, Tryz.ntmps56; go_upto_region 2 with (go_at_call 75; (with_reducible refine (hputh.out).mono ?_); rintro e w2 ⟨rfl, hB2⟩; have A2 := A1.pure hB2; have hT2 := hB1.trans (hB2.mono hB1.size)); clear a0 a1 a2 a3 a4 a5 a6 a7 a8 a9 a10 a11; have a0 := A2.at 0 rfl; have a1 := A2.at 1 rfl; have a2 := A2.at 2 rfl; have a3 := A2.at 3 rfl; have a4 := A2.at 4 rfl; have a5 := A2.at 5 rfl; have a6 := A2.at 6 rfl; have a7 := A2.at 7 rfl; have a8 := A2.at 8 rfl; have a9 := A2.at 9 rfl; have a10 := A2.at 10 rfl; have a11 := A2.at 11 rfl; cases qb
  · skip; go_wp2_with (first | (go_at_call 58; (with_reducible refine (dqname_any _ q hqs.out).mono ?_); rintro e w3 ⟨he, hB3⟩; rw [hqbh.out] at he; subst he; have A3 := A2.pure hB3; have hT3 := hT2.trans (hB3.mono hT2.size); have b0 := A3.at 0 rfl; have b1 := A3.at 1 rfl; have b2 := A3.at 2 rfl; have b3 := A3.at 3 rfl; have b4 := A3.at 4 rfl; have b5 := A3.at 5 rfl; have b6 := A3.at 6 rfl; have b7 := A3.at 7 rfl; have b8 := A3.at 8 rfl; have b9 := A3.at 9 rfl; have b10 := A3.at 10 rfl; have b11 := A3.at 11 rfl) | (go_at_call 59; (with_reducible refine (did_any _ _).mono ?_); rintro e w4 ⟨he, rfl⟩; rw [hibh.out] at he; subst he)); go_ret; exact ⟨by rw [hok.out]; simp, hT3⟩
  by_cases hz : id = 0
  · subst hz; have hid := Lib.hid (show decide ((0 : Int) = 0) = true from rfl); by_cases hc : cx = 0
    rotate_left 1
    · have g1 : (cx == 0) = false := beq_eq_false_iff_ne.2 hc; have hs := Lib.hid (show sb = false by rw [← hsbh.out]; unfold Pr.smallB; rw [decide_eq_false (by rw [hcxh.out]; exact hc)]; rfl); clear hc; go_wp2_with (first | (go_at_call 58; (with_reducible refine (dqname_any _ q hqs.out).mono ?_); rintro e w3 ⟨he, hB3⟩; rw [hqbh.out] at he; subst he; have A3 := A2.pure hB3; have hT3 := hT2.trans (hB3.mono hT2.size); have b0 := A3.at 0 rfl; have b1 := A3.at 1 rfl; have b2 := A3.at 2 rfl; have b3 := A3.at 3 rfl; have b4 := A3.at 4 rfl; have b5 := A3.at 5 rfl; have b6 := A3.at 6 rfl; have b7 := A3.at 7 rfl; have b8 := A3.at 8 rfl; have b9 := A3.at 9 rfl; have b10 := A3.at 10 rfl; have b11 := A3.at 11 rfl) | (go_at_call 59; (with_reducible refine (did_any _ _).mono ?_); rintro e w4 ⟨he, rfl⟩; rw [hibh.out] at he; subst he)); go_ret; exact ⟨by rw [hok.out]; rw [hs.out]; simp, hT3⟩
    subst hc; have hl := Lib.hid (show tx.size = px.bytes.length by have h := htxh.out; rw [if_pos rfl] at h; rw [← h]; rfl); by_cases hz : tx.size ≤ 8192
    rotate_left 1
    · have g2 : decide ((tx.size : Int) ≤ 8192) = false := decide_eq_false (by omega); have g3 : ¬ (tx.size : Int) ≤ 8192 := by omega
      have hs := Lib.hid (show sb = false by rw [← hsbh.out]; unfold Pr.smallB; rw [decide_eq_false (show ¬ px.bytes.length ≤ 8192 by rw [← hl.out]; exact hz)]; simp); clear hz; go_wp2_with (first | (go_at_call 58; (with_reducible refine (dqname_any _ q hqs.out).mono ?_); rintro e w3 ⟨he, hB3⟩; rw [hqbh.out] at he; subst he; have A3 := A2.pure hB3; have hT3 := hT2.trans (hB3.mono hT2.size); have b0 := A3.at 0 rfl; have b1 := A3.at 1 rfl; have b2 := A3.at 2 rfl; have b3 := A3.at 3 rfl; have b4 := A3.at 4 rfl; have b5 := A3.at 5 rfl; have b6 := A3.at 6 rfl; have b7 := A3.at 7 rfl; have b8 := A3.at 8 rfl; have b9 := A3.at 9 rfl; have b10 := A3.at 10 rfl; have b11 := A3.at 11 rfl) | (go_at_call 59; (with_reducible refine (did_any _ _).mono ?_); rintro e w4 ⟨he, rfl⟩; rw [hibh.out] at he; subst he)); go_ret; exact ⟨by rw [hok.out]; rw [hs.out]; simp, hT3⟩
    have g2 : decide ((tx.size : Int) ≤ 8192) = true := decide_eq_true (by omega); have g3 : (tx.size : Int) ≤ 8192 := by omega
    have hs := Lib.hid (show sb = true by rw [← hsbh.out]; unfold Pr.smallB; rw [decide_eq_true hcxh.out, decide_eq_true (show px.bytes.length ≤ 8192 by rw [← hl.out]; exact hz)]; rfl); clear hz; by_cases hb : body.size ≤ 4096
    · have g4 : decide ((body.size : Int) ≤ 4096) = true := decide_eq_true (by omega); have g5 : (body.size : Int) ≤ 4096 := by omega
      have hbb := Lib.hid (show decide (body.size ≤ 4096) = true from decide_eq_true hb); clear hb; go_wp2_with (first | (go_at_call 58; (with_reducible refine (dqname_any _ q hqs.out).mono ?_); rintro e w3 ⟨he, hB3⟩; rw [hqbh.out] at he; subst he; have A3 := A2.pure hB3; have hT3 := hT2.trans (hB3.mono hT2.size); have b0 := A3.at 0 rfl; have b1 := A3.at 1 rfl; have b2 := A3.at 2 rfl; have b3 := A3.at 3 rfl; have b4 := A3.at 4 rfl; have b5 := A3.at 5 rfl; have b6 := A3.at 6 rfl; have b7 := A3.at 7 rfl; have b8 := A3.at 8 rfl; have b9 := A3.at 9 rfl; have b10 := A3.at 10 rfl; have b11 := A3.at 11 rfl) | (go_at_call 59; (with_reducible refine (did_any _ _).mono ?_); rintro e w4 ⟨he, rfl⟩; rw [hibh.out] at he; subst he)); go_ret; exact ⟨by rw [hok.out]; rw [hs.out, hbb.out]; simp, hT3⟩
    · have g4 : decide ((body.size : Int) ≤ 4096) = false := decide_eq_false (by omega); have g5 : ¬ (body.size : Int) ≤ 4096 := by omega
      have hbb := Lib.hid (show decide (body.size ≤ 4096) = false from decide_eq_false hb); clear hb; go_wp2_with (first | (go_at_call 58; (with_reducible refine (dqname_any _ q hqs.out).mono ?_); rintro e w3 ⟨he, hB3⟩; rw [hqbh.out] at he; subst he; have A3 := A2.pure hB3; have hT3 := hT2.trans (hB3.mono hT2.size); have b0 := A3.at 0 rfl; have b1 := A3.at 1 rfl; have b2 := A3.at 2 rfl; have b3 := A3.at 3 rfl; have b4 := A3.at 4 rfl; have b5 := A3.at 5 rfl; have b6 := A3.at 6 rfl; have b7 := A3.at 7 rfl; have b8 := A3.at 8 rfl; have b9 := A3.at 9 rfl; have b10 := A3.at 10 rfl; have b11 := A3.at 11 rfl) | (go_at_call 59; (with_reducible refine (did_any _ _).mono ?_); rintro e w4 ⟨he, rfl⟩; rw [hibh.out] at he; subst he)); go_ret; exact ⟨by rw [hok.out]; rw [hbb.out]; simp, hT3⟩
  have z1 : (id == 0) = false := beq_eq_false_iff_ne.2 hz; have hid := Lib.hid (show decide (id = 0) = false from decide_eq_false hz); cases ib
  · skip; go_wp2_with (first | (go_at_call 58; (with_reducible refine (dqname_any _ q hqs.out).mono ?_); rintro e w3 ⟨he, hB3⟩; rw [hqbh.out] at he; subst he; have A3 := A2.pure hB3; have hT3 := hT2.trans (hB3.mono hT2.size); have b0 := A3.at 0 rfl; have b1 := A3.at 1 rfl; have b2 := A3.at 2 rfl; have b3 := A3.at 3 rfl; have b4 := A3.at 4 rfl; have b5 := A3.at 5 rfl; have b6 := A3.at 6 rfl; have b7 := A3.at 7 rfl; have b8 := A3.at 8 rfl; have b9 := A3.at 9 rfl; have b10 := A3.at 10 rfl; have b11 := A3.at 11 rfl) | (go_at_call 59; (with_reducible refine (did_any _ _).mono ?_); rintro e w4 ⟨he, rfl⟩; rw [hibh.out] at he; subst he)); go_ret; exact ⟨by rw [hok.out]; rw [hid.out]; simp, hT3⟩
  by_cases hc : cx = 0
  rotate_left 1
  · have g1 : (cx == 0) = false := beq_eq_false_iff_ne.2 hc; have hs := Lib.hid (show sb = false by rw [← hsbh.out]; unfold Pr.smallB; rw [decide_eq_false (by rw [hcxh.out]; exact hc)]; rfl); clear hc; go_wp2_with (first | (go_at_call 58; (with_reducible refine (dqname_any _ q hqs.out).mono ?_); rintro e w3 ⟨he, hB3⟩; rw [hqbh.out] at he; subst he; have A3 := A2.pure hB3; have hT3 := hT2.trans (hB3.mono hT2.size); have b0 := A3.at 0 rfl; have b1 := A3.at 1 rfl; have b2 := A3.at 2 rfl; have b3 := A3.at 3 rfl; have b4 := A3.at 4 rfl; have b5 := A3.at 5 rfl; have b6 := A3.at 6 rfl; have b7 := A3.at 7 rfl; have b8 := A3.at 8 rfl; have b9 := A3.at 9 rfl; have b10 := A3.at 10 rfl; have b11 := A3.at 11 rfl) | (go_at_call 59; (with_reducible refine (did_any _ _).mono ?_); rintro e w4 ⟨he, rfl⟩; rw [hibh.out] at he; subst he)); go_ret; exact ⟨by rw [hok.out]; rw [hs.out]; simp, hT3⟩
  subst hc; have hl := Lib.hid (show tx.size = px.bytes.length by have h := htxh.out; rw [if_pos rfl] at h; rw [← h]; rfl); by_cases hz : tx.size ≤ 8192
  rotate_left 1
  · have g2 : decide ((tx.size : Int) ≤ 8192) = false := decide_eq_false (by omega); have g3 : ¬ (tx.size : Int) ≤ 8192 := by omega
    have hs := Lib.hid (show sb = false by rw [← hsbh.out]; unfold Pr.smallB; rw [decide_eq_false (show ¬ px.bytes.length ≤ 8192 by rw [← hl.out]; exact hz)]; simp); clear hz; go_wp2_with (first | (go_at_call 58; (with_reducible refine (dqname_any _ q hqs.out).mono ?_); rintro e w3 ⟨he, hB3⟩; rw [hqbh.out] at he; subst he; have A3 := A2.pure hB3; have hT3 := hT2.trans (hB3.mono hT2.size); have b0 := A3.at 0 rfl; have b1 := A3.at 1 rfl; have b2 := A3.at 2 rfl; have b3 := A3.at 3 rfl; have b4 := A3.at 4 rfl; have b5 := A3.at 5 rfl; have b6 := A3.at 6 rfl; have b7 := A3.at 7 rfl; have b8 := A3.at 8 rfl; have b9 := A3.at 9 rfl; have b10 := A3.at 10 rfl; have b11 := A3.at 11 rfl) | (go_at_call 59; (with_reducible refine (did_any _ _).mono ?_); rintro e w4 ⟨he, rfl⟩; rw [hibh.out] at he; subst he)); go_ret; exact ⟨by rw [hok.out]; rw [hs.out]; simp, hT3⟩
  have g2 : decide ((tx.size : Int) ≤ 8192) = true := decide_eq_true (by omega); have g3 : (tx.size : Int) ≤ 8192 := by omega
  have hs := Lib.hid (show sb = true by rw [← hsbh.out]; unfold Pr.smallB; rw [decide_eq_true hcxh.out, decide_eq_true (show px.bytes.length ≤ 8192 by rw [← hl.out]; exact hz)]; rfl); clear hz; by_cases hb : body.size ≤ 4096
  · have g4 : decide ((body.size : Int) ≤ 4096) = true := decide_eq_true (by omega); have g5 : (body.size : Int) ≤ 4096 := by omega
    have hbb := Lib.hid (show decide (body.size ≤ 4096) = true from decide_eq_true hb); clear hb; go_wp2_with (first | (go_at_call 58; (with_reducible refine (dqname_any _ q hqs.out).mono ?_); rintro e w3 ⟨he, hB3⟩; rw [hqbh.out] at he; subst he; have A3 := A2.pure hB3; have hT3 := hT2.trans (hB3.mono hT2.size); have b0 := A3.at 0 rfl; have b1 := A3.at 1 rfl; have b2 := A3.at 2 rfl; have b3 := A3.at 3 rfl; have b4 := A3.at 4 rfl; have b5 := A3.at 5 rfl; have b6 := A3.at 6 rfl; have b7 := A3.at 7 rfl; have b8 := A3.at 8 rfl; have b9 := A3.at 9 rfl; have b10 := A3.at 10 rfl; have b11 := A3.at 11 rfl) | (go_at_call 59; (with_reducible refine (did_any _ _).mono ?_); rintro e w4 ⟨he, rfl⟩; rw [hibh.out] at he; subst he)); go_ret; exact ⟨by rw [hok.out]; rw [hs.out, hbb.out, hid.out]; simp, hT3⟩
  · have g4 : decide ((body.size : Int) ≤ 4096) = false := decide_eq_false (by omega); have g5 : ¬ (body.size : Int) ≤ 4096 := by omega
    have hbb := Lib.hid (show decide (body.size ≤ 4096) = false from decide_eq_false hb); clear hb; go_wp2_with (first | (go_at_call 58; (with_reducible refine (dqname_any _ q hqs.out).mono ?_); rintro e w3 ⟨he, hB3⟩; rw [hqbh.out] at he; subst he; have A3 := A2.pure hB3; have hT3 := hT2.trans (hB3.mono hT2.size); have b0 := A3.at 0 rfl; have b1 := A3.at 1 rfl; have b2 := A3.at 2 rfl; have b3 := A3.at 3 rfl; have b4 := A3.at 4 rfl; have b5 := A3.at 5 rfl; have b6 := A3.at 6 rfl; have b7 := A3.at 7 rfl; have b8 := A3.at 8 rfl; have b9 := A3.at 9 rfl; have b10 := A3.at 10 rfl; have b11 := A3.at 11 rfl) | (go_at_call 59; (with_reducible refine (did_any _ _).mono ?_); rintro e w4 ⟨he, rfl⟩; rw [hibh.out] at he; subst he)); go_ret; exact ⟨by rw [hok.out]; rw [hbb.out]; simp, hT3⟩
end Go.Proofs.YtlonokcaddpniaaGreatDoor
