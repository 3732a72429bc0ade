/- Properties: Get, the program's. Conditions: the text is short enough to be in memory; utf8's tables are laid. Written by gen_prI.py. -/
import Derived.Test.YtflglpbjapgciaaGreatDoorPG
import Derived.Test.YtflglpbjapgciaaGreatDoorKJ
namespace Go.Proofs.YtflglpbjapgciaaGreatDoor
set_option linter.unusedSimpArgs false
set_option linter.unusedVariables false
open Go.RowKit
theorem below_only {B vb : Nat} {w w1 w2 : World} (h : Below B w w1) (hU : Upd (Only vb) w1 w2) (hv : B ≤ vb) (hB : B ≤ w1.heap.size) : Below B w w2 :=
  h.trans (hU.below hB (fun k hk => by unfold Only at hk; omega))
theorem RdP.other {S : Nat → Prop} {w w' : World} {rb vb : Nat} (h : RdP w rb vb) (hu : Upd S w w') (hS : ¬ S rb) : RdP w' rb vb := ⟨h.1.upd hu hS, h.2⟩
theorem tkR_le1 (n : Nat) (r : RS) : (tkR n r).1.length ≤ r.1.length := by unfold tkR; split <;> simp; omega
theorem pr_zt : (PT.mk ⟨#[]⟩ false false ⟨#[]⟩ (VT.mk 0 0 ⟨#[]⟩ (.slice none 0 0) (.slice none 0 0) [] [])).p = Pr.zero := by show Pr.mk _ _ _ _ _ = _; rw [show VT.v (VT.mk 0 0 ⟨#[]⟩ (.slice none 0 0) (.slice none 0 0) [] []) = V.zero from VT.zero_v]; rfl
theorem zt_rd {P : Nat → Prop} {w : World} : Rd P w (VT.mk 0 0 ⟨#[]⟩ (.slice none 0 0) (.slice none 0 0) [] []) := Rd.leaf (by omega) (by omega) (by omega) (by omega)
theorem pgP_one {L : List UInt8} {d r : Bool} {k : ByteArray} {rK : RS} (h : pgA (L, false) = ((d, r, k), rK)) (h0 : ¬ 0 < rK.1.length) : pgP L = (⟨k, d, r, ⟨#[]⟩, V.zero⟩, rK) := by
  unfold pgP; rw [h]; exact if_neg h0
theorem pgP_two {L : List UInt8} {d r : Bool} {k m : ByteArray} {v : V} {rK rE : RS} (h : pgA (L, false) = ((d, r, k), rK)) (h0 : 0 < rK.1.length) (h1 : pgB rK = ((m, v), rE)) : pgP L = (⟨k, d, r, m, v⟩, rE) := by
  unfold pgP; rw [h]; refine (if_pos h0).trans ?_; rw [h1]
theorem pgO_ok {L : List UInt8} {q : Pr} {rE : RS} (h : pgP L = (q, rE)) (h0 : rE.2 = false) (h1 : q.chk = 0) (h2 : q.bytes = L) : pgO L = some q := by
  rw [pgO_P, h]; exact if_pos ⟨h0, h1, h2⟩
theorem pgO_no {L : List UInt8} {q : Pr} {rE : RS} (h : pgP L = (q, rE)) (h0 : ¬ (rE.2 = false ∧ q.chk = 0 ∧ q.bytes = L)) : pgO L = none := by
  rw [pgO_P, h]; exact if_neg h0
set_option maxRecDepth 100000 in
set_option maxHeartbeats 25600000 in
theorem p9get_any (w : World) (s : ByteArray) (hs : s.size ≤ 2000000) (hT : Tb w) : Calls Tryz.prog 43 #[.string s] w (GotP w (pgO s.data.toList)) := by
  obtain ⟨L, hLe⟩ : ∃ L, s.data.toList = L := ⟨_, rfl⟩
  have hLl : L.length = s.size := by rw [← hLe]; exact ba_len s
  have hLB : Big L.length := by unfold Big; omega
  have hB1 := (Below.refl w.heap.size w).alloc (Nat.le_refl _) (.cells #[.string ⟨#[]⟩, .bool false, .bool false, .string ⟨#[]⟩, .int .u8 0, .int .u64 0, .string ⟨#[]⟩, .slice none 0 0, .slice none 0 0] 62)
  have Z1 := Blk.new w [.string ⟨#[]⟩, .bool false, .bool false, .string ⟨#[]⟩, .int .u8 0, .int .u64 0, .string ⟨#[]⟩, .slice none 0 0, .slice none 0 0] 62
  obtain ⟨cc, W2, hcv, hS2, hC2⟩ := conv_bytes (w.alloc (.cells #[.string ⟨#[]⟩, .bool false, .bool false, .string ⟨#[]⟩, .int .u8 0, .int .u64 0, .string ⟨#[]⟩, .slice none 0 0, .slice none 0 0] 62)) s (by omega)
  rw [hLe] at hS2 ⊢
  rw [show (w.alloc (.cells #[.string ⟨#[]⟩, .bool false, .bool false, .string ⟨#[]⟩, .int .u8 0, .int .u64 0, .string ⟨#[]⟩, .slice none 0 0, .slice none 0 0] 62)).heap.size = w.heap.size + 1 by simp] at hS2 hcv
  have Z2 := Z1.pure hC2
  have hT2 := hB1.trans (hC2.mono hB1.size)
  have hLeh := Lib.hid hLe
  have hsz := Lib.hid hs
  -- the plain readers
  obtain ⟨r1, hr1⟩ : ∃ r1, (tkR 6 (L, false)).2 = r1 := ⟨_, rfl⟩
  have hL1 : Big r1.1.length := hLB.mono (by rw [← hr1]; exact tkR_le 6 (L, false))
  obtain ⟨⟨f, rF⟩, hF⟩ : ∃ x, nmR 2 r1 = x := ⟨_, rfl⟩
  have hLF : Big rF.1.length := hL1.mono (by have := nmR_le 2 r1; rw [hF] at this; exact this)
  have hf := nmR_lt 2 r1
  rw [hF] at hf
  have hf : f < 65536 := hf
  obtain ⟨db, hdb⟩ : ∃ d, (f % 2 == 1) = d := ⟨_, rfl⟩
  obtain ⟨eb, heb⟩ : ∃ d, (f / 2 % 2 == 1) = d := ⟨_, rfl⟩
  obtain ⟨kb, hkb⟩ : ∃ d, (f / 4 % 2 == 1) = d := ⟨_, rfl⟩
  have a1 := and_1 hf; have a2 := and_2 hf; have a4 := and_4 hf
  rw [hdb] at a1; rw [heb] at a2; rw [hkb] at a4
  obtain ⟨⟨key, rK⟩, hK⟩ : ∃ x, tkTx kb rF = x := ⟨_, rfl⟩
  have hLK : Big rK.1.length := hLF.mono (by have := tkTx_le kb rF; rw [hK] at this; exact this)
  have hpA := Lib.hid (show pgA (L, false) = ((db, eb, key), rK) by unfold pgA; simp only [hr1, hF, hdb, heb, hkb, hK])
  have hr1h := Lib.hid hr1; have hFh := Lib.hid hF; have hKh := Lib.hid hK
  have hLBh := Lib.hid hLB; have hL1h := Lib.hid hL1; have hLFh := Lib.hid hLF; have hLKh := Lib.hid hLK
  have zi := zero_info
  clear hr1 hF hK hLB hL1 hLF hLK hLe hLl hs hf hdb heb hkb
  go_enter Tryz.func43, Tryz.ntmps43
  go_upto_region 5 with (first | (go_at_call 38; refine (oopen_any _ _ L hS2 hLBh.out).mono ?_; rintro e w3 ⟨rb, vb, rfl, hp3, hs3, hvb3, hrb3, hB3⟩; have Z3 := Z2.pure hB3; have hT3 := hT2.trans (hB3.mono hT2.size); have hvb := Lib.hid (show w.heap.size < vb by have h1 := hC2.size; simp at h1; omega); have hvt := Lib.hid (show vb < w3.heap.size from hs3.lt); have hA4 := ((Below.refl w3.heap.size w3).alloc (Nat.le_refl _) (.cells #[.pointer (some ⟨rb, 0, none⟩)] 130)); have Z4 := Z3.pure hA4; have hp4 := hp3.pure hA4; have hs4 := hs3.pure hA4; have hT4 := hT3.trans ((hA4).mono hT3.size); have T4 := Blk.new w3 [.pointer (some ⟨rb, 0, none⟩)] 130; have t0 := T4.at 0 rfl) | (go_at_call 80; refine (ptake_rs _ rb vb (L, false) 6 hp4 hs4 hLBh.out).mono ?_; rintro e w5 ⟨v5, rfl, -, -, hs5, hu5⟩; rw [hr1h.out] at hs5; have Z5 := Z4.upd hu5 (fun e => by have h1 := hvb.out; have h2 : w.heap.size = vb := e; omega); have T5 := T4.upd hu5 (fun e => by have h1 := hvt.out; have h2 : w3.heap.size = vb := e; omega); have hp5 := hp4.upd hu5; have hT5 := below_only hT4 hu5 (by have h1 := hvb.out; omega) hT4.size; have t1 := T5.at 0 rfl) | (go_at_call 39; refine (pnum_rs _ rb vb r1 2 hp5 hs5 (by unfold Wd; omega) hL1h.out).mono ?_; rintro e w6 ⟨he, hs6, hu6⟩; simp only [hFh.out] at he hs6; subst he; have Z6 := Z5.upd hu6 (fun e => by have h1 := hvb.out; have h2 : w.heap.size = vb := e; omega); have T6 := T5.upd hu6 (fun e => by have h1 := hvt.out; have h2 : w3.heap.size = vb := e; omega); have hp6 := hp5.upd hu6; have hT6 := below_only hT5 hu6 (by have h1 := hvb.out; omega) hT5.size; have t2 := T6.at 0 rfl) | (go_at_call 82; refine (preader_any _ rb vb rF kb hp6 hs6 hLFh.out).mono ?_; rintro e w7 ⟨he, hs7, hu7⟩; simp only [hKh.out] at he hs7; subst he; have Z7 := Z6.upd hu7 (fun e => by have h1 := hvb.out; have h2 : w.heap.size = vb := e; omega); have T7 := T6.upd hu7 (fun e => by have h1 := hvt.out; have h2 : w3.heap.size = vb := e; omega); have hp7 := hp6.upd hu7; have hT7 := below_only hT6 hu7 (by have h1 := hvb.out; omega) hT6.size; have hA8 := ((Below.refl w7.heap.size w7).alloc (Nat.le_refl _) (.cells #[.string key, .bool db, .bool eb, .string ⟨#[]⟩, .int .u8 0, .int .u64 0, .string ⟨#[]⟩, .slice none 0 0, .slice none 0 0] 62)); have Z8 := Z7.pure hA8; have hp8 := hp7.pure hA8; have hs8 := hs7.pure hA8; have hT8 := hT7.trans ((hA8).mono hT7.size); have T8 := T7.pure hA8; have P8 := Blk.new w7 [.string key, .bool db, .bool eb, .string ⟨#[]⟩, .int .u8 0, .int .u64 0, .string ⟨#[]⟩, .slice none 0 0, .slice none 0 0] 62; have hvp := Lib.hid (show vb < w7.heap.size from hs7.lt); have htp := Lib.hid (show w3.heap.size < w7.heap.size from T7.lt); have t3 := T8.at 0 rfl))
  clear t0 t1 t2 t3 a1 a2 a4 hcv hu5 hu6 hu7 hs3 hs4 hs5 hs6 hs7 hA4 hA8
  have hrt := Lib.hid (show rb < w3.heap.size from hp3.1.lt)
  generalize World.alloc w7 (.cells #[.string key, .bool db, .bool eb, .string ⟨#[]⟩, .int .u8 0, .int .u64 0, .string ⟨#[]⟩, .slice none 0 0, .slice none 0 0] 62) = W8 at *
  have t3 := T8.at 0 rfl
  clear Z3 Z4 Z5 Z6 Z7 hp3 hp4 hp5 hp6 hp7 T4 T5 T6 T7 hT3 hT4 hT5 hT6 hT7 hB3 hT2 hC2 Z1 Z2 hB1 hS2
  by_cases h0 : 0 < rK.1.length
  rotate_left 1
  · have b0 : decide ((0 : Int) < (rK.1.length : Int)) = false := decide_eq_false (by omega)
    have b9 : ¬ (0 : Int) < (rK.1.length : Int) := by omega
    have h0h := Lib.hid h0
    have hpg := Lib.hid (pgP_one hpA.out h0)
    clear h0
    go_upto_region 11 with (go_at_call 81; (with_reducible refine (left_any _ rb vb rK.1 rK.2 hp8 hs8).mono ?_); rintro e _ ⟨rfl, rfl⟩)
    obtain ⟨q, hq⟩ : ∃ q, (PT.mk key db eb ⟨#[]⟩ (VT.mk 0 0 ⟨#[]⟩ (.slice none 0 0) (.slice none 0 0) [] [])).p = q := ⟨_, rfl⟩
    have hpq := Lib.hid (show pgP L = (q, rK) by rw [← hq]; exact hpg.out)
    have hput := p9put_any (PT.mk key db eb ⟨#[]⟩ (VT.mk 0 0 ⟨#[]⟩ (.slice none 0 0) (.slice none 0 0) [] [])) (fun i => w.heap.size < i) W8 zt_rd (hT.pure hT8)
    obtain ⟨cx, hcx⟩ : ∃ cx, q.chk = cx := ⟨_, rfl⟩
    obtain ⟨tx, htx⟩ : ∃ tx, (if cx = 0 then q.text else (⟨#[]⟩ : ByteArray)) = tx := ⟨_, rfl⟩
    rw [hq, hcx, htx, PT.arg_mk] at hput
    have hputh := Lib.hid hput; have hqh := Lib.hid hq; have hcxh := Lib.hid hcx; have htxh := Lib.hid htx
    clear hput hq hcx htx
    obtain ⟨rE1, bad⟩ := rK
    have p0 := P8.at 0 rfl; have p1 := P8.at 1 rfl; have p2 := P8.at 2 rfl; have p3 := P8.at 3 rfl; have p4 := P8.at 4 rfl; have p5 := P8.at 5 rfl; have p6 := P8.at 6 rfl; have p7 := P8.at 7 rfl; have p8 := P8.at 8 rfl
    by_cases hok : bad = false ∧ cx = 0 ∧ tx = s
    · obtain ⟨rfl, rfl, rfl⟩ := hok
      have hgo : pgO L = some q := pgO_ok hpq.out rfl hcxh.out (by have h1 := htxh.out; rw [if_pos rfl] at h1; exact (text_eq.1 h1).trans hLeh.out)
      have hgoh := Lib.hid hgo; clear hgo
      go_wp2_with (first | (go_at_call 81; (with_reducible refine (left_any _ rb vb rK.1 rK.2 hp8 hs8).mono ?_); rintro e _ ⟨rfl, rfl⟩) | (go_at_call 23; refine (hputh.out).mono ?_; rintro e w20 ⟨rfl, hB20⟩; have Z20 := Z8.pure hB20; have T20 := T8.pure hB20; have P20 := P8.pure hB20; have hp20 := hp8.pure hB20; have hs20 := hs8.pure hB20; have hT20 := hT8.trans (hB20.mono hT8.size); clear p0 p1 p2 p3 p4 p5 p6 p7 p8; have p0 := P20.at 0 rfl; have p1 := P20.at 1 rfl; have p2 := P20.at 2 rfl; have p3 := P20.at 3 rfl; have p4 := P20.at 4 rfl; have p5 := P20.at 5 rfl; have p6 := P20.at 6 rfl; have p7 := P20.at 7 rfl; have p8 := P20.at 8 rfl; have z0 := Z20.at 0 rfl; have z1 := Z20.at 1 rfl; have z2 := Z20.at 2 rfl; have z3 := Z20.at 3 rfl; have z4 := Z20.at 4 rfl; have z5 := Z20.at 5 rfl; have z6 := Z20.at 6 rfl; have z7 := Z20.at 7 rfl; have z8 := Z20.at 8 rfl; have y0 := Z20.frozen 0; have y1 := Z20.frozen 1; have y2 := Z20.frozen 2; have y3 := Z20.frozen 3; have y4 := Z20.frozen 4; have y5 := Z20.frozen 5; have y6 := Z20.frozen 6; have y7 := Z20.frozen 7; have y8 := Z20.frozen 8; have tt := T20.at 0 rfl) | (go_at_call 46; (with_reducible refine (bad_any _ rb vb rE1 _ hp20 hs20).mono ?_); rintro e _ ⟨rfl, rfl⟩))
      have hgo := hgoh.out
      have hv := Upd.at9 w20 w.heap.size (.string key) (.bool db) (.bool eb) (.string ⟨#[]⟩) (.int .u8 0) (.int .u64 0) (.string ⟨#[]⟩) (.slice none 0 0) (.slice none 0 0)
      have K9 := Z20.fresh9 (.string key) (.bool db) (.bool eb) (.string ⟨#[]⟩) (.int .u8 0) (.int .u64 0) (.string ⟨#[]⟩) (.slice none 0 0) (.slice none 0 0)
      unfold set9 at hv K9
      have k0 := K9.at 0 rfl; have k1 := K9.at 1 rfl; have k2 := K9.at 2 rfl; have k3 := K9.at 3 rfl; have k4 := K9.at 4 rfl; have k5 := K9.at 5 rfl; have k6 := K9.at 6 rfl; have k7 := K9.at 7 rfl; have k8 := K9.at 8 rfl
      refine bodyPost_ret (by simp [results, Tryz.results43, go_sem, k0, k1, k2, k3, k4, k5, k6, k7, k8]; rfl) rfl ?_
      have hTz := hT20.trans (hv.below hT20.size (fun i e => by omega))
      exact ⟨PT.mk key db eb ⟨#[]⟩ (VT.mk 0 0 ⟨#[]⟩ (.slice none 0 0) (.slice none 0 0) [] []), by rw [hgo]; rfl, by rw [hgo]; exact hqh.out, zt_rd, hTz⟩
    have hgo : pgO L = none := pgO_no hpq.out (fun e => hok ⟨e.1, hcxh.out.symm.trans e.2.1, by have h1 := htxh.out; rw [if_pos (hcxh.out.symm.trans e.2.1)] at h1; rw [← h1]; exact text_eq.2 (e.2.2.trans hLeh.out.symm)⟩)
    have hgoh := Lib.hid hgo; clear hgo
    cases bad
    rotate_left 1
    · clear hok
      go_wp2_with (first | (go_at_call 81; (with_reducible refine (left_any _ rb vb rK.1 rK.2 hp8 hs8).mono ?_); rintro e _ ⟨rfl, rfl⟩) | (go_at_call 23; refine (hputh.out).mono ?_; rintro e w20 ⟨rfl, hB20⟩; have Z20 := Z8.pure hB20; have T20 := T8.pure hB20; have P20 := P8.pure hB20; have hp20 := hp8.pure hB20; have hs20 := hs8.pure hB20; have hT20 := hT8.trans (hB20.mono hT8.size); clear p0 p1 p2 p3 p4 p5 p6 p7 p8; have p0 := P20.at 0 rfl; have p1 := P20.at 1 rfl; have p2 := P20.at 2 rfl; have p3 := P20.at 3 rfl; have p4 := P20.at 4 rfl; have p5 := P20.at 5 rfl; have p6 := P20.at 6 rfl; have p7 := P20.at 7 rfl; have p8 := P20.at 8 rfl; have z0 := Z20.at 0 rfl; have z1 := Z20.at 1 rfl; have z2 := Z20.at 2 rfl; have z3 := Z20.at 3 rfl; have z4 := Z20.at 4 rfl; have z5 := Z20.at 5 rfl; have z6 := Z20.at 6 rfl; have z7 := Z20.at 7 rfl; have z8 := Z20.at 8 rfl; have y0 := Z20.frozen 0; have y1 := Z20.frozen 1; have y2 := Z20.frozen 2; have y3 := Z20.frozen 3; have y4 := Z20.frozen 4; have y5 := Z20.frozen 5; have y6 := Z20.frozen 6; have y7 := Z20.frozen 7; have y8 := Z20.frozen 8; have tt := T20.at 0 rfl) | (go_at_call 46; (with_reducible refine (bad_any _ rb vb rE1 _ hp20 hs20).mono ?_); rintro e _ ⟨rfl, rfl⟩))
      have hgo := hgoh.out
      have hv := Upd.at9 w20 w.heap.size (.string ⟨#[]⟩) (.bool false) (.bool false) (.string ⟨#[]⟩) (.int .u8 0) (.int .u64 0) (.string ⟨#[]⟩) (.slice none 0 0) (.slice none 0 0)
      have K9 := Z20.fresh9 (.string ⟨#[]⟩) (.bool false) (.bool false) (.string ⟨#[]⟩) (.int .u8 0) (.int .u64 0) (.string ⟨#[]⟩) (.slice none 0 0) (.slice none 0 0)
      unfold set9 at hv K9
      have k0 := K9.at 0 rfl; have k1 := K9.at 1 rfl; have k2 := K9.at 2 rfl; have k3 := K9.at 3 rfl; have k4 := K9.at 4 rfl; have k5 := K9.at 5 rfl; have k6 := K9.at 6 rfl; have k7 := K9.at 7 rfl; have k8 := K9.at 8 rfl
      refine bodyPost_ret (by simp [results, Tryz.results43, go_sem, k0, k1, k2, k3, k4, k5, k6, k7, k8]; rfl) rfl ?_
      have hTz := hT20.trans (hv.below hT20.size (fun i e => by omega))
      exact ⟨PT.mk ⟨#[]⟩ false false ⟨#[]⟩ (VT.mk 0 0 ⟨#[]⟩ (.slice none 0 0) (.slice none 0 0) [] []), by rw [hgo]; rfl, by rw [hgo]; exact pr_zt, zt_rd, hTz⟩
    by_cases hc : cx = 0
    rotate_left 1
    · have b1 : (cx != 0) = true := bne_iff_ne.2 hc
      have b2 : (cx == 0) = false := beq_eq_false_iff_ne.2 hc
      clear hok hc
      go_wp2_with (first | (go_at_call 81; (with_reducible refine (left_any _ rb vb rK.1 rK.2 hp8 hs8).mono ?_); rintro e _ ⟨rfl, rfl⟩) | (go_at_call 23; refine (hputh.out).mono ?_; rintro e w20 ⟨rfl, hB20⟩; have Z20 := Z8.pure hB20; have T20 := T8.pure hB20; have P20 := P8.pure hB20; have hp20 := hp8.pure hB20; have hs20 := hs8.pure hB20; have hT20 := hT8.trans (hB20.mono hT8.size); clear p0 p1 p2 p3 p4 p5 p6 p7 p8; have p0 := P20.at 0 rfl; have p1 := P20.at 1 rfl; have p2 := P20.at 2 rfl; have p3 := P20.at 3 rfl; have p4 := P20.at 4 rfl; have p5 := P20.at 5 rfl; have p6 := P20.at 6 rfl; have p7 := P20.at 7 rfl; have p8 := P20.at 8 rfl; have z0 := Z20.at 0 rfl; have z1 := Z20.at 1 rfl; have z2 := Z20.at 2 rfl; have z3 := Z20.at 3 rfl; have z4 := Z20.at 4 rfl; have z5 := Z20.at 5 rfl; have z6 := Z20.at 6 rfl; have z7 := Z20.at 7 rfl; have z8 := Z20.at 8 rfl; have y0 := Z20.frozen 0; have y1 := Z20.frozen 1; have y2 := Z20.frozen 2; have y3 := Z20.frozen 3; have y4 := Z20.frozen 4; have y5 := Z20.frozen 5; have y6 := Z20.frozen 6; have y7 := Z20.frozen 7; have y8 := Z20.frozen 8; have tt := T20.at 0 rfl) | (go_at_call 46; (with_reducible refine (bad_any _ rb vb rE1 _ hp20 hs20).mono ?_); rintro e _ ⟨rfl, rfl⟩))
      have hgo := hgoh.out
      have hv := Upd.at9 w20 w.heap.size (.string ⟨#[]⟩) (.bool false) (.bool false) (.string ⟨#[]⟩) (.int .u8 0) (.int .u64 0) (.string ⟨#[]⟩) (.slice none 0 0) (.slice none 0 0)
      have K9 := Z20.fresh9 (.string ⟨#[]⟩) (.bool false) (.bool false) (.string ⟨#[]⟩) (.int .u8 0) (.int .u64 0) (.string ⟨#[]⟩) (.slice none 0 0) (.slice none 0 0)
      unfold set9 at hv K9
      have k0 := K9.at 0 rfl; have k1 := K9.at 1 rfl; have k2 := K9.at 2 rfl; have k3 := K9.at 3 rfl; have k4 := K9.at 4 rfl; have k5 := K9.at 5 rfl; have k6 := K9.at 6 rfl; have k7 := K9.at 7 rfl; have k8 := K9.at 8 rfl
      refine bodyPost_ret (by simp [results, Tryz.results43, go_sem, k0, k1, k2, k3, k4, k5, k6, k7, k8]; rfl) rfl ?_
      have hTz := hT20.trans (hv.below hT20.size (fun i e => by omega))
      exact ⟨PT.mk ⟨#[]⟩ false false ⟨#[]⟩ (VT.mk 0 0 ⟨#[]⟩ (.slice none 0 0) (.slice none 0 0) [] []), by rw [hgo]; rfl, by rw [hgo]; exact pr_zt, zt_rd, hTz⟩
    subst hc
    have hne : tx ≠ s := fun e => hok ⟨rfl, rfl, e⟩
    have b1 : ¬ tx.toList = s.toList := ba_toList_ne hne
    have b2 : (tx.toList == s.toList) = false := beq_eq_false_iff_ne.2 b1
    have b3 : (tx != s) = true := ba_bne hne
    clear hok hne
    go_wp2_with (first | (go_at_call 81; (with_reducible refine (left_any _ rb vb rK.1 rK.2 hp8 hs8).mono ?_); rintro e _ ⟨rfl, rfl⟩) | (go_at_call 23; refine (hputh.out).mono ?_; rintro e w20 ⟨rfl, hB20⟩; have Z20 := Z8.pure hB20; have T20 := T8.pure hB20; have P20 := P8.pure hB20; have hp20 := hp8.pure hB20; have hs20 := hs8.pure hB20; have hT20 := hT8.trans (hB20.mono hT8.size); clear p0 p1 p2 p3 p4 p5 p6 p7 p8; have p0 := P20.at 0 rfl; have p1 := P20.at 1 rfl; have p2 := P20.at 2 rfl; have p3 := P20.at 3 rfl; have p4 := P20.at 4 rfl; have p5 := P20.at 5 rfl; have p6 := P20.at 6 rfl; have p7 := P20.at 7 rfl; have p8 := P20.at 8 rfl; have z0 := Z20.at 0 rfl; have z1 := Z20.at 1 rfl; have z2 := Z20.at 2 rfl; have z3 := Z20.at 3 rfl; have z4 := Z20.at 4 rfl; have z5 := Z20.at 5 rfl; have z6 := Z20.at 6 rfl; have z7 := Z20.at 7 rfl; have z8 := Z20.at 8 rfl; have y0 := Z20.frozen 0; have y1 := Z20.frozen 1; have y2 := Z20.frozen 2; have y3 := Z20.frozen 3; have y4 := Z20.frozen 4; have y5 := Z20.frozen 5; have y6 := Z20.frozen 6; have y7 := Z20.frozen 7; have y8 := Z20.frozen 8; have tt := T20.at 0 rfl) | (go_at_call 46; (with_reducible refine (bad_any _ rb vb rE1 _ hp20 hs20).mono ?_); rintro e _ ⟨rfl, rfl⟩))
    have hgo := hgoh.out
    have hv := Upd.at9 w20 w.heap.size (.string ⟨#[]⟩) (.bool false) (.bool false) (.string ⟨#[]⟩) (.int .u8 0) (.int .u64 0) (.string ⟨#[]⟩) (.slice none 0 0) (.slice none 0 0)
    have K9 := Z20.fresh9 (.string ⟨#[]⟩) (.bool false) (.bool false) (.string ⟨#[]⟩) (.int .u8 0) (.int .u64 0) (.string ⟨#[]⟩) (.slice none 0 0) (.slice none 0 0)
    unfold set9 at hv K9
    have k0 := K9.at 0 rfl; have k1 := K9.at 1 rfl; have k2 := K9.at 2 rfl; have k3 := K9.at 3 rfl; have k4 := K9.at 4 rfl; have k5 := K9.at 5 rfl; have k6 := K9.at 6 rfl; have k7 := K9.at 7 rfl; have k8 := K9.at 8 rfl
    refine bodyPost_ret (by simp [results, Tryz.results43, go_sem, k0, k1, k2, k3, k4, k5, k6, k7, k8]; rfl) rfl ?_
    have hTz := hT20.trans (hv.below hT20.size (fun i e => by omega))
    exact ⟨PT.mk ⟨#[]⟩ false false ⟨#[]⟩ (VT.mk 0 0 ⟨#[]⟩ (.slice none 0 0) (.slice none 0 0) [] []), by rw [hgo]; rfl, by rw [hgo]; exact pr_zt, zt_rd, hTz⟩
  have b0 : decide ((0 : Int) < (rK.1.length : Int)) = true := decide_eq_true (by omega)
  have b9 : (0 : Int) < (rK.1.length : Int) := by omega
  have h0h := Lib.hid h0
  clear h0
  obtain ⟨r2, hr2⟩ : ∃ r2, (tkR 6 rK).2 = r2 := ⟨_, rfl⟩
  have hL2 : Big r2.1.length := hLKh.out.mono (by rw [← hr2]; exact tkR_le 6 rK)
  obtain ⟨⟨g, rG⟩, hG⟩ : ∃ x, nmR 2 r2 = x := ⟨_, rfl⟩
  have hLG : Big rG.1.length := hL2.mono (by have := nmR_le 2 r2; rw [hG] at this; exact this)
  have hg := nmR_lt 2 r2
  rw [hG] at hg
  have hg : g < 65536 := hg
  obtain ⟨ib, hib⟩ : ∃ d, (g % 2 == 1) = d := ⟨_, rfl⟩
  obtain ⟨jb, hjb⟩ : ∃ d, (g / 2 % 2 == 1) = d := ⟨_, rfl⟩
  have a1 := and_1 hg; have a2 := and_2 hg
  rw [hib] at a1; rw [hjb] at a2
  obtain ⟨⟨mid, rM⟩, hM⟩ : ∃ x, tkTx ib rG = x := ⟨_, rfl⟩
  have hLM : Big rM.1.length := hLG.mono (by have := tkTx_le ib rG; rw [hM] at this; exact this)
  have hpB := Lib.hid (show pgB rK = if g / 2 % 2 = 1 then ((mid, getV (getP (tkR rM.1.length rM).1)), (tkR rM.1.length rM).2) else ((mid, V.zero), rM) by unfold pgB; simp only [hr2, hG, hib, hM])
  have hr2h := Lib.hid hr2; have hGh := Lib.hid hG; have hMh := Lib.hid hM; have hjh := Lib.hid hjb
  have hL2h := Lib.hid hL2; have hLGh := Lib.hid hLG; have hLMh := Lib.hid hLM
  clear hr2 hG hM hL2 hLG hLM hg hib hjb
  go_upto_region 9 with (first | (go_at_call 81; (with_reducible refine (left_any _ rb vb rK.1 rK.2 hp8 hs8).mono ?_); rintro e _ ⟨rfl, rfl⟩) | (go_at_call 80; refine (ptake_rs _ rb vb rK 6 hp8 hs8 hLKh.out).mono ?_; rintro e w9 ⟨v9, rfl, -, -, hs9, hu9⟩; rw [hr2h.out] at hs9; have Z9 := Z8.upd hu9 (fun e => by have h1 := hvb.out; have h2 : w.heap.size = vb := e; omega); have T9 := T8.upd hu9 (fun e => by have h1 := hvt.out; have h2 : w3.heap.size = vb := e; omega); have P9 := P8.upd hu9 (fun e => by have h1 := hvp.out; have h2 : w7.heap.size = vb := e; omega); have hp9 := hp8.upd hu9; have hT9 := below_only hT8 hu9 (by have h1 := hvb.out; omega) hT8.size; have t4 := T9.at 0 rfl) | (go_at_call 39; refine (pnum_rs _ rb vb r2 2 hp9 hs9 (by unfold Wd; omega) hL2h.out).mono ?_; rintro e w10 ⟨he, hs10, hu10⟩; simp only [hGh.out] at he hs10; subst he; have Z10 := Z9.upd hu10 (fun e => by have h1 := hvb.out; have h2 : w.heap.size = vb := e; omega); have T10 := T9.upd hu10 (fun e => by have h1 := hvt.out; have h2 : w3.heap.size = vb := e; omega); have P10 := P9.upd hu10 (fun e => by have h1 := hvp.out; have h2 : w7.heap.size = vb := e; omega); have hp10 := hp9.upd hu10; have hT10 := below_only hT9 hu10 (by have h1 := hvb.out; omega) hT9.size; have t5 := T10.at 0 rfl) | (go_at_call 82; refine (preader_any _ rb vb rG ib hp10 hs10 hLGh.out).mono ?_; rintro e w11 ⟨he, hs11, hu11⟩; simp only [hMh.out] at he hs11; subst he; have Z11 := Z10.upd hu11 (fun e => by have h1 := hvb.out; have h2 : w.heap.size = vb := e; omega); have T11 := T10.upd hu11 (fun e => by have h1 := hvt.out; have h2 : w3.heap.size = vb := e; omega); have P11 := P10.upd hu11 (fun e => by have h1 := hvp.out; have h2 : w7.heap.size = vb := e; omega); have hp11 := hp10.upd hu11; have hT11 := below_only hT10 hu11 (by have h1 := hvb.out; omega) hT10.size; have p3 := P11.at 3 rfl; have y3 := P11.frozen 3))
  have hu12 := Upd.set (S := fun k => k = w7.heap.size) (w := w11) (p := ⟨w7.heap.size, 3, none⟩) rfl (.string mid)
  have P12 := P11.set 3 (.string mid)
  have Z12 := Z11.upd hu12 (fun e => by have h1 := hvp.out; have h2 := htp.out; have h3 := hrt.out; have h4 := hvb.out; have h5 := hvt.out; omega); have T12 := T11.upd hu12 (fun e => by have h1 := hvp.out; have h2 := htp.out; have h3 := hrt.out; have h4 := hvb.out; have h5 := hvt.out; omega); have hp12 := hp11.other hu12 (fun e => by have h1 := hvp.out; have h2 := htp.out; have h3 := hrt.out; have h4 := hvb.out; have h5 := hvt.out; omega); have hs12 := hs11.above hu12 (fun k e => by have h1 := hvp.out; have h2 := htp.out; have h3 := hrt.out; have h4 := hvb.out; omega); have hT12 := hT11.trans (hu12.below hT11.size (fun i e => by have h1 := hvp.out; have h4 := hvb.out; omega))
  have P12 : Blk _ w7.heap.size [.string key, .bool db, .bool eb, .string mid, .int .u8 0, .int .u64 0, .string ⟨#[]⟩, .slice none 0 0, .slice none 0 0] := P12
  generalize World.setCell w11 _ _ = W12 at *
  clear p3 y3 t3 t4 t5 hu9 hu10 hu11 hs8 hs9 hs10 hs11 Z8 Z9 Z10 Z11 T8 T9 T10 T11 P8 P9 P10 P11 hp8 hp9 hp10 hp11 hT8 hT9 hT10 hT11
  cases jb
  · have hpb := Lib.hid (hpB.out.trans (if_neg (fun e => by have h1 := hjh.out; rw [e] at h1; exact absurd h1 (by decide))))
    have hpg := Lib.hid (pgP_two hpA.out h0h.out hpb.out)
    go_upto_region 11 with fail
    obtain ⟨q, hq⟩ : ∃ q, (PT.mk key db eb mid (VT.mk 0 0 ⟨#[]⟩ (.slice none 0 0) (.slice none 0 0) [] [])).p = q := ⟨_, rfl⟩
    have hpq := Lib.hid (show pgP L = (q, rM) by rw [← hq]; exact hpg.out)
    have hput := p9put_any (PT.mk key db eb mid (VT.mk 0 0 ⟨#[]⟩ (.slice none 0 0) (.slice none 0 0) [] [])) (fun i => w.heap.size < i) W12 zt_rd (hT.pure hT12)
    obtain ⟨cx, hcx⟩ : ∃ cx, q.chk = cx := ⟨_, rfl⟩
    obtain ⟨tx, htx⟩ : ∃ tx, (if cx = 0 then q.text else (⟨#[]⟩ : ByteArray)) = tx := ⟨_, rfl⟩
    rw [hq, hcx, htx, PT.arg_mk] at hput
    have hputh := Lib.hid hput; have hqh := Lib.hid hq; have hcxh := Lib.hid hcx; have htxh := Lib.hid htx
    clear hput hq hcx htx
    obtain ⟨rE1, bad⟩ := rM
    have p0 := P12.at 0 rfl; have p1 := P12.at 1 rfl; have p2 := P12.at 2 rfl; have p3 := P12.at 3 rfl; have p4 := P12.at 4 rfl; have p5 := P12.at 5 rfl; have p6 := P12.at 6 rfl; have p7 := P12.at 7 rfl; have p8 := P12.at 8 rfl
    by_cases hok : bad = false ∧ cx = 0 ∧ tx = s
    · obtain ⟨rfl, rfl, rfl⟩ := hok
      have hgo : pgO L = some q := pgO_ok hpq.out rfl hcxh.out (by have h1 := htxh.out; rw [if_pos rfl] at h1; exact (text_eq.1 h1).trans hLeh.out)
      have hgoh := Lib.hid hgo; clear hgo
      go_wp2_with (first | (go_at_call 23; refine (hputh.out).mono ?_; rintro e w20 ⟨rfl, hB20⟩; have Z20 := Z12.pure hB20; have T20 := T12.pure hB20; have P20 := P12.pure hB20; have hp20 := hp12.pure hB20; have hs20 := hs12.pure hB20; have hT20 := hT12.trans (hB20.mono hT12.size); clear p0 p1 p2 p3 p4 p5 p6 p7 p8; have p0 := P20.at 0 rfl; have p1 := P20.at 1 rfl; have p2 := P20.at 2 rfl; have p3 := P20.at 3 rfl; have p4 := P20.at 4 rfl; have p5 := P20.at 5 rfl; have p6 := P20.at 6 rfl; have p7 := P20.at 7 rfl; have p8 := P20.at 8 rfl; have z0 := Z20.at 0 rfl; have z1 := Z20.at 1 rfl; have z2 := Z20.at 2 rfl; have z3 := Z20.at 3 rfl; have z4 := Z20.at 4 rfl; have z5 := Z20.at 5 rfl; have z6 := Z20.at 6 rfl; have z7 := Z20.at 7 rfl; have z8 := Z20.at 8 rfl; have y0 := Z20.frozen 0; have y1 := Z20.frozen 1; have y2 := Z20.frozen 2; have y3 := Z20.frozen 3; have y4 := Z20.frozen 4; have y5 := Z20.frozen 5; have y6 := Z20.frozen 6; have y7 := Z20.frozen 7; have y8 := Z20.frozen 8; have tt := T20.at 0 rfl) | (go_at_call 46; (with_reducible refine (bad_any _ rb vb rE1 _ hp20 hs20).mono ?_); rintro e _ ⟨rfl, rfl⟩))
      have hgo := hgoh.out
      have hv := Upd.at9 w20 w.heap.size (.string key) (.bool db) (.bool eb) (.string mid) (.int .u8 0) (.int .u64 0) (.string ⟨#[]⟩) (.slice none 0 0) (.slice none 0 0)
      have K9 := Z20.fresh9 (.string key) (.bool db) (.bool eb) (.string mid) (.int .u8 0) (.int .u64 0) (.string ⟨#[]⟩) (.slice none 0 0) (.slice none 0 0)
      unfold set9 at hv K9
      have k0 := K9.at 0 rfl; have k1 := K9.at 1 rfl; have k2 := K9.at 2 rfl; have k3 := K9.at 3 rfl; have k4 := K9.at 4 rfl; have k5 := K9.at 5 rfl; have k6 := K9.at 6 rfl; have k7 := K9.at 7 rfl; have k8 := K9.at 8 rfl
      refine bodyPost_ret (by simp [results, Tryz.results43, go_sem, k0, k1, k2, k3, k4, k5, k6, k7, k8]; rfl) rfl ?_
      have hTz := hT20.trans (hv.below hT20.size (fun i e => by omega))
      exact ⟨PT.mk key db eb mid (VT.mk 0 0 ⟨#[]⟩ (.slice none 0 0) (.slice none 0 0) [] []), by rw [hgo]; rfl, by rw [hgo]; exact hqh.out, zt_rd, hTz⟩
    have hgo : pgO L = none := pgO_no hpq.out (fun e => hok ⟨e.1, hcxh.out.symm.trans e.2.1, by have h1 := htxh.out; rw [if_pos (hcxh.out.symm.trans e.2.1)] at h1; rw [← h1]; exact text_eq.2 (e.2.2.trans hLeh.out.symm)⟩)
    have hgoh := Lib.hid hgo; clear hgo
    cases bad
    rotate_left 1
    · clear hok
      go_wp2_with (first | (go_at_call 23; refine (hputh.out).mono ?_; rintro e w20 ⟨rfl, hB20⟩; have Z20 := Z12.pure hB20; have T20 := T12.pure hB20; have P20 := P12.pure hB20; have hp20 := hp12.pure hB20; have hs20 := hs12.pure hB20; have hT20 := hT12.trans (hB20.mono hT12.size); clear p0 p1 p2 p3 p4 p5 p6 p7 p8; have p0 := P20.at 0 rfl; have p1 := P20.at 1 rfl; have p2 := P20.at 2 rfl; have p3 := P20.at 3 rfl; have p4 := P20.at 4 rfl; have p5 := P20.at 5 rfl; have p6 := P20.at 6 rfl; have p7 := P20.at 7 rfl; have p8 := P20.at 8 rfl; have z0 := Z20.at 0 rfl; have z1 := Z20.at 1 rfl; have z2 := Z20.at 2 rfl; have z3 := Z20.at 3 rfl; have z4 := Z20.at 4 rfl; have z5 := Z20.at 5 rfl; have z6 := Z20.at 6 rfl; have z7 := Z20.at 7 rfl; have z8 := Z20.at 8 rfl; have y0 := Z20.frozen 0; have y1 := Z20.frozen 1; have y2 := Z20.frozen 2; have y3 := Z20.frozen 3; have y4 := Z20.frozen 4; have y5 := Z20.frozen 5; have y6 := Z20.frozen 6; have y7 := Z20.frozen 7; have y8 := Z20.frozen 8; have tt := T20.at 0 rfl) | (go_at_call 46; (with_reducible refine (bad_any _ rb vb rE1 _ hp20 hs20).mono ?_); rintro e _ ⟨rfl, rfl⟩))
      have hgo := hgoh.out
      have hv := Upd.at9 w20 w.heap.size (.string ⟨#[]⟩) (.bool false) (.bool false) (.string ⟨#[]⟩) (.int .u8 0) (.int .u64 0) (.string ⟨#[]⟩) (.slice none 0 0) (.slice none 0 0)
      have K9 := Z20.fresh9 (.string ⟨#[]⟩) (.bool false) (.bool false) (.string ⟨#[]⟩) (.int .u8 0) (.int .u64 0) (.string ⟨#[]⟩) (.slice none 0 0) (.slice none 0 0)
      unfold set9 at hv K9
      have k0 := K9.at 0 rfl; have k1 := K9.at 1 rfl; have k2 := K9.at 2 rfl; have k3 := K9.at 3 rfl; have k4 := K9.at 4 rfl; have k5 := K9.at 5 rfl; have k6 := K9.at 6 rfl; have k7 := K9.at 7 rfl; have k8 := K9.at 8 rfl
      refine bodyPost_ret (by simp [results, Tryz.results43, go_sem, k0, k1, k2, k3, k4, k5, k6, k7, k8]; rfl) rfl ?_
      have hTz := hT20.trans (hv.below hT20.size (fun i e => by omega))
      exact ⟨PT.mk ⟨#[]⟩ false false ⟨#[]⟩ (VT.mk 0 0 ⟨#[]⟩ (.slice none 0 0) (.slice none 0 0) [] []), by rw [hgo]; rfl, by rw [hgo]; exact pr_zt, zt_rd, hTz⟩
    by_cases hc : cx = 0
    rotate_left 1
    · have b1 : (cx != 0) = true := bne_iff_ne.2 hc
      have b2 : (cx == 0) = false := beq_eq_false_iff_ne.2 hc
      clear hok hc
      go_wp2_with (first | (go_at_call 23; refine (hputh.out).mono ?_; rintro e w20 ⟨rfl, hB20⟩; have Z20 := Z12.pure hB20; have T20 := T12.pure hB20; have P20 := P12.pure hB20; have hp20 := hp12.pure hB20; have hs20 := hs12.pure hB20; have hT20 := hT12.trans (hB20.mono hT12.size); clear p0 p1 p2 p3 p4 p5 p6 p7 p8; have p0 := P20.at 0 rfl; have p1 := P20.at 1 rfl; have p2 := P20.at 2 rfl; have p3 := P20.at 3 rfl; have p4 := P20.at 4 rfl; have p5 := P20.at 5 rfl; have p6 := P20.at 6 rfl; have p7 := P20.at 7 rfl; have p8 := P20.at 8 rfl; have z0 := Z20.at 0 rfl; have z1 := Z20.at 1 rfl; have z2 := Z20.at 2 rfl; have z3 := Z20.at 3 rfl; have z4 := Z20.at 4 rfl; have z5 := Z20.at 5 rfl; have z6 := Z20.at 6 rfl; have z7 := Z20.at 7 rfl; have z8 := Z20.at 8 rfl; have y0 := Z20.frozen 0; have y1 := Z20.frozen 1; have y2 := Z20.frozen 2; have y3 := Z20.frozen 3; have y4 := Z20.frozen 4; have y5 := Z20.frozen 5; have y6 := Z20.frozen 6; have y7 := Z20.frozen 7; have y8 := Z20.frozen 8; have tt := T20.at 0 rfl) | (go_at_call 46; (with_reducible refine (bad_any _ rb vb rE1 _ hp20 hs20).mono ?_); rintro e _ ⟨rfl, rfl⟩))
      have hgo := hgoh.out
      have hv := Upd.at9 w20 w.heap.size (.string ⟨#[]⟩) (.bool false) (.bool false) (.string ⟨#[]⟩) (.int .u8 0) (.int .u64 0) (.string ⟨#[]⟩) (.slice none 0 0) (.slice none 0 0)
      have K9 := Z20.fresh9 (.string ⟨#[]⟩) (.bool false) (.bool false) (.string ⟨#[]⟩) (.int .u8 0) (.int .u64 0) (.string ⟨#[]⟩) (.slice none 0 0) (.slice none 0 0)
      unfold set9 at hv K9
      have k0 := K9.at 0 rfl; have k1 := K9.at 1 rfl; have k2 := K9.at 2 rfl; have k3 := K9.at 3 rfl; have k4 := K9.at 4 rfl; have k5 := K9.at 5 rfl; have k6 := K9.at 6 rfl; have k7 := K9.at 7 rfl; have k8 := K9.at 8 rfl
      refine bodyPost_ret (by simp [results, Tryz.results43, go_sem, k0, k1, k2, k3, k4, k5, k6, k7, k8]; rfl) rfl ?_
      have hTz := hT20.trans (hv.below hT20.size (fun i e => by omega))
      exact ⟨PT.mk ⟨#[]⟩ false false ⟨#[]⟩ (VT.mk 0 0 ⟨#[]⟩ (.slice none 0 0) (.slice none 0 0) [] []), by rw [hgo]; rfl, by rw [hgo]; exact pr_zt, zt_rd, hTz⟩
    subst hc
    have hne : tx ≠ s := fun e => hok ⟨rfl, rfl, e⟩
    have b1 : ¬ tx.toList = s.toList := ba_toList_ne hne
    have b2 : (tx.toList == s.toList) = false := beq_eq_false_iff_ne.2 b1
    have b3 : (tx != s) = true := ba_bne hne
    clear hok hne
    go_wp2_with (first | (go_at_call 23; refine (hputh.out).mono ?_; rintro e w20 ⟨rfl, hB20⟩; have Z20 := Z12.pure hB20; have T20 := T12.pure hB20; have P20 := P12.pure hB20; have hp20 := hp12.pure hB20; have hs20 := hs12.pure hB20; have hT20 := hT12.trans (hB20.mono hT12.size); clear p0 p1 p2 p3 p4 p5 p6 p7 p8; have p0 := P20.at 0 rfl; have p1 := P20.at 1 rfl; have p2 := P20.at 2 rfl; have p3 := P20.at 3 rfl; have p4 := P20.at 4 rfl; have p5 := P20.at 5 rfl; have p6 := P20.at 6 rfl; have p7 := P20.at 7 rfl; have p8 := P20.at 8 rfl; have z0 := Z20.at 0 rfl; have z1 := Z20.at 1 rfl; have z2 := Z20.at 2 rfl; have z3 := Z20.at 3 rfl; have z4 := Z20.at 4 rfl; have z5 := Z20.at 5 rfl; have z6 := Z20.at 6 rfl; have z7 := Z20.at 7 rfl; have z8 := Z20.at 8 rfl; have y0 := Z20.frozen 0; have y1 := Z20.frozen 1; have y2 := Z20.frozen 2; have y3 := Z20.frozen 3; have y4 := Z20.frozen 4; have y5 := Z20.frozen 5; have y6 := Z20.frozen 6; have y7 := Z20.frozen 7; have y8 := Z20.frozen 8; have tt := T20.at 0 rfl) | (go_at_call 46; (with_reducible refine (bad_any _ rb vb rE1 _ hp20 hs20).mono ?_); rintro e _ ⟨rfl, rfl⟩))
    have hgo := hgoh.out
    have hv := Upd.at9 w20 w.heap.size (.string ⟨#[]⟩) (.bool false) (.bool false) (.string ⟨#[]⟩) (.int .u8 0) (.int .u64 0) (.string ⟨#[]⟩) (.slice none 0 0) (.slice none 0 0)
    have K9 := Z20.fresh9 (.string ⟨#[]⟩) (.bool false) (.bool false) (.string ⟨#[]⟩) (.int .u8 0) (.int .u64 0) (.string ⟨#[]⟩) (.slice none 0 0) (.slice none 0 0)
    unfold set9 at hv K9
    have k0 := K9.at 0 rfl; have k1 := K9.at 1 rfl; have k2 := K9.at 2 rfl; have k3 := K9.at 3 rfl; have k4 := K9.at 4 rfl; have k5 := K9.at 5 rfl; have k6 := K9.at 6 rfl; have k7 := K9.at 7 rfl; have k8 := K9.at 8 rfl
    refine bodyPost_ret (by simp [results, Tryz.results43, go_sem, k0, k1, k2, k3, k4, k5, k6, k7, k8]; rfl) rfl ?_
    have hTz := hT20.trans (hv.below hT20.size (fun i e => by omega))
    exact ⟨PT.mk ⟨#[]⟩ false false ⟨#[]⟩ (VT.mk 0 0 ⟨#[]⟩ (.slice none 0 0) (.slice none 0 0) [] []), by rw [hgo]; rfl, by rw [hgo]; exact pr_zt, zt_rd, hTz⟩
  obtain ⟨⟨tbs, rT⟩, hTk⟩ : ∃ x, tkR rM.1.length rM = x := ⟨_, rfl⟩
  have hpb := Lib.hid (show pgB rK = ((mid, getV (getP tbs)), rT) from (hpB.out.trans (if_pos (by have h1 := hjh.out; exact beq_iff_eq.1 h1))).trans (by rw [hTk]))
  have hpg := Lib.hid (pgP_two hpA.out h0h.out hpb.out)
  have hLT := Lib.hid (show Big tbs.length from hLMh.out.mono (by have := tkR_le1 rM.1.length rM; rw [hTk] at this; exact this))
  have hTkh := Lib.hid hTk
  clear hTk
  go_upto_region 10 with fail
  have hDr := below_refl_dr W12
  have Z13 := Z12.pure hDr; have hp13 := hp12.pure hDr; have hs13 := hs12.pure hDr; have hT13 := hT12.trans ((hDr).mono hT12.size); have T13 := T12.pure hDr; have P13 := P12.pure hDr
  have q13 := T13.at 0 rfl
  have hb := q13
  refine wp_region_held_drew (S := fun u => u.cell? ⟨w3.heap.size, 0, none⟩ = some (.pointer (some ⟨rb, 0, none⟩))) (by kernel_rfl) hb (fun hHeld => ?_)
  refine takeY 0 52 rfl rfl (v := ?_) ?_ hHeld ?_
  rotate_left 1
  · (intro u hSw; (try dsimp only at hSw); clear hSw; go_simp; (try with_reducible rfl))
  try simp only [Act.put, lsT, lsZ, lsS]
  refine takeY 1 53 rfl rfl (v := ?_) ?_ hHeld ?_
  rotate_left 1
  · (intro u hSw; (try dsimp only at hSw); have q := hSw; clear hSw; go_simp; (try with_reducible rfl))
  try simp only [Act.put, lsT, lsZ, lsS]
  refine takeY 2 54 rfl rfl (v := ?_) ?_ hHeld ?_
  rotate_left 1
  · (intro u hSw; (try dsimp only at hSw); clear hSw; go_simp; (try with_reducible rfl))
  try simp only [Act.put, lsT, lsZ, lsS]
  refine takeY 3 55 rfl rfl (v := ?_) ?_ hHeld ?_
  rotate_left 1
  · (intro u hSw; (try dsimp only at hSw); have q := hSw; clear hSw; go_simp; (try with_reducible rfl))
  try simp only [Act.put, lsT, lsZ, lsS]
  refine wpAnyH_ready (rs := [4]) (by kernel_rfl) (by simp) ?_
  refine (AllReadyH.cons rfl (fun K hK => ?_) AllReadyH.nil)
  go_simp
  go_at_call 81
  (with_reducible refine (left_any _ rb vb rM.1 rM.2 hp13 hs13).mono ?_)
  rintro e _ ⟨rfl, rfl⟩
  refine hK.out _ _ hb (fun hHeld => ?_)
  clear hK K
  try simp only [Act.put, lsT, lsZ, lsS]
  refine wpAnyH_ready (rs := [5]) (by kernel_rfl) (by simp) ?_
  refine (AllReadyH.cons rfl (fun K hK => ?_) AllReadyH.nil)
  go_simp
  go_at_call 80
  refine (ptake_rs _ rb vb rM rM.1.length hp13 hs13 hLMh.out).mono ?_
  rintro e w14 ⟨v14, rfl, S14, -, hs14, hu14⟩
  rw [hTkh.out] at S14 hs14
  have Z14 := Z13.upd hu14 (fun e => by have h1 := hvb.out; have h2 : w.heap.size = vb := e; omega); have T14 := T13.upd hu14 (fun e => by have h1 := hvt.out; have h2 : w3.heap.size = vb := e; omega); have P14 := P13.upd hu14 (fun e => by have h1 := hvp.out; have h2 : w7.heap.size = vb := e; omega); have hp14 := hp13.upd hu14; have hT14 := below_only hT13 hu14 (by have h1 := hvb.out; omega) hT13.size
  have hb := T14.at 0 rfl
  refine hK.out _ _ hb (fun hHeld => ?_)
  clear hK K
  try simp only [Act.put, lsT, lsZ, lsS]
  refine wpAnyH_ready (rs := [6]) (by kernel_rfl) (by simp) ?_
  refine (AllReadyH.cons rfl (fun K hK => ?_) AllReadyH.nil)
  go_simp
  go_at_call 83
  refine (pget_one _ _ tbs S14 hLT.out (hT.pure hT14)).mono ?_
  rintro e w15 ⟨uk, un, us, uka, ukc, ula, ulc, uks, ul, rfl, huv, huR, hB15⟩
  have huvh := Lib.hid huv; clear huv
  have Z15 := Z14.pure hB15; have hp15 := hp14.pure hB15; have hs15 := hs14.pure hB15; have hT15 := hT14.trans ((hB15).mono hT14.size); have T15 := T14.pure hB15; have P15 := P14.pure hB15
  have hb := T15.at 0 rfl
  have p4 := P15.at 4 rfl; have y4 := P15.frozen 4; have p5 := P15.at 5 rfl; have y5 := P15.frozen 5; have p6 := P15.at 6 rfl; have y6 := P15.frozen 6; have p7 := P15.at 7 rfl; have y7 := P15.frozen 7; have p8 := P15.at 8 rfl; have y8 := P15.frozen 8
  refine hK.out _ _ hb (fun hHeld => ?_)
  clear hK K
  try simp only [Act.put, lsT, lsZ, lsS]
  refine takeY 7 51 rfl rfl (v := ?_) ?_ hHeld ?_
  rotate_left 1
  · (intro u hSw; (try dsimp only at hSw); clear hSw; go_simp; (try with_reducible rfl))
  try simp only [Act.put, lsT, lsZ, lsS]
  refine takeY 8 59 rfl rfl (v := ?_) ?_ hHeld ?_
  rotate_left 1
  · (intro u hSw; (try dsimp only at hSw); clear hSw; go_simp; (try with_reducible rfl))
  try simp only [Act.put, lsT, lsZ, lsS]
  refine takeY 9 60 rfl rfl (v := ?_) ?_ hHeld ?_
  rotate_left 1
  · (intro u hSw; (try dsimp only at hSw); clear hSw; go_simp; (try with_reducible rfl))
  try simp only [Act.put, lsT, lsZ, lsS]
  refine takeY 10 61 rfl rfl (v := ?_) ?_ hHeld ?_
  rotate_left 1
  · (intro u hSw; (try dsimp only at hSw); clear hSw; go_simp; (try with_reducible rfl))
  try simp only [Act.put, lsT, lsZ, lsS]
  refine takeY 11 62 rfl rfl (v := ?_) ?_ hHeld ?_
  rotate_left 1
  · (intro u hSw; (try dsimp only at hSw); clear hSw; go_simp; (try with_reducible rfl))
  try simp only [Act.put, lsT, lsZ, lsS]
  refine wpAnyH_ready (rs := [12]) (by kernel_rfl) (by simp) ?_
  refine (AllReadyH.cons rfl (fun K hK => ?_) AllReadyH.nil)
  go_simp
  have hu16 := Upd.app9 w15 w7.heap.size (.int .u8 uk) (.int .u64 un) (.string us) (.slice uka uks.length ukc) (.slice ula ul.length ulc)
  have P16 := P15.app9 (.int .u8 uk) (.int .u64 un) (.string us) (.slice uka uks.length ukc) (.slice ula ul.length ulc)
  have Z16 := Z15.upd hu16 (fun e => by have h1 := hvp.out; have h2 := htp.out; have h3 := hrt.out; have h4 := hvb.out; have h5 := hvt.out; omega); have T16 := T15.upd hu16 (fun e => by have h1 := hvp.out; have h2 := htp.out; have h3 := hrt.out; have h4 := hvb.out; have h5 := hvt.out; omega); have hp16 := hp15.other hu16 (fun e => by have h1 := hvp.out; have h2 := htp.out; have h3 := hrt.out; have h4 := hvb.out; have h5 := hvt.out; omega); have hs16 := hs15.above hu16 (fun k e => by have h1 := hvp.out; have h2 := htp.out; have h3 := hrt.out; have h4 := hvb.out; omega); have hT16 := hT15.trans (hu16.below hT15.size (fun i e => by have h1 := hvp.out; have h4 := hvb.out; omega))
  have R16 := (huR.upd hu16 (fun b hb e => by have h1 := P14.lt; omega)).weaken (fun i _ hi => (show w.heap.size < i by have h1 := P14.lt; have h2 := hvp.out; have h3 := hvb.out; omega))
  unfold setApp at hu16 P16 Z16 T16 hp16 hs16 hT16 R16
  have hb := T16.at 0 rfl
  refine hK.out _ _ hb (fun hHeld => ?_)
  clear hK K
  try simp only [Act.put, lsT, lsZ, lsS]
  refine wpAnyH_done (by kernel_rfl) ?_ _
  clear hb
  generalize World.setCell (World.setCell (World.setCell (World.setCell (World.setCell w15 _ _) _ _) _ _) _ _) _ _ = W16 at *
  clear p4 p5 p6 p7 p8 y4 y5 y6 y7 y8 q13
  go_upto_region 11 with fail
  obtain ⟨q, hq⟩ : ∃ q, (PT.mk key db eb mid (VT.mk uk un us (.slice uka uks.length ukc) (.slice ula ul.length ulc) uks ul)).p = q := ⟨_, rfl⟩
  have hpq := Lib.hid (show pgP L = (q, rT) by rw [← hq]; exact (by rw [hpg.out]; exact congrArg (fun x => (Pr.mk key db eb mid x, rT)) huvh.out.symm))
  have hput := p9put_any (PT.mk key db eb mid (VT.mk uk un us (.slice uka uks.length ukc) (.slice ula ul.length ulc) uks ul)) (fun i => w.heap.size < i) W16 R16 (hT.pure hT16)
  obtain ⟨cx, hcx⟩ : ∃ cx, q.chk = cx := ⟨_, rfl⟩
  obtain ⟨tx, htx⟩ : ∃ tx, (if cx = 0 then q.text else (⟨#[]⟩ : ByteArray)) = tx := ⟨_, rfl⟩
  rw [hq, hcx, htx, PT.arg_mk] at hput
  have hputh := Lib.hid hput; have hqh := Lib.hid hq; have hcxh := Lib.hid hcx; have htxh := Lib.hid htx
  clear hput hq hcx htx
  obtain ⟨rE1, bad⟩ := rT
  have p0 := P16.at 0 rfl; have p1 := P16.at 1 rfl; have p2 := P16.at 2 rfl; have p3 := P16.at 3 rfl; have p4 := P16.at 4 rfl; have p5 := P16.at 5 rfl; have p6 := P16.at 6 rfl; have p7 := P16.at 7 rfl; have p8 := P16.at 8 rfl
  by_cases hok : bad = false ∧ cx = 0 ∧ tx = s
  · obtain ⟨rfl, rfl, rfl⟩ := hok
    have hgo : pgO L = some q := pgO_ok hpq.out rfl hcxh.out (by have h1 := htxh.out; rw [if_pos rfl] at h1; exact (text_eq.1 h1).trans hLeh.out)
    have hgoh := Lib.hid hgo; clear hgo
    go_wp2_with (first | (go_at_call 23; refine (hputh.out).mono ?_; rintro e w20 ⟨rfl, hB20⟩; have Z20 := Z16.pure hB20; have T20 := T16.pure hB20; have P20 := P16.pure hB20; have hp20 := hp16.pure hB20; have hs20 := hs16.pure hB20; have hT20 := hT16.trans (hB20.mono hT16.size); clear p0 p1 p2 p3 p4 p5 p6 p7 p8; have p0 := P20.at 0 rfl; have p1 := P20.at 1 rfl; have p2 := P20.at 2 rfl; have p3 := P20.at 3 rfl; have p4 := P20.at 4 rfl; have p5 := P20.at 5 rfl; have p6 := P20.at 6 rfl; have p7 := P20.at 7 rfl; have p8 := P20.at 8 rfl; have z0 := Z20.at 0 rfl; have z1 := Z20.at 1 rfl; have z2 := Z20.at 2 rfl; have z3 := Z20.at 3 rfl; have z4 := Z20.at 4 rfl; have z5 := Z20.at 5 rfl; have z6 := Z20.at 6 rfl; have z7 := Z20.at 7 rfl; have z8 := Z20.at 8 rfl; have y0 := Z20.frozen 0; have y1 := Z20.frozen 1; have y2 := Z20.frozen 2; have y3 := Z20.frozen 3; have y4 := Z20.frozen 4; have y5 := Z20.frozen 5; have y6 := Z20.frozen 6; have y7 := Z20.frozen 7; have y8 := Z20.frozen 8; have tt := T20.at 0 rfl; have R20 := (R16).pure hB20) | (go_at_call 46; (with_reducible refine (bad_any _ rb vb rE1 _ hp20 hs20).mono ?_); rintro e _ ⟨rfl, rfl⟩))
    have hgo := hgoh.out
    have hv := Upd.at9 w20 w.heap.size (.string key) (.bool db) (.bool eb) (.string mid) (.int .u8 uk) (.int .u64 un) (.string us) (.slice uka uks.length ukc) (.slice ula ul.length ulc)
    have K9 := Z20.fresh9 (.string key) (.bool db) (.bool eb) (.string mid) (.int .u8 uk) (.int .u64 un) (.string us) (.slice uka uks.length ukc) (.slice ula ul.length ulc)
    have R9 := R20.upd hv (fun b hb e => by omega)
    unfold set9 at hv K9 R9
    have k0 := K9.at 0 rfl; have k1 := K9.at 1 rfl; have k2 := K9.at 2 rfl; have k3 := K9.at 3 rfl; have k4 := K9.at 4 rfl; have k5 := K9.at 5 rfl; have k6 := K9.at 6 rfl; have k7 := K9.at 7 rfl; have k8 := K9.at 8 rfl
    refine bodyPost_ret (by simp [results, Tryz.results43, go_sem, k0, k1, k2, k3, k4, k5, k6, k7, k8]; rfl) rfl ?_
    have hTz := hT20.trans (hv.below hT20.size (fun i e => by omega))
    exact ⟨PT.mk key db eb mid (VT.mk uk un us (.slice uka uks.length ukc) (.slice ula ul.length ulc) uks ul), by rw [hgo]; rfl, by rw [hgo]; exact hqh.out, R9.weaken (fun i _ hi => Nat.le_of_lt hi), hTz⟩
  have hgo : pgO L = none := pgO_no hpq.out (fun e => hok ⟨e.1, hcxh.out.symm.trans e.2.1, by have h1 := htxh.out; rw [if_pos (hcxh.out.symm.trans e.2.1)] at h1; rw [← h1]; exact text_eq.2 (e.2.2.trans hLeh.out.symm)⟩)
  have hgoh := Lib.hid hgo; clear hgo
  cases bad
  rotate_left 1
  · clear hok
    go_wp2_with (first | (go_at_call 23; refine (hputh.out).mono ?_; rintro e w20 ⟨rfl, hB20⟩; have Z20 := Z16.pure hB20; have T20 := T16.pure hB20; have P20 := P16.pure hB20; have hp20 := hp16.pure hB20; have hs20 := hs16.pure hB20; have hT20 := hT16.trans (hB20.mono hT16.size); clear p0 p1 p2 p3 p4 p5 p6 p7 p8; have p0 := P20.at 0 rfl; have p1 := P20.at 1 rfl; have p2 := P20.at 2 rfl; have p3 := P20.at 3 rfl; have p4 := P20.at 4 rfl; have p5 := P20.at 5 rfl; have p6 := P20.at 6 rfl; have p7 := P20.at 7 rfl; have p8 := P20.at 8 rfl; have z0 := Z20.at 0 rfl; have z1 := Z20.at 1 rfl; have z2 := Z20.at 2 rfl; have z3 := Z20.at 3 rfl; have z4 := Z20.at 4 rfl; have z5 := Z20.at 5 rfl; have z6 := Z20.at 6 rfl; have z7 := Z20.at 7 rfl; have z8 := Z20.at 8 rfl; have y0 := Z20.frozen 0; have y1 := Z20.frozen 1; have y2 := Z20.frozen 2; have y3 := Z20.frozen 3; have y4 := Z20.frozen 4; have y5 := Z20.frozen 5; have y6 := Z20.frozen 6; have y7 := Z20.frozen 7; have y8 := Z20.frozen 8; have tt := T20.at 0 rfl; have R20 := (R16).pure hB20) | (go_at_call 46; (with_reducible refine (bad_any _ rb vb rE1 _ hp20 hs20).mono ?_); rintro e _ ⟨rfl, rfl⟩))
    have hgo := hgoh.out
    have hv := Upd.at9 w20 w.heap.size (.string ⟨#[]⟩) (.bool false) (.bool false) (.string ⟨#[]⟩) (.int .u8 0) (.int .u64 0) (.string ⟨#[]⟩) (.slice none 0 0) (.slice none 0 0)
    have K9 := Z20.fresh9 (.string ⟨#[]⟩) (.bool false) (.bool false) (.string ⟨#[]⟩) (.int .u8 0) (.int .u64 0) (.string ⟨#[]⟩) (.slice none 0 0) (.slice none 0 0)
    unfold set9 at hv K9
    have k0 := K9.at 0 rfl; have k1 := K9.at 1 rfl; have k2 := K9.at 2 rfl; have k3 := K9.at 3 rfl; have k4 := K9.at 4 rfl; have k5 := K9.at 5 rfl; have k6 := K9.at 6 rfl; have k7 := K9.at 7 rfl; have k8 := K9.at 8 rfl
    refine bodyPost_ret (by simp [results, Tryz.results43, go_sem, k0, k1, k2, k3, k4, k5, k6, k7, k8]; rfl) rfl ?_
    have hTz := hT20.trans (hv.below hT20.size (fun i e => by omega))
    exact ⟨PT.mk ⟨#[]⟩ false false ⟨#[]⟩ (VT.mk 0 0 ⟨#[]⟩ (.slice none 0 0) (.slice none 0 0) [] []), by rw [hgo]; rfl, by rw [hgo]; exact pr_zt, zt_rd, hTz⟩
  by_cases hc : cx = 0
  rotate_left 1
  · have b1 : (cx != 0) = true := bne_iff_ne.2 hc
    have b2 : (cx == 0) = false := beq_eq_false_iff_ne.2 hc
    clear hok hc
    go_wp2_with (first | (go_at_call 23; refine (hputh.out).mono ?_; rintro e w20 ⟨rfl, hB20⟩; have Z20 := Z16.pure hB20; have T20 := T16.pure hB20; have P20 := P16.pure hB20; have hp20 := hp16.pure hB20; have hs20 := hs16.pure hB20; have hT20 := hT16.trans (hB20.mono hT16.size); clear p0 p1 p2 p3 p4 p5 p6 p7 p8; have p0 := P20.at 0 rfl; have p1 := P20.at 1 rfl; have p2 := P20.at 2 rfl; have p3 := P20.at 3 rfl; have p4 := P20.at 4 rfl; have p5 := P20.at 5 rfl; have p6 := P20.at 6 rfl; have p7 := P20.at 7 rfl; have p8 := P20.at 8 rfl; have z0 := Z20.at 0 rfl; have z1 := Z20.at 1 rfl; have z2 := Z20.at 2 rfl; have z3 := Z20.at 3 rfl; have z4 := Z20.at 4 rfl; have z5 := Z20.at 5 rfl; have z6 := Z20.at 6 rfl; have z7 := Z20.at 7 rfl; have z8 := Z20.at 8 rfl; have y0 := Z20.frozen 0; have y1 := Z20.frozen 1; have y2 := Z20.frozen 2; have y3 := Z20.frozen 3; have y4 := Z20.frozen 4; have y5 := Z20.frozen 5; have y6 := Z20.frozen 6; have y7 := Z20.frozen 7; have y8 := Z20.frozen 8; have tt := T20.at 0 rfl; have R20 := (R16).pure hB20) | (go_at_call 46; (with_reducible refine (bad_any _ rb vb rE1 _ hp20 hs20).mono ?_); rintro e _ ⟨rfl, rfl⟩))
    have hgo := hgoh.out
    have hv := Upd.at9 w20 w.heap.size (.string ⟨#[]⟩) (.bool false) (.bool false) (.string ⟨#[]⟩) (.int .u8 0) (.int .u64 0) (.string ⟨#[]⟩) (.slice none 0 0) (.slice none 0 0)
    have K9 := Z20.fresh9 (.string ⟨#[]⟩) (.bool false) (.bool false) (.string ⟨#[]⟩) (.int .u8 0) (.int .u64 0) (.string ⟨#[]⟩) (.slice none 0 0) (.slice none 0 0)
    unfold set9 at hv K9
    have k0 := K9.at 0 rfl; have k1 := K9.at 1 rfl; have k2 := K9.at 2 rfl; have k3 := K9.at 3 rfl; have k4 := K9.at 4 rfl; have k5 := K9.at 5 rfl; have k6 := K9.at 6 rfl; have k7 := K9.at 7 rfl; have k8 := K9.at 8 rfl
    refine bodyPost_ret (by simp [results, Tryz.results43, go_sem, k0, k1, k2, k3, k4, k5, k6, k7, k8]; rfl) rfl ?_
    have hTz := hT20.trans (hv.below hT20.size (fun i e => by omega))
    exact ⟨PT.mk ⟨#[]⟩ false false ⟨#[]⟩ (VT.mk 0 0 ⟨#[]⟩ (.slice none 0 0) (.slice none 0 0) [] []), by rw [hgo]; rfl, by rw [hgo]; exact pr_zt, zt_rd, hTz⟩
  subst hc
  have hne : tx ≠ s := fun e => hok ⟨rfl, rfl, e⟩
  have b1 : ¬ tx.toList = s.toList := ba_toList_ne hne
  have b2 : (tx.toList == s.toList) = false := beq_eq_false_iff_ne.2 b1
  have b3 : (tx != s) = true := ba_bne hne
  clear hok hne
  go_wp2_with (first | (go_at_call 23; refine (hputh.out).mono ?_; rintro e w20 ⟨rfl, hB20⟩; have Z20 := Z16.pure hB20; have T20 := T16.pure hB20; have P20 := P16.pure hB20; have hp20 := hp16.pure hB20; have hs20 := hs16.pure hB20; have hT20 := hT16.trans (hB20.mono hT16.size); clear p0 p1 p2 p3 p4 p5 p6 p7 p8; have p0 := P20.at 0 rfl; have p1 := P20.at 1 rfl; have p2 := P20.at 2 rfl; have p3 := P20.at 3 rfl; have p4 := P20.at 4 rfl; have p5 := P20.at 5 rfl; have p6 := P20.at 6 rfl; have p7 := P20.at 7 rfl; have p8 := P20.at 8 rfl; have z0 := Z20.at 0 rfl; have z1 := Z20.at 1 rfl; have z2 := Z20.at 2 rfl; have z3 := Z20.at 3 rfl; have z4 := Z20.at 4 rfl; have z5 := Z20.at 5 rfl; have z6 := Z20.at 6 rfl; have z7 := Z20.at 7 rfl; have z8 := Z20.at 8 rfl; have y0 := Z20.frozen 0; have y1 := Z20.frozen 1; have y2 := Z20.frozen 2; have y3 := Z20.frozen 3; have y4 := Z20.frozen 4; have y5 := Z20.frozen 5; have y6 := Z20.frozen 6; have y7 := Z20.frozen 7; have y8 := Z20.frozen 8; have tt := T20.at 0 rfl; have R20 := (R16).pure hB20) | (go_at_call 46; (with_reducible refine (bad_any _ rb vb rE1 _ hp20 hs20).mono ?_); rintro e _ ⟨rfl, rfl⟩))
  have hgo := hgoh.out
  have hv := Upd.at9 w20 w.heap.size (.string ⟨#[]⟩) (.bool false) (.bool false) (.string ⟨#[]⟩) (.int .u8 0) (.int .u64 0) (.string ⟨#[]⟩) (.slice none 0 0) (.slice none 0 0)
  have K9 := Z20.fresh9 (.string ⟨#[]⟩) (.bool false) (.bool false) (.string ⟨#[]⟩) (.int .u8 0) (.int .u64 0) (.string ⟨#[]⟩) (.slice none 0 0) (.slice none 0 0)
  unfold set9 at hv K9
  have k0 := K9.at 0 rfl; have k1 := K9.at 1 rfl; have k2 := K9.at 2 rfl; have k3 := K9.at 3 rfl; have k4 := K9.at 4 rfl; have k5 := K9.at 5 rfl; have k6 := K9.at 6 rfl; have k7 := K9.at 7 rfl; have k8 := K9.at 8 rfl
  refine bodyPost_ret (by simp [results, Tryz.results43, go_sem, k0, k1, k2, k3, k4, k5, k6, k7, k8]; rfl) rfl ?_
  have hTz := hT20.trans (hv.below hT20.size (fun i e => by omega))
  exact ⟨PT.mk ⟨#[]⟩ false false ⟨#[]⟩ (VT.mk 0 0 ⟨#[]⟩ (.slice none 0 0) (.slice none 0 0) [] []), by rw [hgo]; rfl, by rw [hgo]; exact pr_zt, zt_rd, hTz⟩
end Go.Proofs.YtflglpbjapgciaaGreatDoor
