/- Properties: Get, the document's. Conditions: the text is short enough to be in memory. Written by gen_prJ.py. -/
import Derived.Test.YtogkbbnpkckfdaaDoorPrI
import Derived.Test.YtogkbbnpkckfdaaDoorPrC
namespace Go.Proofs.YtogkbbnpkckfdaaDoor
set_option linter.unusedSimpArgs false
set_option linter.unusedVariables false
open Go.RowKit
theorem pgD_one {L : List UInt8} {d r : Bool} {k : ByteArray} {rK : RS} (h : dgA (L, false) = ((d, r, k), rK)) (h0 : ¬ 0 < rK.1.length) : pgD L = ⟨k, d, r, ⟨#[]⟩, V.zero⟩ := by
  unfold pgD; rw [h]; exact if_neg h0
theorem pgD_two {L : List UInt8} {d r : Bool} {k m : ByteArray} {v : V} {rK : RS} (h : dgA (L, false) = ((d, r, k), rK)) (h0 : 0 < rK.1.length) (h1 : dgB rK = (m, v)) : pgD L = ⟨k, d, r, m, v⟩ := by
  unfold pgD; rw [h]; refine (if_pos h0).trans ?_; rw [h1]
theorem pgO_okD {L : List UInt8} {q : Pr} (h : pgD L = q) (h1 : q.chk = 0) (h2 : q.bytes = L) : pgO L = some q := by
  unfold pgO; rw [h]; exact if_pos ⟨h1, h2⟩
theorem pgO_noD {L : List UInt8} {q : Pr} (h : pgD L = q) (h0 : ¬ (q.chk = 0 ∧ q.bytes = L)) : pgO L = none := by
  unfold pgO; rw [h]; exact if_neg h0
theorem d_bit0 (f : Nat) : ((f : Int) % 2 == 1) = (f % 2 == 1) := by
  by_cases h : f % 2 = 1
  · rw [beq_iff_eq.2 h, beq_iff_eq]; omega
  · rw [beq_eq_false_iff_ne.2 h, beq_eq_false_iff_ne]; omega
theorem d_bit (f m : Nat) (hf : f < 256) (i : Int) (hi : i = (m : Int)) : ((IntKind.u64.wrap ((f : Int) / i)).tmod 2 == 1) = (f / m % 2 == 1) := by
  have e : (f : Int) / i = ((f / m : Nat) : Int) := by subst hi; simp
  have h2 : f / m ≤ f := Nat.div_le_self _ _
  rw [e]
  generalize f / m = k at *
  rw [wrap_u64 _ (by omega) (by omega), Int.tmod_eq_emod_of_nonneg (by omega)]; exact d_bit0 _
set_option maxRecDepth 100000 in
set_option maxHeartbeats 51200000 in
theorem d9get_any (w : World) (s : ByteArray) (hs : s.size ≤ 2000000) : Calls Tryd.prog 16 #[.string s] w (GotP w (pgO s.data.toList)) := by
  obtain ⟨L, hLe⟩ : ∃ L, s.data.toList = L := ⟨_, rfl⟩
  have hLl : L.length = s.size := by rw [← hLe]; exact ba_len s
  have hLB : Big L.length := by unfold Big; omega
  have hB1 := (Below.refl w.heap.size w).alloc (Nat.le_refl _) (.cells #[.string ⟨#[]⟩, .bool false, .bool false, .string ⟨#[]⟩, .int .u8 0, .int .u64 0, .string ⟨#[]⟩, .slice none 0 0, .slice none 0 0] 29)
  have Z1 := Blk.new w [.string ⟨#[]⟩, .bool false, .bool false, .string ⟨#[]⟩, .int .u8 0, .int .u64 0, .string ⟨#[]⟩, .slice none 0 0, .slice none 0 0] 29
  obtain ⟨cc, W2, hcv, hS2, hC2⟩ := conv_bytes (w.alloc (.cells #[.string ⟨#[]⟩, .bool false, .bool false, .string ⟨#[]⟩, .int .u8 0, .int .u64 0, .string ⟨#[]⟩, .slice none 0 0, .slice none 0 0] 29)) s (by omega)
  rw [hLe] at hS2 ⊢
  rw [show (w.alloc (.cells #[.string ⟨#[]⟩, .bool false, .bool false, .string ⟨#[]⟩, .int .u8 0, .int .u64 0, .string ⟨#[]⟩, .slice none 0 0, .slice none 0 0] 29)).heap.size = w.heap.size + 1 by simp] at hS2 hcv
  have Z2 := Z1.pure hC2
  have hT2 := hB1.trans (hC2.mono hB1.size)
  have hLeh := Lib.hid hLe
  -- the plain readers
  obtain ⟨r1, hr1⟩ : ∃ r1, (tkR 7 (L, false)).2 = r1 := ⟨_, rfl⟩
  have hL1 : Big r1.1.length := hLB.mono (by rw [← hr1]; exact tkR_le 7 (L, false))
  obtain ⟨⟨f, rF⟩, hF⟩ : ∃ x, nmR 1 r1 = x := ⟨_, rfl⟩
  have hLF : Big rF.1.length := hL1.mono (by have := nmR_le 1 r1; rw [hF] at this; exact this)
  obtain ⟨db, hdb⟩ : ∃ d, (f % 2 == 1) = d := ⟨_, rfl⟩
  obtain ⟨eb, heb⟩ : ∃ d, (f / 2 % 2 == 1) = d := ⟨_, rfl⟩
  obtain ⟨kb, hkb⟩ : ∃ d, (f / 4 % 2 == 1) = d := ⟨_, rfl⟩
  have hf0 := nmR_lt 1 r1
  rw [hF] at hf0
  have hf : f < 256 := hf0
  have a1 := d_bit0 f; have a2 := d_bit f 2 hf 2 rfl; have a4 := d_bit f 4 hf 4 rfl
  rw [hdb] at a1; rw [heb] at a2; rw [hkb] at a4
  obtain ⟨⟨key, rK⟩, hK⟩ : ∃ x, tkTx kb rF = x := ⟨_, rfl⟩
  have hLK : Big rK.1.length := hLF.mono (by have := tkTx_le kb rF; rw [hK] at this; exact this)
  have hpA := Lib.hid (show dgA (L, false) = ((db, eb, key), rK) by unfold dgA; simp only [hr1, hF, hdb, heb, hkb, hK])
  have hr1h := Lib.hid hr1; have hFh := Lib.hid hF; have hKh := Lib.hid hK
  have hLBh := Lib.hid hLB; have hL1h := Lib.hid hL1; have hLFh := Lib.hid hLF; have hLKh := Lib.hid hLK
  have zi := zero_info
  clear hr1 hF hK hLB hL1 hLF hLK hLe hLl hs hdb heb hkb hf hf0
  go_enter Tryd.func16, Tryd.ntmps16
  go_upto_region 7 with (first | (go_at_call 40; refine (dopen_any _ _ L hS2 hLBh.out).mono ?_; rintro e w3 ⟨rb, rfl, hs3, hrb3, hB3⟩; have Z3 := Z2.pure hB3; have hT3 := hT2.trans (hB3.mono hT2.size); have hvb := Lib.hid (show w.heap.size < rb by have h1 := hC2.size; simp at h1; omega); have hvp := Lib.hid (show rb < w3.heap.size from hs3.lt); have hA4 := ((Below.refl w3.heap.size w3).alloc (Nat.le_refl _) (.cells #[.string ⟨#[]⟩, .bool false, .bool false, .string ⟨#[]⟩, .int .u8 0, .int .u64 0, .string ⟨#[]⟩, .slice none 0 0, .slice none 0 0] 29)); have Z4 := Z3.pure hA4; have hs4 := hs3.pure hA4; have hT4 := hT3.trans (hA4.mono hT3.size); have P4 := Blk.new w3 [.string ⟨#[]⟩, .bool false, .bool false, .string ⟨#[]⟩, .int .u8 0, .int .u64 0, .string ⟨#[]⟩, .slice none 0 0, .slice none 0 0] 29) | (go_at_call 41; refine (dtake_rs _ rb (L, false) 7 hs4 hLBh.out).mono ?_; rintro e w5 ⟨v5, rfl, -, -, hs5, hu5⟩; rw [hr1h.out] at hs5; have Z5 := Z4.upd hu5 (fun e => by have h1 := hvb.out; have h2 := hvp.out; unfold Only at e; omega); have P5 := P4.upd hu5 (fun e => by have h1 := hvb.out; have h2 := hvp.out; unfold Only at e; omega); have hT5 := below_only hT4 hu5 (by have h1 := hvb.out; omega) hT4.size) | (go_at_call 42; refine (dnum_rs _ rb r1 1 hs5 (by unfold Wd; omega) hL1h.out).mono ?_; rintro e w6 ⟨he, hs6, hu6⟩; simp only [hFh.out] at he hs6; subst he; have Z6 := Z5.upd hu6 (fun e => by have h1 := hvb.out; have h2 := hvp.out; unfold Only at e; omega); have P6 := P5.upd hu6 (fun e => by have h1 := hvb.out; have h2 := hvp.out; unfold Only at e; omega); have hT6 := below_only hT5 hu6 (by have h1 := hvb.out; omega) hT5.size; have p1 := P6.at 1 rfl; have y1 := P6.frozen 1; have P6a := P6.set 1 (.bool db); have p2 := P6a.at 2 rfl; have y2 := P6a.frozen 2))
  have hu7 := upd_set _ _ 2 (.bool eb) (Upd.set (S := fun k => k = w3.heap.size) (w := w6) (p := ⟨w3.heap.size, 1, none⟩) rfl (.bool db)) rfl
  have Z7 := Z6.upd hu7 (fun e => by have h1 := hvb.out; have h2 := hvp.out; omega); have hs7 := hs6.above hu7 (fun k e => by have h2 := hvp.out; omega); have hT7 := hT6.trans (hu7.below hT6.size (fun i e => by have h1 := hvb.out; have h2 := hvp.out; omega))
  have P7 : Blk _ w3.heap.size [.string ⟨#[]⟩, .bool db, .bool eb, .string ⟨#[]⟩, .int .u8 0, .int .u64 0, .string ⟨#[]⟩, .slice none 0 0, .slice none 0 0] := P6a.set 2 (.bool eb)
  generalize World.setCell (World.setCell w6 _ _) _ _ = W7 at *
  clear p1 y1 p2 y2 P6a P6 P5 P4 Z1 Z2 Z3 Z4 Z5 Z6 hs3 hs4 hs5 hs6 hT2 hT3 hT4 hT5 hT6 hu5 hu6 hu7 hB3 hC2 hB1 hS2 a1 a2 hcv
  cases kb
  · obtain ⟨rfl, rfl⟩ : key = ⟨#[]⟩ ∧ rK = rF := by have h := hKh.out; unfold tkTx at h; exact ⟨(congrArg Prod.fst h).symm, (congrArg Prod.snd h).symm⟩
    go_upto_region 9 with fail
    obtain ⟨la, lc, lq0, -⟩ := hs7.cells
    by_cases h0 : 0 < rK.1.length
    rotate_left 1
    · have b0 : decide ((0 : Int) < (rK.1.length : Int)) = false := decide_eq_false (by omega)
      have b9 : ¬ (0 : Int) < (rK.1.length : Int) := by omega
      have hpg := Lib.hid (pgD_one hpA.out h0)
      clear h0
      go_upto_region 16 with fail
      obtain ⟨q, hq⟩ : ∃ q, (PT.mk ⟨#[]⟩ db eb ⟨#[]⟩ (VT.mk 0 0 ⟨#[]⟩ (.slice none 0 0) (.slice none 0 0) [] [])).p = q := ⟨_, rfl⟩
      have hpq := Lib.hid (show pgD L = q by rw [← hq]; exact hpg.out)
      have hput := d9put_any (PT.mk ⟨#[]⟩ db eb ⟨#[]⟩ (VT.mk 0 0 ⟨#[]⟩ (.slice none 0 0) (.slice none 0 0) [] [])) (fun i => w.heap.size < i) W7 zt_rd
      obtain ⟨cx, hcx⟩ : ∃ cx, q.chk = cx := ⟨_, rfl⟩
      obtain ⟨tx, htx⟩ : ∃ tx, (if cx = 0 then q.text else (⟨#[]⟩ : ByteArray)) = tx := ⟨_, rfl⟩
      rw [hq, hcx, htx, PT.arg_mk] at hput
      have hputh := Lib.hid hput; have hqh := Lib.hid hq; have hcxh := Lib.hid hcx; have htxh := Lib.hid htx
      clear hput hq hcx htx
      have p0 := P7.at 0 rfl; have p1 := P7.at 1 rfl; have p2 := P7.at 2 rfl; have p3 := P7.at 3 rfl; have p4 := P7.at 4 rfl; have p5 := P7.at 5 rfl; have p6 := P7.at 6 rfl; have p7 := P7.at 7 rfl; have p8 := P7.at 8 rfl
      by_cases hok : cx = 0 ∧ tx = s
      · obtain ⟨rfl, rfl⟩ := hok
        have hgo : pgO L = some q := pgO_okD hpq.out hcxh.out (by have h1 := htxh.out; rw [if_pos rfl] at h1; exact (text_eq.1 h1).trans hLeh.out)
        have hgoh := Lib.hid hgo; clear hgo
        go_wp2_with (go_at_call 12; refine (hputh.out).mono ?_; rintro e w20 ⟨rfl, hB20⟩; have Z20 := Z7.pure hB20; have P20 := P7.pure hB20; have hT20 := hT7.trans (hB20.mono hT7.size); clear p0 p1 p2 p3 p4 p5 p6 p7 p8; have p0 := P20.at 0 rfl; have p1 := P20.at 1 rfl; have p2 := P20.at 2 rfl; have p3 := P20.at 3 rfl; have p4 := P20.at 4 rfl; have p5 := P20.at 5 rfl; have p6 := P20.at 6 rfl; have p7 := P20.at 7 rfl; have p8 := P20.at 8 rfl; have z0 := Z20.at 0 rfl; have z1 := Z20.at 1 rfl; have z2 := Z20.at 2 rfl; have z3 := Z20.at 3 rfl; have z4 := Z20.at 4 rfl; have z5 := Z20.at 5 rfl; have z6 := Z20.at 6 rfl; have z7 := Z20.at 7 rfl; have z8 := Z20.at 8 rfl; have y0 := Z20.frozen 0; have y1 := Z20.frozen 1; have y2 := Z20.frozen 2; have y3 := Z20.frozen 3; have y4 := Z20.frozen 4; have y5 := Z20.frozen 5; have y6 := Z20.frozen 6; have y7 := Z20.frozen 7; have y8 := Z20.frozen 8)
        have hgo := hgoh.out
        have hv := Upd.at9 w20 w.heap.size (.string ⟨#[]⟩) (.bool db) (.bool eb) (.string ⟨#[]⟩) (.int .u8 0) (.int .u64 0) (.string ⟨#[]⟩) (.slice none 0 0) (.slice none 0 0)
        have K9 := Z20.fresh9 (.string ⟨#[]⟩) (.bool db) (.bool eb) (.string ⟨#[]⟩) (.int .u8 0) (.int .u64 0) (.string ⟨#[]⟩) (.slice none 0 0) (.slice none 0 0)
        unfold set9 at hv K9
        have k0 := K9.at 0 rfl; have k1 := K9.at 1 rfl; have k2 := K9.at 2 rfl; have k3 := K9.at 3 rfl; have k4 := K9.at 4 rfl; have k5 := K9.at 5 rfl; have k6 := K9.at 6 rfl; have k7 := K9.at 7 rfl; have k8 := K9.at 8 rfl
        refine bodyPost_ret (by simp [results, Tryd.results16, go_sem, k0, k1, k2, k3, k4, k5, k6, k7, k8]; rfl) rfl ?_
        have hTz := hT20.trans (hv.below hT20.size (fun i e => by omega))
        exact ⟨PT.mk ⟨#[]⟩ db eb ⟨#[]⟩ (VT.mk 0 0 ⟨#[]⟩ (.slice none 0 0) (.slice none 0 0) [] []), by rw [hgo]; rfl, by rw [hgo]; exact hqh.out, zt_rd, hTz⟩
      have hgo : pgO L = none := pgO_noD hpq.out (fun e => hok ⟨hcxh.out.symm.trans e.1, by have h1 := htxh.out; rw [if_pos (hcxh.out.symm.trans e.1)] at h1; rw [← h1]; exact text_eq.2 (e.2.trans hLeh.out.symm)⟩)
      have hgoh := Lib.hid hgo; clear hgo
      by_cases hc : cx = 0
      rotate_left 1
      · have b1 : (cx != 0) = true := bne_iff_ne.2 hc
        have b2 : (cx == 0) = false := beq_eq_false_iff_ne.2 hc
        clear hok hc
        go_wp2_with (go_at_call 12; refine (hputh.out).mono ?_; rintro e w20 ⟨rfl, hB20⟩; have Z20 := Z7.pure hB20; have P20 := P7.pure hB20; have hT20 := hT7.trans (hB20.mono hT7.size); clear p0 p1 p2 p3 p4 p5 p6 p7 p8; have p0 := P20.at 0 rfl; have p1 := P20.at 1 rfl; have p2 := P20.at 2 rfl; have p3 := P20.at 3 rfl; have p4 := P20.at 4 rfl; have p5 := P20.at 5 rfl; have p6 := P20.at 6 rfl; have p7 := P20.at 7 rfl; have p8 := P20.at 8 rfl; have z0 := Z20.at 0 rfl; have z1 := Z20.at 1 rfl; have z2 := Z20.at 2 rfl; have z3 := Z20.at 3 rfl; have z4 := Z20.at 4 rfl; have z5 := Z20.at 5 rfl; have z6 := Z20.at 6 rfl; have z7 := Z20.at 7 rfl; have z8 := Z20.at 8 rfl; have y0 := Z20.frozen 0; have y1 := Z20.frozen 1; have y2 := Z20.frozen 2; have y3 := Z20.frozen 3; have y4 := Z20.frozen 4; have y5 := Z20.frozen 5; have y6 := Z20.frozen 6; have y7 := Z20.frozen 7; have y8 := Z20.frozen 8)
        have hgo := hgoh.out
        have hv := Upd.at9 w20 w.heap.size (.string ⟨#[]⟩) (.bool false) (.bool false) (.string ⟨#[]⟩) (.int .u8 0) (.int .u64 0) (.string ⟨#[]⟩) (.slice none 0 0) (.slice none 0 0)
        have K9 := Z20.fresh9 (.string ⟨#[]⟩) (.bool false) (.bool false) (.string ⟨#[]⟩) (.int .u8 0) (.int .u64 0) (.string ⟨#[]⟩) (.slice none 0 0) (.slice none 0 0)
        unfold set9 at hv K9
        have k0 := K9.at 0 rfl; have k1 := K9.at 1 rfl; have k2 := K9.at 2 rfl; have k3 := K9.at 3 rfl; have k4 := K9.at 4 rfl; have k5 := K9.at 5 rfl; have k6 := K9.at 6 rfl; have k7 := K9.at 7 rfl; have k8 := K9.at 8 rfl
        refine bodyPost_ret (by simp [results, Tryd.results16, go_sem, k0, k1, k2, k3, k4, k5, k6, k7, k8]; rfl) rfl ?_
        have hTz := hT20.trans (hv.below hT20.size (fun i e => by omega))
        exact ⟨PT.mk ⟨#[]⟩ false false ⟨#[]⟩ (VT.mk 0 0 ⟨#[]⟩ (.slice none 0 0) (.slice none 0 0) [] []), by rw [hgo]; rfl, by rw [hgo]; exact pr_zt, zt_rd, hTz⟩
      subst hc
      have hne : tx ≠ s := fun e => hok ⟨rfl, e⟩
      have b1 : ¬ tx.toList = s.toList := ba_toList_ne hne
      have b2 : (tx.toList == s.toList) = false := beq_eq_false_iff_ne.2 b1
      have b3 : (tx != s) = true := ba_bne hne
      clear hok hne
      go_wp2_with (go_at_call 12; refine (hputh.out).mono ?_; rintro e w20 ⟨rfl, hB20⟩; have Z20 := Z7.pure hB20; have P20 := P7.pure hB20; have hT20 := hT7.trans (hB20.mono hT7.size); clear p0 p1 p2 p3 p4 p5 p6 p7 p8; have p0 := P20.at 0 rfl; have p1 := P20.at 1 rfl; have p2 := P20.at 2 rfl; have p3 := P20.at 3 rfl; have p4 := P20.at 4 rfl; have p5 := P20.at 5 rfl; have p6 := P20.at 6 rfl; have p7 := P20.at 7 rfl; have p8 := P20.at 8 rfl; have z0 := Z20.at 0 rfl; have z1 := Z20.at 1 rfl; have z2 := Z20.at 2 rfl; have z3 := Z20.at 3 rfl; have z4 := Z20.at 4 rfl; have z5 := Z20.at 5 rfl; have z6 := Z20.at 6 rfl; have z7 := Z20.at 7 rfl; have z8 := Z20.at 8 rfl; have y0 := Z20.frozen 0; have y1 := Z20.frozen 1; have y2 := Z20.frozen 2; have y3 := Z20.frozen 3; have y4 := Z20.frozen 4; have y5 := Z20.frozen 5; have y6 := Z20.frozen 6; have y7 := Z20.frozen 7; have y8 := Z20.frozen 8)
      have hgo := hgoh.out
      have hv := Upd.at9 w20 w.heap.size (.string ⟨#[]⟩) (.bool false) (.bool false) (.string ⟨#[]⟩) (.int .u8 0) (.int .u64 0) (.string ⟨#[]⟩) (.slice none 0 0) (.slice none 0 0)
      have K9 := Z20.fresh9 (.string ⟨#[]⟩) (.bool false) (.bool false) (.string ⟨#[]⟩) (.int .u8 0) (.int .u64 0) (.string ⟨#[]⟩) (.slice none 0 0) (.slice none 0 0)
      unfold set9 at hv K9
      have k0 := K9.at 0 rfl; have k1 := K9.at 1 rfl; have k2 := K9.at 2 rfl; have k3 := K9.at 3 rfl; have k4 := K9.at 4 rfl; have k5 := K9.at 5 rfl; have k6 := K9.at 6 rfl; have k7 := K9.at 7 rfl; have k8 := K9.at 8 rfl
      refine bodyPost_ret (by simp [results, Tryd.results16, go_sem, k0, k1, k2, k3, k4, k5, k6, k7, k8]; rfl) rfl ?_
      have hTz := hT20.trans (hv.below hT20.size (fun i e => by omega))
      exact ⟨PT.mk ⟨#[]⟩ false false ⟨#[]⟩ (VT.mk 0 0 ⟨#[]⟩ (.slice none 0 0) (.slice none 0 0) [] []), by rw [hgo]; rfl, by rw [hgo]; exact pr_zt, zt_rd, hTz⟩
    have b0 : decide ((0 : Int) < (rK.1.length : Int)) = true := decide_eq_true (by omega)
    have b9 : (0 : Int) < (rK.1.length : Int) := by omega
    have h0h := Lib.hid h0
    clear h0
    obtain ⟨r2, hr2⟩ : ∃ r2, (tkR 7 rK).2 = r2 := ⟨_, rfl⟩
    have hL2 : Big r2.1.length := hLKh.out.mono (by rw [← hr2]; exact tkR_le 7 rK)
    obtain ⟨⟨g, rG⟩, hG⟩ : ∃ x, nmR 1 r2 = x := ⟨_, rfl⟩
    have hLG : Big rG.1.length := hL2.mono (by have := nmR_le 1 r2; rw [hG] at this; exact this)
    have hg0 := nmR_lt 1 r2
    rw [hG] at hg0
    have hg : g < 256 := hg0
    obtain ⟨ib, hib⟩ : ∃ d, (g % 2 == 1) = d := ⟨_, rfl⟩
    obtain ⟨jb, hjb⟩ : ∃ d, (g / 2 % 2 == 1) = d := ⟨_, rfl⟩
    have a1 := d_bit0 g; have a2 := d_bit g 2 hg 2 rfl
    rw [hib] at a1; rw [hjb] at a2
    obtain ⟨⟨mid, rM⟩, hM⟩ : ∃ x, tkTx ib rG = x := ⟨_, rfl⟩
    have hLM : Big rM.1.length := hLG.mono (by have := tkTx_le ib rG; rw [hM] at this; exact this)
    have hpB := Lib.hid (show dgB rK = (mid, if g / 2 % 2 = 1 then getV (getP rM.1) else V.zero) by unfold dgB; simp only [hr2, hG, hib, hM])
    have hr2h := Lib.hid hr2; have hGh := Lib.hid hG; have hMh := Lib.hid hM; have hjh := Lib.hid hjb
    have hL2h := Lib.hid hL2; have hLGh := Lib.hid hLG; have hLMh := Lib.hid hLM
    clear hr2 hG hM hL2 hLG hLM hg hg0 hib hjb
    go_upto_region 12 with (first | (go_at_call 41; refine (dtake_rs _ rb rK 7 hs7 hLKh.out).mono ?_; rintro e w9 ⟨v9, rfl, -, -, hs9, hu9⟩; rw [hr2h.out] at hs9; have Z9 := Z7.upd hu9 (fun e => by have h1 := hvb.out; have h2 := hvp.out; unfold Only at e; omega); have P9 := P7.upd hu9 (fun e => by have h1 := hvb.out; have h2 := hvp.out; unfold Only at e; omega); have hT9 := below_only hT7 hu9 (by have h1 := hvb.out; omega) hT7.size) | (go_at_call 42; refine (dnum_rs _ rb r2 1 hs9 (by unfold Wd; omega) hL2h.out).mono ?_; rintro e w10 ⟨he, hs10, hu10⟩; simp only [hGh.out] at he hs10; subst he; have Z10 := Z9.upd hu10 (fun e => by have h1 := hvb.out; have h2 := hvp.out; unfold Only at e; omega); have P10 := P9.upd hu10 (fun e => by have h1 := hvb.out; have h2 := hvp.out; unfold Only at e; omega); have hT10 := below_only hT9 hu10 (by have h1 := hvb.out; omega) hT9.size))
    clear Z9 P9 hs9 hT9 hu9 hu10
    cases ib
    · obtain ⟨rfl, rfl⟩ : mid = ⟨#[]⟩ ∧ rM = rG := by have h := hMh.out; unfold tkTx at h; exact ⟨(congrArg Prod.fst h).symm, (congrArg Prod.snd h).symm⟩
      go_upto_region 14 with fail
      cases jb
      · have hpb := Lib.hid (show dgB rK = (⟨#[]⟩, V.zero) by rw [hpB.out, if_neg (fun e => by have h1 := hjh.out; rw [e] at h1; exact absurd h1 (by decide))])
        have hpg := Lib.hid (pgD_two hpA.out h0h.out hpb.out)
        go_upto_region 16 with fail
        obtain ⟨q, hq⟩ : ∃ q, (PT.mk ⟨#[]⟩ db eb ⟨#[]⟩ (VT.mk 0 0 ⟨#[]⟩ (.slice none 0 0) (.slice none 0 0) [] [])).p = q := ⟨_, rfl⟩
        have hpq := Lib.hid (show pgD L = q by rw [← hq]; exact hpg.out)
        have hput := d9put_any (PT.mk ⟨#[]⟩ db eb ⟨#[]⟩ (VT.mk 0 0 ⟨#[]⟩ (.slice none 0 0) (.slice none 0 0) [] [])) (fun i => w.heap.size < i) w10 zt_rd
        obtain ⟨cx, hcx⟩ : ∃ cx, q.chk = cx := ⟨_, rfl⟩
        obtain ⟨tx, htx⟩ : ∃ tx, (if cx = 0 then q.text else (⟨#[]⟩ : ByteArray)) = tx := ⟨_, rfl⟩
        rw [hq, hcx, htx, PT.arg_mk] at hput
        have hputh := Lib.hid hput; have hqh := Lib.hid hq; have hcxh := Lib.hid hcx; have htxh := Lib.hid htx
        clear hput hq hcx htx
        have p0 := P10.at 0 rfl; have p1 := P10.at 1 rfl; have p2 := P10.at 2 rfl; have p3 := P10.at 3 rfl; have p4 := P10.at 4 rfl; have p5 := P10.at 5 rfl; have p6 := P10.at 6 rfl; have p7 := P10.at 7 rfl; have p8 := P10.at 8 rfl
        by_cases hok : cx = 0 ∧ tx = s
        · obtain ⟨rfl, rfl⟩ := hok
          have hgo : pgO L = some q := pgO_okD hpq.out hcxh.out (by have h1 := htxh.out; rw [if_pos rfl] at h1; exact (text_eq.1 h1).trans hLeh.out)
          have hgoh := Lib.hid hgo; clear hgo
          go_wp2_with (go_at_call 12; refine (hputh.out).mono ?_; rintro e w20 ⟨rfl, hB20⟩; have Z20 := Z10.pure hB20; have P20 := P10.pure hB20; have hT20 := hT10.trans (hB20.mono hT10.size); clear p0 p1 p2 p3 p4 p5 p6 p7 p8; have p0 := P20.at 0 rfl; have p1 := P20.at 1 rfl; have p2 := P20.at 2 rfl; have p3 := P20.at 3 rfl; have p4 := P20.at 4 rfl; have p5 := P20.at 5 rfl; have p6 := P20.at 6 rfl; have p7 := P20.at 7 rfl; have p8 := P20.at 8 rfl; have z0 := Z20.at 0 rfl; have z1 := Z20.at 1 rfl; have z2 := Z20.at 2 rfl; have z3 := Z20.at 3 rfl; have z4 := Z20.at 4 rfl; have z5 := Z20.at 5 rfl; have z6 := Z20.at 6 rfl; have z7 := Z20.at 7 rfl; have z8 := Z20.at 8 rfl; have y0 := Z20.frozen 0; have y1 := Z20.frozen 1; have y2 := Z20.frozen 2; have y3 := Z20.frozen 3; have y4 := Z20.frozen 4; have y5 := Z20.frozen 5; have y6 := Z20.frozen 6; have y7 := Z20.frozen 7; have y8 := Z20.frozen 8)
          have hgo := hgoh.out
          have hv := Upd.at9 w20 w.heap.size (.string ⟨#[]⟩) (.bool db) (.bool eb) (.string ⟨#[]⟩) (.int .u8 0) (.int .u64 0) (.string ⟨#[]⟩) (.slice none 0 0) (.slice none 0 0)
          have K9 := Z20.fresh9 (.string ⟨#[]⟩) (.bool db) (.bool eb) (.string ⟨#[]⟩) (.int .u8 0) (.int .u64 0) (.string ⟨#[]⟩) (.slice none 0 0) (.slice none 0 0)
          unfold set9 at hv K9
          have k0 := K9.at 0 rfl; have k1 := K9.at 1 rfl; have k2 := K9.at 2 rfl; have k3 := K9.at 3 rfl; have k4 := K9.at 4 rfl; have k5 := K9.at 5 rfl; have k6 := K9.at 6 rfl; have k7 := K9.at 7 rfl; have k8 := K9.at 8 rfl
          refine bodyPost_ret (by simp [results, Tryd.results16, go_sem, k0, k1, k2, k3, k4, k5, k6, k7, k8]; rfl) rfl ?_
          have hTz := hT20.trans (hv.below hT20.size (fun i e => by omega))
          exact ⟨PT.mk ⟨#[]⟩ db eb ⟨#[]⟩ (VT.mk 0 0 ⟨#[]⟩ (.slice none 0 0) (.slice none 0 0) [] []), by rw [hgo]; rfl, by rw [hgo]; exact hqh.out, zt_rd, hTz⟩
        have hgo : pgO L = none := pgO_noD hpq.out (fun e => hok ⟨hcxh.out.symm.trans e.1, by have h1 := htxh.out; rw [if_pos (hcxh.out.symm.trans e.1)] at h1; rw [← h1]; exact text_eq.2 (e.2.trans hLeh.out.symm)⟩)
        have hgoh := Lib.hid hgo; clear hgo
        by_cases hc : cx = 0
        rotate_left 1
        · have b1 : (cx != 0) = true := bne_iff_ne.2 hc
          have b2 : (cx == 0) = false := beq_eq_false_iff_ne.2 hc
          clear hok hc
          go_wp2_with (go_at_call 12; refine (hputh.out).mono ?_; rintro e w20 ⟨rfl, hB20⟩; have Z20 := Z10.pure hB20; have P20 := P10.pure hB20; have hT20 := hT10.trans (hB20.mono hT10.size); clear p0 p1 p2 p3 p4 p5 p6 p7 p8; have p0 := P20.at 0 rfl; have p1 := P20.at 1 rfl; have p2 := P20.at 2 rfl; have p3 := P20.at 3 rfl; have p4 := P20.at 4 rfl; have p5 := P20.at 5 rfl; have p6 := P20.at 6 rfl; have p7 := P20.at 7 rfl; have p8 := P20.at 8 rfl; have z0 := Z20.at 0 rfl; have z1 := Z20.at 1 rfl; have z2 := Z20.at 2 rfl; have z3 := Z20.at 3 rfl; have z4 := Z20.at 4 rfl; have z5 := Z20.at 5 rfl; have z6 := Z20.at 6 rfl; have z7 := Z20.at 7 rfl; have z8 := Z20.at 8 rfl; have y0 := Z20.frozen 0; have y1 := Z20.frozen 1; have y2 := Z20.frozen 2; have y3 := Z20.frozen 3; have y4 := Z20.frozen 4; have y5 := Z20.frozen 5; have y6 := Z20.frozen 6; have y7 := Z20.frozen 7; have y8 := Z20.frozen 8)
          have hgo := hgoh.out
          have hv := Upd.at9 w20 w.heap.size (.string ⟨#[]⟩) (.bool false) (.bool false) (.string ⟨#[]⟩) (.int .u8 0) (.int .u64 0) (.string ⟨#[]⟩) (.slice none 0 0) (.slice none 0 0)
          have K9 := Z20.fresh9 (.string ⟨#[]⟩) (.bool false) (.bool false) (.string ⟨#[]⟩) (.int .u8 0) (.int .u64 0) (.string ⟨#[]⟩) (.slice none 0 0) (.slice none 0 0)
          unfold set9 at hv K9
          have k0 := K9.at 0 rfl; have k1 := K9.at 1 rfl; have k2 := K9.at 2 rfl; have k3 := K9.at 3 rfl; have k4 := K9.at 4 rfl; have k5 := K9.at 5 rfl; have k6 := K9.at 6 rfl; have k7 := K9.at 7 rfl; have k8 := K9.at 8 rfl
          refine bodyPost_ret (by simp [results, Tryd.results16, go_sem, k0, k1, k2, k3, k4, k5, k6, k7, k8]; rfl) rfl ?_
          have hTz := hT20.trans (hv.below hT20.size (fun i e => by omega))
          exact ⟨PT.mk ⟨#[]⟩ false false ⟨#[]⟩ (VT.mk 0 0 ⟨#[]⟩ (.slice none 0 0) (.slice none 0 0) [] []), by rw [hgo]; rfl, by rw [hgo]; exact pr_zt, zt_rd, hTz⟩
        subst hc
        have hne : tx ≠ s := fun e => hok ⟨rfl, e⟩
        have b1 : ¬ tx.toList = s.toList := ba_toList_ne hne
        have b2 : (tx.toList == s.toList) = false := beq_eq_false_iff_ne.2 b1
        have b3 : (tx != s) = true := ba_bne hne
        clear hok hne
        go_wp2_with (go_at_call 12; refine (hputh.out).mono ?_; rintro e w20 ⟨rfl, hB20⟩; have Z20 := Z10.pure hB20; have P20 := P10.pure hB20; have hT20 := hT10.trans (hB20.mono hT10.size); clear p0 p1 p2 p3 p4 p5 p6 p7 p8; have p0 := P20.at 0 rfl; have p1 := P20.at 1 rfl; have p2 := P20.at 2 rfl; have p3 := P20.at 3 rfl; have p4 := P20.at 4 rfl; have p5 := P20.at 5 rfl; have p6 := P20.at 6 rfl; have p7 := P20.at 7 rfl; have p8 := P20.at 8 rfl; have z0 := Z20.at 0 rfl; have z1 := Z20.at 1 rfl; have z2 := Z20.at 2 rfl; have z3 := Z20.at 3 rfl; have z4 := Z20.at 4 rfl; have z5 := Z20.at 5 rfl; have z6 := Z20.at 6 rfl; have z7 := Z20.at 7 rfl; have z8 := Z20.at 8 rfl; have y0 := Z20.frozen 0; have y1 := Z20.frozen 1; have y2 := Z20.frozen 2; have y3 := Z20.frozen 3; have y4 := Z20.frozen 4; have y5 := Z20.frozen 5; have y6 := Z20.frozen 6; have y7 := Z20.frozen 7; have y8 := Z20.frozen 8)
        have hgo := hgoh.out
        have hv := Upd.at9 w20 w.heap.size (.string ⟨#[]⟩) (.bool false) (.bool false) (.string ⟨#[]⟩) (.int .u8 0) (.int .u64 0) (.string ⟨#[]⟩) (.slice none 0 0) (.slice none 0 0)
        have K9 := Z20.fresh9 (.string ⟨#[]⟩) (.bool false) (.bool false) (.string ⟨#[]⟩) (.int .u8 0) (.int .u64 0) (.string ⟨#[]⟩) (.slice none 0 0) (.slice none 0 0)
        unfold set9 at hv K9
        have k0 := K9.at 0 rfl; have k1 := K9.at 1 rfl; have k2 := K9.at 2 rfl; have k3 := K9.at 3 rfl; have k4 := K9.at 4 rfl; have k5 := K9.at 5 rfl; have k6 := K9.at 6 rfl; have k7 := K9.at 7 rfl; have k8 := K9.at 8 rfl
        refine bodyPost_ret (by simp [results, Tryd.results16, go_sem, k0, k1, k2, k3, k4, k5, k6, k7, k8]; rfl) rfl ?_
        have hTz := hT20.trans (hv.below hT20.size (fun i e => by omega))
        exact ⟨PT.mk ⟨#[]⟩ false false ⟨#[]⟩ (VT.mk 0 0 ⟨#[]⟩ (.slice none 0 0) (.slice none 0 0) [] []), by rw [hgo]; rfl, by rw [hgo]; exact pr_zt, zt_rd, hTz⟩
      have hpb := Lib.hid (show dgB rK = (⟨#[]⟩, getV (getP rM.1)) by rw [hpB.out, if_pos (beq_iff_eq.1 hjh.out)])
      have hpg := Lib.hid (pgD_two hpA.out h0h.out hpb.out)
      obtain ⟨bv, bq1, bq2, bq3⟩ := hs10
      obtain ⟨ba, bc, rfl, -⟩ := bq2.len
      have bc0 := bq1.at 0 rfl
      have bS := bq2
      go_upto_region 16 with (go_at_call 44; refine (dget_one _ _ rM.1 bS hLMh.out).mono ?_; rintro e w15 ⟨uk, un, us, uka, ukc, ula, ulc, uks, ul, rfl, huv, huR, hB15⟩; have huvh := Lib.hid huv; clear huv; have Z15 := Z10.pure hB15; have P15 := P10.pure hB15; have hT15 := hT10.trans (hB15.mono hT10.size); have p4 := P15.at 4 rfl; have y4 := P15.frozen 4; have p5 := P15.at 5 rfl; have y5 := P15.frozen 5; have p6 := P15.at 6 rfl; have y6 := P15.frozen 6; have p7 := P15.at 7 rfl; have y7 := P15.frozen 7; have p8 := P15.at 8 rfl; have y8 := P15.frozen 8)
      have hu16 := Upd.app9 w15 w3.heap.size (.int .u8 uk) (.int .u64 un) (.string us) (.slice uka uks.length ukc) (.slice ula ul.length ulc)
      have P16 := P15.app9 (.int .u8 uk) (.int .u64 un) (.string us) (.slice uka uks.length ukc) (.slice ula ul.length ulc)
      have Z16 := Z15.upd hu16 (fun e => by have h1 := hvb.out; have h2 := hvp.out; omega)
      have hT16 := hT15.trans (hu16.below hT15.size (fun i e => by have h1 := hvb.out; have h2 := hvp.out; omega))
      have R16 := (huR.upd hu16 (fun b hb e => by have h1 := P10.lt; omega)).weaken (fun i _ hi => (show w.heap.size < i by have h1 := P10.lt; have h2 := hvp.out; have h3 := hvb.out; omega))
      unfold setApp at hu16 P16 Z16 hT16 R16
      generalize World.setCell (World.setCell (World.setCell (World.setCell (World.setCell w15 _ _) _ _) _ _) _ _) _ _ = W16 at *
      clear p4 p5 p6 p7 p8 y4 y5 y6 y7 y8
      obtain ⟨q, hq⟩ : ∃ q, (PT.mk ⟨#[]⟩ db eb ⟨#[]⟩ (VT.mk uk un us (.slice uka uks.length ukc) (.slice ula ul.length ulc) uks ul)).p = q := ⟨_, rfl⟩
      have hpq := Lib.hid (show pgD L = q by rw [← hq]; exact (by rw [hpg.out]; exact congrArg (fun x => Pr.mk ⟨#[]⟩ db eb ⟨#[]⟩ x) huvh.out.symm))
      have hput := d9put_any (PT.mk ⟨#[]⟩ db eb ⟨#[]⟩ (VT.mk uk un us (.slice uka uks.length ukc) (.slice ula ul.length ulc) uks ul)) (fun i => w.heap.size < i) W16 R16
      obtain ⟨cx, hcx⟩ : ∃ cx, q.chk = cx := ⟨_, rfl⟩
      obtain ⟨tx, htx⟩ : ∃ tx, (if cx = 0 then q.text else (⟨#[]⟩ : ByteArray)) = tx := ⟨_, rfl⟩
      rw [hq, hcx, htx, PT.arg_mk] at hput
      have hputh := Lib.hid hput; have hqh := Lib.hid hq; have hcxh := Lib.hid hcx; have htxh := Lib.hid htx
      clear hput hq hcx htx
      have p0 := P16.at 0 rfl; have p1 := P16.at 1 rfl; have p2 := P16.at 2 rfl; have p3 := P16.at 3 rfl; have p4 := P16.at 4 rfl; have p5 := P16.at 5 rfl; have p6 := P16.at 6 rfl; have p7 := P16.at 7 rfl; have p8 := P16.at 8 rfl
      by_cases hok : cx = 0 ∧ tx = s
      · obtain ⟨rfl, rfl⟩ := hok
        have hgo : pgO L = some q := pgO_okD hpq.out hcxh.out (by have h1 := htxh.out; rw [if_pos rfl] at h1; exact (text_eq.1 h1).trans hLeh.out)
        have hgoh := Lib.hid hgo; clear hgo
        go_wp2_with (go_at_call 12; refine (hputh.out).mono ?_; rintro e w20 ⟨rfl, hB20⟩; have Z20 := Z16.pure hB20; have P20 := P16.pure hB20; have hT20 := hT16.trans (hB20.mono hT16.size); clear p0 p1 p2 p3 p4 p5 p6 p7 p8; have p0 := P20.at 0 rfl; have p1 := P20.at 1 rfl; have p2 := P20.at 2 rfl; have p3 := P20.at 3 rfl; have p4 := P20.at 4 rfl; have p5 := P20.at 5 rfl; have p6 := P20.at 6 rfl; have p7 := P20.at 7 rfl; have p8 := P20.at 8 rfl; have z0 := Z20.at 0 rfl; have z1 := Z20.at 1 rfl; have z2 := Z20.at 2 rfl; have z3 := Z20.at 3 rfl; have z4 := Z20.at 4 rfl; have z5 := Z20.at 5 rfl; have z6 := Z20.at 6 rfl; have z7 := Z20.at 7 rfl; have z8 := Z20.at 8 rfl; have y0 := Z20.frozen 0; have y1 := Z20.frozen 1; have y2 := Z20.frozen 2; have y3 := Z20.frozen 3; have y4 := Z20.frozen 4; have y5 := Z20.frozen 5; have y6 := Z20.frozen 6; have y7 := Z20.frozen 7; have y8 := Z20.frozen 8; have R20 := (R16).pure hB20)
        have hgo := hgoh.out
        have hv := Upd.at9 w20 w.heap.size (.string ⟨#[]⟩) (.bool db) (.bool eb) (.string ⟨#[]⟩) (.int .u8 uk) (.int .u64 un) (.string us) (.slice uka uks.length ukc) (.slice ula ul.length ulc)
        have K9 := Z20.fresh9 (.string ⟨#[]⟩) (.bool db) (.bool eb) (.string ⟨#[]⟩) (.int .u8 uk) (.int .u64 un) (.string us) (.slice uka uks.length ukc) (.slice ula ul.length ulc)
        have R9 := R20.upd hv (fun b hb e => by omega)
        unfold set9 at hv K9 R9
        have k0 := K9.at 0 rfl; have k1 := K9.at 1 rfl; have k2 := K9.at 2 rfl; have k3 := K9.at 3 rfl; have k4 := K9.at 4 rfl; have k5 := K9.at 5 rfl; have k6 := K9.at 6 rfl; have k7 := K9.at 7 rfl; have k8 := K9.at 8 rfl
        refine bodyPost_ret (by simp [results, Tryd.results16, go_sem, k0, k1, k2, k3, k4, k5, k6, k7, k8]; rfl) rfl ?_
        have hTz := hT20.trans (hv.below hT20.size (fun i e => by omega))
        exact ⟨PT.mk ⟨#[]⟩ db eb ⟨#[]⟩ (VT.mk uk un us (.slice uka uks.length ukc) (.slice ula ul.length ulc) uks ul), by rw [hgo]; rfl, by rw [hgo]; exact hqh.out, R9.weaken (fun i _ hi => Nat.le_of_lt hi), hTz⟩
      have hgo : pgO L = none := pgO_noD hpq.out (fun e => hok ⟨hcxh.out.symm.trans e.1, by have h1 := htxh.out; rw [if_pos (hcxh.out.symm.trans e.1)] at h1; rw [← h1]; exact text_eq.2 (e.2.trans hLeh.out.symm)⟩)
      have hgoh := Lib.hid hgo; clear hgo
      by_cases hc : cx = 0
      rotate_left 1
      · have b1 : (cx != 0) = true := bne_iff_ne.2 hc
        have b2 : (cx == 0) = false := beq_eq_false_iff_ne.2 hc
        clear hok hc
        go_wp2_with (go_at_call 12; refine (hputh.out).mono ?_; rintro e w20 ⟨rfl, hB20⟩; have Z20 := Z16.pure hB20; have P20 := P16.pure hB20; have hT20 := hT16.trans (hB20.mono hT16.size); clear p0 p1 p2 p3 p4 p5 p6 p7 p8; have p0 := P20.at 0 rfl; have p1 := P20.at 1 rfl; have p2 := P20.at 2 rfl; have p3 := P20.at 3 rfl; have p4 := P20.at 4 rfl; have p5 := P20.at 5 rfl; have p6 := P20.at 6 rfl; have p7 := P20.at 7 rfl; have p8 := P20.at 8 rfl; have z0 := Z20.at 0 rfl; have z1 := Z20.at 1 rfl; have z2 := Z20.at 2 rfl; have z3 := Z20.at 3 rfl; have z4 := Z20.at 4 rfl; have z5 := Z20.at 5 rfl; have z6 := Z20.at 6 rfl; have z7 := Z20.at 7 rfl; have z8 := Z20.at 8 rfl; have y0 := Z20.frozen 0; have y1 := Z20.frozen 1; have y2 := Z20.frozen 2; have y3 := Z20.frozen 3; have y4 := Z20.frozen 4; have y5 := Z20.frozen 5; have y6 := Z20.frozen 6; have y7 := Z20.frozen 7; have y8 := Z20.frozen 8; have R20 := (R16).pure hB20)
        have hgo := hgoh.out
        have hv := Upd.at9 w20 w.heap.size (.string ⟨#[]⟩) (.bool false) (.bool false) (.string ⟨#[]⟩) (.int .u8 0) (.int .u64 0) (.string ⟨#[]⟩) (.slice none 0 0) (.slice none 0 0)
        have K9 := Z20.fresh9 (.string ⟨#[]⟩) (.bool false) (.bool false) (.string ⟨#[]⟩) (.int .u8 0) (.int .u64 0) (.string ⟨#[]⟩) (.slice none 0 0) (.slice none 0 0)
        unfold set9 at hv K9
        have k0 := K9.at 0 rfl; have k1 := K9.at 1 rfl; have k2 := K9.at 2 rfl; have k3 := K9.at 3 rfl; have k4 := K9.at 4 rfl; have k5 := K9.at 5 rfl; have k6 := K9.at 6 rfl; have k7 := K9.at 7 rfl; have k8 := K9.at 8 rfl
        refine bodyPost_ret (by simp [results, Tryd.results16, go_sem, k0, k1, k2, k3, k4, k5, k6, k7, k8]; rfl) rfl ?_
        have hTz := hT20.trans (hv.below hT20.size (fun i e => by omega))
        exact ⟨PT.mk ⟨#[]⟩ false false ⟨#[]⟩ (VT.mk 0 0 ⟨#[]⟩ (.slice none 0 0) (.slice none 0 0) [] []), by rw [hgo]; rfl, by rw [hgo]; exact pr_zt, zt_rd, hTz⟩
      subst hc
      have hne : tx ≠ s := fun e => hok ⟨rfl, e⟩
      have b1 : ¬ tx.toList = s.toList := ba_toList_ne hne
      have b2 : (tx.toList == s.toList) = false := beq_eq_false_iff_ne.2 b1
      have b3 : (tx != s) = true := ba_bne hne
      clear hok hne
      go_wp2_with (go_at_call 12; refine (hputh.out).mono ?_; rintro e w20 ⟨rfl, hB20⟩; have Z20 := Z16.pure hB20; have P20 := P16.pure hB20; have hT20 := hT16.trans (hB20.mono hT16.size); clear p0 p1 p2 p3 p4 p5 p6 p7 p8; have p0 := P20.at 0 rfl; have p1 := P20.at 1 rfl; have p2 := P20.at 2 rfl; have p3 := P20.at 3 rfl; have p4 := P20.at 4 rfl; have p5 := P20.at 5 rfl; have p6 := P20.at 6 rfl; have p7 := P20.at 7 rfl; have p8 := P20.at 8 rfl; have z0 := Z20.at 0 rfl; have z1 := Z20.at 1 rfl; have z2 := Z20.at 2 rfl; have z3 := Z20.at 3 rfl; have z4 := Z20.at 4 rfl; have z5 := Z20.at 5 rfl; have z6 := Z20.at 6 rfl; have z7 := Z20.at 7 rfl; have z8 := Z20.at 8 rfl; have y0 := Z20.frozen 0; have y1 := Z20.frozen 1; have y2 := Z20.frozen 2; have y3 := Z20.frozen 3; have y4 := Z20.frozen 4; have y5 := Z20.frozen 5; have y6 := Z20.frozen 6; have y7 := Z20.frozen 7; have y8 := Z20.frozen 8; have R20 := (R16).pure hB20)
      have hgo := hgoh.out
      have hv := Upd.at9 w20 w.heap.size (.string ⟨#[]⟩) (.bool false) (.bool false) (.string ⟨#[]⟩) (.int .u8 0) (.int .u64 0) (.string ⟨#[]⟩) (.slice none 0 0) (.slice none 0 0)
      have K9 := Z20.fresh9 (.string ⟨#[]⟩) (.bool false) (.bool false) (.string ⟨#[]⟩) (.int .u8 0) (.int .u64 0) (.string ⟨#[]⟩) (.slice none 0 0) (.slice none 0 0)
      unfold set9 at hv K9
      have k0 := K9.at 0 rfl; have k1 := K9.at 1 rfl; have k2 := K9.at 2 rfl; have k3 := K9.at 3 rfl; have k4 := K9.at 4 rfl; have k5 := K9.at 5 rfl; have k6 := K9.at 6 rfl; have k7 := K9.at 7 rfl; have k8 := K9.at 8 rfl
      refine bodyPost_ret (by simp [results, Tryd.results16, go_sem, k0, k1, k2, k3, k4, k5, k6, k7, k8]; rfl) rfl ?_
      have hTz := hT20.trans (hv.below hT20.size (fun i e => by omega))
      exact ⟨PT.mk ⟨#[]⟩ false false ⟨#[]⟩ (VT.mk 0 0 ⟨#[]⟩ (.slice none 0 0) (.slice none 0 0) [] []), by rw [hgo]; rfl, by rw [hgo]; exact pr_zt, zt_rd, hTz⟩
    have hMx := Lib.hid (show txR 1 255 rG = (mid, rM) from hMh.out)
    go_upto_region 14 with (go_at_call 43; refine (dtext_rs _ rb rG 1 255 hs10 (by omega) hLGh.out (by unfold Big; omega)).mono ?_; rintro e w11 ⟨he, hs11, hu11⟩; simp only [hMx.out] at he hs11; subst he; have Z11 := Z10.upd hu11 (fun e => by have h1 := hvb.out; have h2 := hvp.out; unfold Only at e; omega); have P11 := P10.upd hu11 (fun e => by have h1 := hvb.out; have h2 := hvp.out; unfold Only at e; omega); have hT11 := below_only hT10 hu11 (by have h1 := hvb.out; omega) hT10.size; have p3 := P11.at 3 rfl; have y3 := P11.frozen 3)
    have hu12 := Upd.set (S := fun k => k = w3.heap.size) (w := w11) (p := ⟨w3.heap.size, 3, none⟩) rfl (.string mid)
    have P12 : Blk _ w3.heap.size [.string ⟨#[]⟩, .bool db, .bool eb, .string mid, .int .u8 0, .int .u64 0, .string ⟨#[]⟩, .slice none 0 0, .slice none 0 0] := P11.set 3 (.string mid)
    have Z12 := Z11.upd hu12 (fun e => by have h1 := hvb.out; have h2 := hvp.out; omega); have hs12 := hs11.above hu12 (fun k e => by have h2 := hvp.out; omega); have hT12 := hT11.trans (hu12.below hT11.size (fun i e => by have h1 := hvb.out; have h2 := hvp.out; omega))
    generalize World.setCell w11 _ _ = W12 at *
    clear p3 y3 Z10 P10 hs10 hT10 Z11 P11 hs11 hT11 hu11
    cases jb
    · have hpb := Lib.hid (show dgB rK = (mid, V.zero) by rw [hpB.out, if_neg (fun e => by have h1 := hjh.out; rw [e] at h1; exact absurd h1 (by decide))])
      have hpg := Lib.hid (pgD_two hpA.out h0h.out hpb.out)
      go_upto_region 16 with fail
      obtain ⟨q, hq⟩ : ∃ q, (PT.mk ⟨#[]⟩ db eb mid (VT.mk 0 0 ⟨#[]⟩ (.slice none 0 0) (.slice none 0 0) [] [])).p = q := ⟨_, rfl⟩
      have hpq := Lib.hid (show pgD L = q by rw [← hq]; exact hpg.out)
      have hput := d9put_any (PT.mk ⟨#[]⟩ db eb mid (VT.mk 0 0 ⟨#[]⟩ (.slice none 0 0) (.slice none 0 0) [] [])) (fun i => w.heap.size < i) W12 zt_rd
      obtain ⟨cx, hcx⟩ : ∃ cx, q.chk = cx := ⟨_, rfl⟩
      obtain ⟨tx, htx⟩ : ∃ tx, (if cx = 0 then q.text else (⟨#[]⟩ : ByteArray)) = tx := ⟨_, rfl⟩
      rw [hq, hcx, htx, PT.arg_mk] at hput
      have hputh := Lib.hid hput; have hqh := Lib.hid hq; have hcxh := Lib.hid hcx; have htxh := Lib.hid htx
      clear hput hq hcx htx
      have p0 := P12.at 0 rfl; have p1 := P12.at 1 rfl; have p2 := P12.at 2 rfl; have p3 := P12.at 3 rfl; have p4 := P12.at 4 rfl; have p5 := P12.at 5 rfl; have p6 := P12.at 6 rfl; have p7 := P12.at 7 rfl; have p8 := P12.at 8 rfl
      by_cases hok : cx = 0 ∧ tx = s
      · obtain ⟨rfl, rfl⟩ := hok
        have hgo : pgO L = some q := pgO_okD hpq.out hcxh.out (by have h1 := htxh.out; rw [if_pos rfl] at h1; exact (text_eq.1 h1).trans hLeh.out)
        have hgoh := Lib.hid hgo; clear hgo
        go_wp2_with (go_at_call 12; refine (hputh.out).mono ?_; rintro e w20 ⟨rfl, hB20⟩; have Z20 := Z12.pure hB20; have P20 := P12.pure hB20; have hT20 := hT12.trans (hB20.mono hT12.size); clear p0 p1 p2 p3 p4 p5 p6 p7 p8; have p0 := P20.at 0 rfl; have p1 := P20.at 1 rfl; have p2 := P20.at 2 rfl; have p3 := P20.at 3 rfl; have p4 := P20.at 4 rfl; have p5 := P20.at 5 rfl; have p6 := P20.at 6 rfl; have p7 := P20.at 7 rfl; have p8 := P20.at 8 rfl; have z0 := Z20.at 0 rfl; have z1 := Z20.at 1 rfl; have z2 := Z20.at 2 rfl; have z3 := Z20.at 3 rfl; have z4 := Z20.at 4 rfl; have z5 := Z20.at 5 rfl; have z6 := Z20.at 6 rfl; have z7 := Z20.at 7 rfl; have z8 := Z20.at 8 rfl; have y0 := Z20.frozen 0; have y1 := Z20.frozen 1; have y2 := Z20.frozen 2; have y3 := Z20.frozen 3; have y4 := Z20.frozen 4; have y5 := Z20.frozen 5; have y6 := Z20.frozen 6; have y7 := Z20.frozen 7; have y8 := Z20.frozen 8)
        have hgo := hgoh.out
        have hv := Upd.at9 w20 w.heap.size (.string ⟨#[]⟩) (.bool db) (.bool eb) (.string mid) (.int .u8 0) (.int .u64 0) (.string ⟨#[]⟩) (.slice none 0 0) (.slice none 0 0)
        have K9 := Z20.fresh9 (.string ⟨#[]⟩) (.bool db) (.bool eb) (.string mid) (.int .u8 0) (.int .u64 0) (.string ⟨#[]⟩) (.slice none 0 0) (.slice none 0 0)
        unfold set9 at hv K9
        have k0 := K9.at 0 rfl; have k1 := K9.at 1 rfl; have k2 := K9.at 2 rfl; have k3 := K9.at 3 rfl; have k4 := K9.at 4 rfl; have k5 := K9.at 5 rfl; have k6 := K9.at 6 rfl; have k7 := K9.at 7 rfl; have k8 := K9.at 8 rfl
        refine bodyPost_ret (by simp [results, Tryd.results16, go_sem, k0, k1, k2, k3, k4, k5, k6, k7, k8]; rfl) rfl ?_
        have hTz := hT20.trans (hv.below hT20.size (fun i e => by omega))
        exact ⟨PT.mk ⟨#[]⟩ db eb mid (VT.mk 0 0 ⟨#[]⟩ (.slice none 0 0) (.slice none 0 0) [] []), by rw [hgo]; rfl, by rw [hgo]; exact hqh.out, zt_rd, hTz⟩
      have hgo : pgO L = none := pgO_noD hpq.out (fun e => hok ⟨hcxh.out.symm.trans e.1, by have h1 := htxh.out; rw [if_pos (hcxh.out.symm.trans e.1)] at h1; rw [← h1]; exact text_eq.2 (e.2.trans hLeh.out.symm)⟩)
      have hgoh := Lib.hid hgo; clear hgo
      by_cases hc : cx = 0
      rotate_left 1
      · have b1 : (cx != 0) = true := bne_iff_ne.2 hc
        have b2 : (cx == 0) = false := beq_eq_false_iff_ne.2 hc
        clear hok hc
        go_wp2_with (go_at_call 12; refine (hputh.out).mono ?_; rintro e w20 ⟨rfl, hB20⟩; have Z20 := Z12.pure hB20; have P20 := P12.pure hB20; have hT20 := hT12.trans (hB20.mono hT12.size); clear p0 p1 p2 p3 p4 p5 p6 p7 p8; have p0 := P20.at 0 rfl; have p1 := P20.at 1 rfl; have p2 := P20.at 2 rfl; have p3 := P20.at 3 rfl; have p4 := P20.at 4 rfl; have p5 := P20.at 5 rfl; have p6 := P20.at 6 rfl; have p7 := P20.at 7 rfl; have p8 := P20.at 8 rfl; have z0 := Z20.at 0 rfl; have z1 := Z20.at 1 rfl; have z2 := Z20.at 2 rfl; have z3 := Z20.at 3 rfl; have z4 := Z20.at 4 rfl; have z5 := Z20.at 5 rfl; have z6 := Z20.at 6 rfl; have z7 := Z20.at 7 rfl; have z8 := Z20.at 8 rfl; have y0 := Z20.frozen 0; have y1 := Z20.frozen 1; have y2 := Z20.frozen 2; have y3 := Z20.frozen 3; have y4 := Z20.frozen 4; have y5 := Z20.frozen 5; have y6 := Z20.frozen 6; have y7 := Z20.frozen 7; have y8 := Z20.frozen 8)
        have hgo := hgoh.out
        have hv := Upd.at9 w20 w.heap.size (.string ⟨#[]⟩) (.bool false) (.bool false) (.string ⟨#[]⟩) (.int .u8 0) (.int .u64 0) (.string ⟨#[]⟩) (.slice none 0 0) (.slice none 0 0)
        have K9 := Z20.fresh9 (.string ⟨#[]⟩) (.bool false) (.bool false) (.string ⟨#[]⟩) (.int .u8 0) (.int .u64 0) (.string ⟨#[]⟩) (.slice none 0 0) (.slice none 0 0)
        unfold set9 at hv K9
        have k0 := K9.at 0 rfl; have k1 := K9.at 1 rfl; have k2 := K9.at 2 rfl; have k3 := K9.at 3 rfl; have k4 := K9.at 4 rfl; have k5 := K9.at 5 rfl; have k6 := K9.at 6 rfl; have k7 := K9.at 7 rfl; have k8 := K9.at 8 rfl
        refine bodyPost_ret (by simp [results, Tryd.results16, go_sem, k0, k1, k2, k3, k4, k5, k6, k7, k8]; rfl) rfl ?_
        have hTz := hT20.trans (hv.below hT20.size (fun i e => by omega))
        exact ⟨PT.mk ⟨#[]⟩ false false ⟨#[]⟩ (VT.mk 0 0 ⟨#[]⟩ (.slice none 0 0) (.slice none 0 0) [] []), by rw [hgo]; rfl, by rw [hgo]; exact pr_zt, zt_rd, hTz⟩
      subst hc
      have hne : tx ≠ s := fun e => hok ⟨rfl, e⟩
      have b1 : ¬ tx.toList = s.toList := ba_toList_ne hne
      have b2 : (tx.toList == s.toList) = false := beq_eq_false_iff_ne.2 b1
      have b3 : (tx != s) = true := ba_bne hne
      clear hok hne
      go_wp2_with (go_at_call 12; refine (hputh.out).mono ?_; rintro e w20 ⟨rfl, hB20⟩; have Z20 := Z12.pure hB20; have P20 := P12.pure hB20; have hT20 := hT12.trans (hB20.mono hT12.size); clear p0 p1 p2 p3 p4 p5 p6 p7 p8; have p0 := P20.at 0 rfl; have p1 := P20.at 1 rfl; have p2 := P20.at 2 rfl; have p3 := P20.at 3 rfl; have p4 := P20.at 4 rfl; have p5 := P20.at 5 rfl; have p6 := P20.at 6 rfl; have p7 := P20.at 7 rfl; have p8 := P20.at 8 rfl; have z0 := Z20.at 0 rfl; have z1 := Z20.at 1 rfl; have z2 := Z20.at 2 rfl; have z3 := Z20.at 3 rfl; have z4 := Z20.at 4 rfl; have z5 := Z20.at 5 rfl; have z6 := Z20.at 6 rfl; have z7 := Z20.at 7 rfl; have z8 := Z20.at 8 rfl; have y0 := Z20.frozen 0; have y1 := Z20.frozen 1; have y2 := Z20.frozen 2; have y3 := Z20.frozen 3; have y4 := Z20.frozen 4; have y5 := Z20.frozen 5; have y6 := Z20.frozen 6; have y7 := Z20.frozen 7; have y8 := Z20.frozen 8)
      have hgo := hgoh.out
      have hv := Upd.at9 w20 w.heap.size (.string ⟨#[]⟩) (.bool false) (.bool false) (.string ⟨#[]⟩) (.int .u8 0) (.int .u64 0) (.string ⟨#[]⟩) (.slice none 0 0) (.slice none 0 0)
      have K9 := Z20.fresh9 (.string ⟨#[]⟩) (.bool false) (.bool false) (.string ⟨#[]⟩) (.int .u8 0) (.int .u64 0) (.string ⟨#[]⟩) (.slice none 0 0) (.slice none 0 0)
      unfold set9 at hv K9
      have k0 := K9.at 0 rfl; have k1 := K9.at 1 rfl; have k2 := K9.at 2 rfl; have k3 := K9.at 3 rfl; have k4 := K9.at 4 rfl; have k5 := K9.at 5 rfl; have k6 := K9.at 6 rfl; have k7 := K9.at 7 rfl; have k8 := K9.at 8 rfl
      refine bodyPost_ret (by simp [results, Tryd.results16, go_sem, k0, k1, k2, k3, k4, k5, k6, k7, k8]; rfl) rfl ?_
      have hTz := hT20.trans (hv.below hT20.size (fun i e => by omega))
      exact ⟨PT.mk ⟨#[]⟩ false false ⟨#[]⟩ (VT.mk 0 0 ⟨#[]⟩ (.slice none 0 0) (.slice none 0 0) [] []), by rw [hgo]; rfl, by rw [hgo]; exact pr_zt, zt_rd, hTz⟩
    have hpb := Lib.hid (show dgB rK = (mid, getV (getP rM.1)) by rw [hpB.out, if_pos (beq_iff_eq.1 hjh.out)])
    have hpg := Lib.hid (pgD_two hpA.out h0h.out hpb.out)
    obtain ⟨bv, bq1, bq2, bq3⟩ := hs12
    obtain ⟨ba, bc, rfl, -⟩ := bq2.len
    have bc0 := bq1.at 0 rfl
    have bS := bq2
    go_upto_region 16 with (go_at_call 44; refine (dget_one _ _ rM.1 bS hLMh.out).mono ?_; rintro e w15 ⟨uk, un, us, uka, ukc, ula, ulc, uks, ul, rfl, huv, huR, hB15⟩; have huvh := Lib.hid huv; clear huv; have Z15 := Z12.pure hB15; have P15 := P12.pure hB15; have hT15 := hT12.trans (hB15.mono hT12.size); have p4 := P15.at 4 rfl; have y4 := P15.frozen 4; have p5 := P15.at 5 rfl; have y5 := P15.frozen 5; have p6 := P15.at 6 rfl; have y6 := P15.frozen 6; have p7 := P15.at 7 rfl; have y7 := P15.frozen 7; have p8 := P15.at 8 rfl; have y8 := P15.frozen 8)
    have hu16 := Upd.app9 w15 w3.heap.size (.int .u8 uk) (.int .u64 un) (.string us) (.slice uka uks.length ukc) (.slice ula ul.length ulc)
    have P16 := P15.app9 (.int .u8 uk) (.int .u64 un) (.string us) (.slice uka uks.length ukc) (.slice ula ul.length ulc)
    have Z16 := Z15.upd hu16 (fun e => by have h1 := hvb.out; have h2 := hvp.out; omega)
    have hT16 := hT15.trans (hu16.below hT15.size (fun i e => by have h1 := hvb.out; have h2 := hvp.out; omega))
    have R16 := (huR.upd hu16 (fun b hb e => by have h1 := P12.lt; omega)).weaken (fun i _ hi => (show w.heap.size < i by have h1 := P12.lt; have h2 := hvp.out; have h3 := hvb.out; omega))
    unfold setApp at hu16 P16 Z16 hT16 R16
    generalize World.setCell (World.setCell (World.setCell (World.setCell (World.setCell w15 _ _) _ _) _ _) _ _) _ _ = W16 at *
    clear p4 p5 p6 p7 p8 y4 y5 y6 y7 y8
    obtain ⟨q, hq⟩ : ∃ q, (PT.mk ⟨#[]⟩ db eb mid (VT.mk uk un us (.slice uka uks.length ukc) (.slice ula ul.length ulc) uks ul)).p = q := ⟨_, rfl⟩
    have hpq := Lib.hid (show pgD L = q by rw [← hq]; exact (by rw [hpg.out]; exact congrArg (fun x => Pr.mk ⟨#[]⟩ db eb mid x) huvh.out.symm))
    have hput := d9put_any (PT.mk ⟨#[]⟩ db eb mid (VT.mk uk un us (.slice uka uks.length ukc) (.slice ula ul.length ulc) uks ul)) (fun i => w.heap.size < i) W16 R16
    obtain ⟨cx, hcx⟩ : ∃ cx, q.chk = cx := ⟨_, rfl⟩
    obtain ⟨tx, htx⟩ : ∃ tx, (if cx = 0 then q.text else (⟨#[]⟩ : ByteArray)) = tx := ⟨_, rfl⟩
    rw [hq, hcx, htx, PT.arg_mk] at hput
    have hputh := Lib.hid hput; have hqh := Lib.hid hq; have hcxh := Lib.hid hcx; have htxh := Lib.hid htx
    clear hput hq hcx htx
    have p0 := P16.at 0 rfl; have p1 := P16.at 1 rfl; have p2 := P16.at 2 rfl; have p3 := P16.at 3 rfl; have p4 := P16.at 4 rfl; have p5 := P16.at 5 rfl; have p6 := P16.at 6 rfl; have p7 := P16.at 7 rfl; have p8 := P16.at 8 rfl
    by_cases hok : cx = 0 ∧ tx = s
    · obtain ⟨rfl, rfl⟩ := hok
      have hgo : pgO L = some q := pgO_okD hpq.out hcxh.out (by have h1 := htxh.out; rw [if_pos rfl] at h1; exact (text_eq.1 h1).trans hLeh.out)
      have hgoh := Lib.hid hgo; clear hgo
      go_wp2_with (go_at_call 12; refine (hputh.out).mono ?_; rintro e w20 ⟨rfl, hB20⟩; have Z20 := Z16.pure hB20; have P20 := P16.pure hB20; have hT20 := hT16.trans (hB20.mono hT16.size); clear p0 p1 p2 p3 p4 p5 p6 p7 p8; have p0 := P20.at 0 rfl; have p1 := P20.at 1 rfl; have p2 := P20.at 2 rfl; have p3 := P20.at 3 rfl; have p4 := P20.at 4 rfl; have p5 := P20.at 5 rfl; have p6 := P20.at 6 rfl; have p7 := P20.at 7 rfl; have p8 := P20.at 8 rfl; have z0 := Z20.at 0 rfl; have z1 := Z20.at 1 rfl; have z2 := Z20.at 2 rfl; have z3 := Z20.at 3 rfl; have z4 := Z20.at 4 rfl; have z5 := Z20.at 5 rfl; have z6 := Z20.at 6 rfl; have z7 := Z20.at 7 rfl; have z8 := Z20.at 8 rfl; have y0 := Z20.frozen 0; have y1 := Z20.frozen 1; have y2 := Z20.frozen 2; have y3 := Z20.frozen 3; have y4 := Z20.frozen 4; have y5 := Z20.frozen 5; have y6 := Z20.frozen 6; have y7 := Z20.frozen 7; have y8 := Z20.frozen 8; have R20 := (R16).pure hB20)
      have hgo := hgoh.out
      have hv := Upd.at9 w20 w.heap.size (.string ⟨#[]⟩) (.bool db) (.bool eb) (.string mid) (.int .u8 uk) (.int .u64 un) (.string us) (.slice uka uks.length ukc) (.slice ula ul.length ulc)
      have K9 := Z20.fresh9 (.string ⟨#[]⟩) (.bool db) (.bool eb) (.string mid) (.int .u8 uk) (.int .u64 un) (.string us) (.slice uka uks.length ukc) (.slice ula ul.length ulc)
      have R9 := R20.upd hv (fun b hb e => by omega)
      unfold set9 at hv K9 R9
      have k0 := K9.at 0 rfl; have k1 := K9.at 1 rfl; have k2 := K9.at 2 rfl; have k3 := K9.at 3 rfl; have k4 := K9.at 4 rfl; have k5 := K9.at 5 rfl; have k6 := K9.at 6 rfl; have k7 := K9.at 7 rfl; have k8 := K9.at 8 rfl
      refine bodyPost_ret (by simp [results, Tryd.results16, go_sem, k0, k1, k2, k3, k4, k5, k6, k7, k8]; rfl) rfl ?_
      have hTz := hT20.trans (hv.below hT20.size (fun i e => by omega))
      exact ⟨PT.mk ⟨#[]⟩ db eb mid (VT.mk uk un us (.slice uka uks.length ukc) (.slice ula ul.length ulc) uks ul), by rw [hgo]; rfl, by rw [hgo]; exact hqh.out, R9.weaken (fun i _ hi => Nat.le_of_lt hi), hTz⟩
    have hgo : pgO L = none := pgO_noD hpq.out (fun e => hok ⟨hcxh.out.symm.trans e.1, by have h1 := htxh.out; rw [if_pos (hcxh.out.symm.trans e.1)] at h1; rw [← h1]; exact text_eq.2 (e.2.trans hLeh.out.symm)⟩)
    have hgoh := Lib.hid hgo; clear hgo
    by_cases hc : cx = 0
    rotate_left 1
    · have b1 : (cx != 0) = true := bne_iff_ne.2 hc
      have b2 : (cx == 0) = false := beq_eq_false_iff_ne.2 hc
      clear hok hc
      go_wp2_with (go_at_call 12; refine (hputh.out).mono ?_; rintro e w20 ⟨rfl, hB20⟩; have Z20 := Z16.pure hB20; have P20 := P16.pure hB20; have hT20 := hT16.trans (hB20.mono hT16.size); clear p0 p1 p2 p3 p4 p5 p6 p7 p8; have p0 := P20.at 0 rfl; have p1 := P20.at 1 rfl; have p2 := P20.at 2 rfl; have p3 := P20.at 3 rfl; have p4 := P20.at 4 rfl; have p5 := P20.at 5 rfl; have p6 := P20.at 6 rfl; have p7 := P20.at 7 rfl; have p8 := P20.at 8 rfl; have z0 := Z20.at 0 rfl; have z1 := Z20.at 1 rfl; have z2 := Z20.at 2 rfl; have z3 := Z20.at 3 rfl; have z4 := Z20.at 4 rfl; have z5 := Z20.at 5 rfl; have z6 := Z20.at 6 rfl; have z7 := Z20.at 7 rfl; have z8 := Z20.at 8 rfl; have y0 := Z20.frozen 0; have y1 := Z20.frozen 1; have y2 := Z20.frozen 2; have y3 := Z20.frozen 3; have y4 := Z20.frozen 4; have y5 := Z20.frozen 5; have y6 := Z20.frozen 6; have y7 := Z20.frozen 7; have y8 := Z20.frozen 8; have R20 := (R16).pure hB20)
      have hgo := hgoh.out
      have hv := Upd.at9 w20 w.heap.size (.string ⟨#[]⟩) (.bool false) (.bool false) (.string ⟨#[]⟩) (.int .u8 0) (.int .u64 0) (.string ⟨#[]⟩) (.slice none 0 0) (.slice none 0 0)
      have K9 := Z20.fresh9 (.string ⟨#[]⟩) (.bool false) (.bool false) (.string ⟨#[]⟩) (.int .u8 0) (.int .u64 0) (.string ⟨#[]⟩) (.slice none 0 0) (.slice none 0 0)
      unfold set9 at hv K9
      have k0 := K9.at 0 rfl; have k1 := K9.at 1 rfl; have k2 := K9.at 2 rfl; have k3 := K9.at 3 rfl; have k4 := K9.at 4 rfl; have k5 := K9.at 5 rfl; have k6 := K9.at 6 rfl; have k7 := K9.at 7 rfl; have k8 := K9.at 8 rfl
      refine bodyPost_ret (by simp [results, Tryd.results16, go_sem, k0, k1, k2, k3, k4, k5, k6, k7, k8]; rfl) rfl ?_
      have hTz := hT20.trans (hv.below hT20.size (fun i e => by omega))
      exact ⟨PT.mk ⟨#[]⟩ false false ⟨#[]⟩ (VT.mk 0 0 ⟨#[]⟩ (.slice none 0 0) (.slice none 0 0) [] []), by rw [hgo]; rfl, by rw [hgo]; exact pr_zt, zt_rd, hTz⟩
    subst hc
    have hne : tx ≠ s := fun e => hok ⟨rfl, e⟩
    have b1 : ¬ tx.toList = s.toList := ba_toList_ne hne
    have b2 : (tx.toList == s.toList) = false := beq_eq_false_iff_ne.2 b1
    have b3 : (tx != s) = true := ba_bne hne
    clear hok hne
    go_wp2_with (go_at_call 12; refine (hputh.out).mono ?_; rintro e w20 ⟨rfl, hB20⟩; have Z20 := Z16.pure hB20; have P20 := P16.pure hB20; have hT20 := hT16.trans (hB20.mono hT16.size); clear p0 p1 p2 p3 p4 p5 p6 p7 p8; have p0 := P20.at 0 rfl; have p1 := P20.at 1 rfl; have p2 := P20.at 2 rfl; have p3 := P20.at 3 rfl; have p4 := P20.at 4 rfl; have p5 := P20.at 5 rfl; have p6 := P20.at 6 rfl; have p7 := P20.at 7 rfl; have p8 := P20.at 8 rfl; have z0 := Z20.at 0 rfl; have z1 := Z20.at 1 rfl; have z2 := Z20.at 2 rfl; have z3 := Z20.at 3 rfl; have z4 := Z20.at 4 rfl; have z5 := Z20.at 5 rfl; have z6 := Z20.at 6 rfl; have z7 := Z20.at 7 rfl; have z8 := Z20.at 8 rfl; have y0 := Z20.frozen 0; have y1 := Z20.frozen 1; have y2 := Z20.frozen 2; have y3 := Z20.frozen 3; have y4 := Z20.frozen 4; have y5 := Z20.frozen 5; have y6 := Z20.frozen 6; have y7 := Z20.frozen 7; have y8 := Z20.frozen 8; have R20 := (R16).pure hB20)
    have hgo := hgoh.out
    have hv := Upd.at9 w20 w.heap.size (.string ⟨#[]⟩) (.bool false) (.bool false) (.string ⟨#[]⟩) (.int .u8 0) (.int .u64 0) (.string ⟨#[]⟩) (.slice none 0 0) (.slice none 0 0)
    have K9 := Z20.fresh9 (.string ⟨#[]⟩) (.bool false) (.bool false) (.string ⟨#[]⟩) (.int .u8 0) (.int .u64 0) (.string ⟨#[]⟩) (.slice none 0 0) (.slice none 0 0)
    unfold set9 at hv K9
    have k0 := K9.at 0 rfl; have k1 := K9.at 1 rfl; have k2 := K9.at 2 rfl; have k3 := K9.at 3 rfl; have k4 := K9.at 4 rfl; have k5 := K9.at 5 rfl; have k6 := K9.at 6 rfl; have k7 := K9.at 7 rfl; have k8 := K9.at 8 rfl
    refine bodyPost_ret (by simp [results, Tryd.results16, go_sem, k0, k1, k2, k3, k4, k5, k6, k7, k8]; rfl) rfl ?_
    have hTz := hT20.trans (hv.below hT20.size (fun i e => by omega))
    exact ⟨PT.mk ⟨#[]⟩ false false ⟨#[]⟩ (VT.mk 0 0 ⟨#[]⟩ (.slice none 0 0) (.slice none 0 0) [] []), by rw [hgo]; rfl, by rw [hgo]; exact pr_zt, zt_rd, hTz⟩
  have hKx := Lib.hid (show txR 1 255 rF = (key, rK) from hKh.out)
  go_upto_region 9 with (go_at_call 43; refine (dtext_rs _ rb rF 1 255 hs7 (by omega) hLFh.out (by unfold Big; omega)).mono ?_; rintro e w7 ⟨he, hs7a, hu7a⟩; simp only [hKx.out] at he hs7a; subst he; have Z7a := Z7.upd hu7a (fun e => by have h1 := hvb.out; have h2 := hvp.out; unfold Only at e; omega); have P7a := P7.upd hu7a (fun e => by have h1 := hvb.out; have h2 := hvp.out; unfold Only at e; omega); have hT7a := below_only hT7 hu7a (by have h1 := hvb.out; omega) hT7.size; have p0 := P7a.at 0 rfl; have y0 := P7a.frozen 0)
  have hu8 := Upd.set (S := fun k => k = w3.heap.size) (w := w7) (p := ⟨w3.heap.size, 0, none⟩) rfl (.string key)
  have P8 : Blk _ w3.heap.size [.string key, .bool db, .bool eb, .string ⟨#[]⟩, .int .u8 0, .int .u64 0, .string ⟨#[]⟩, .slice none 0 0, .slice none 0 0] := P7a.set 0 (.string key)
  have Z8 := Z7a.upd hu8 (fun e => by have h1 := hvb.out; have h2 := hvp.out; omega); have hs8 := hs7a.above hu8 (fun k e => by have h2 := hvp.out; omega); have hT8 := hT7a.trans (hu8.below hT7a.size (fun i e => by have h1 := hvb.out; have h2 := hvp.out; omega))
  generalize World.setCell w7 _ _ = W8 at *
  clear p0 y0 Z7 P7 hs7 hT7 Z7a P7a hs7a hT7a hu7a
  obtain ⟨la, lc, lq0, -⟩ := hs8.cells
  by_cases h0 : 0 < rK.1.length
  rotate_left 1
  · have b0 : decide ((0 : Int) < (rK.1.length : Int)) = false := decide_eq_false (by omega)
    have b9 : ¬ (0 : Int) < (rK.1.length : Int) := by omega
    have hpg := Lib.hid (pgD_one hpA.out h0)
    clear h0
    go_upto_region 16 with fail
    obtain ⟨q, hq⟩ : ∃ q, (PT.mk key db eb ⟨#[]⟩ (VT.mk 0 0 ⟨#[]⟩ (.slice none 0 0) (.slice none 0 0) [] [])).p = q := ⟨_, rfl⟩
    have hpq := Lib.hid (show pgD L = q by rw [← hq]; exact hpg.out)
    have hput := d9put_any (PT.mk key db eb ⟨#[]⟩ (VT.mk 0 0 ⟨#[]⟩ (.slice none 0 0) (.slice none 0 0) [] [])) (fun i => w.heap.size < i) W8 zt_rd
    obtain ⟨cx, hcx⟩ : ∃ cx, q.chk = cx := ⟨_, rfl⟩
    obtain ⟨tx, htx⟩ : ∃ tx, (if cx = 0 then q.text else (⟨#[]⟩ : ByteArray)) = tx := ⟨_, rfl⟩
    rw [hq, hcx, htx, PT.arg_mk] at hput
    have hputh := Lib.hid hput; have hqh := Lib.hid hq; have hcxh := Lib.hid hcx; have htxh := Lib.hid htx
    clear hput hq hcx htx
    have p0 := P8.at 0 rfl; have p1 := P8.at 1 rfl; have p2 := P8.at 2 rfl; have p3 := P8.at 3 rfl; have p4 := P8.at 4 rfl; have p5 := P8.at 5 rfl; have p6 := P8.at 6 rfl; have p7 := P8.at 7 rfl; have p8 := P8.at 8 rfl
    by_cases hok : cx = 0 ∧ tx = s
    · obtain ⟨rfl, rfl⟩ := hok
      have hgo : pgO L = some q := pgO_okD hpq.out hcxh.out (by have h1 := htxh.out; rw [if_pos rfl] at h1; exact (text_eq.1 h1).trans hLeh.out)
      have hgoh := Lib.hid hgo; clear hgo
      go_wp2_with (go_at_call 12; refine (hputh.out).mono ?_; rintro e w20 ⟨rfl, hB20⟩; have Z20 := Z8.pure hB20; have P20 := P8.pure hB20; have hT20 := hT8.trans (hB20.mono hT8.size); clear p0 p1 p2 p3 p4 p5 p6 p7 p8; have p0 := P20.at 0 rfl; have p1 := P20.at 1 rfl; have p2 := P20.at 2 rfl; have p3 := P20.at 3 rfl; have p4 := P20.at 4 rfl; have p5 := P20.at 5 rfl; have p6 := P20.at 6 rfl; have p7 := P20.at 7 rfl; have p8 := P20.at 8 rfl; have z0 := Z20.at 0 rfl; have z1 := Z20.at 1 rfl; have z2 := Z20.at 2 rfl; have z3 := Z20.at 3 rfl; have z4 := Z20.at 4 rfl; have z5 := Z20.at 5 rfl; have z6 := Z20.at 6 rfl; have z7 := Z20.at 7 rfl; have z8 := Z20.at 8 rfl; have y0 := Z20.frozen 0; have y1 := Z20.frozen 1; have y2 := Z20.frozen 2; have y3 := Z20.frozen 3; have y4 := Z20.frozen 4; have y5 := Z20.frozen 5; have y6 := Z20.frozen 6; have y7 := Z20.frozen 7; have y8 := Z20.frozen 8)
      have hgo := hgoh.out
      have hv := Upd.at9 w20 w.heap.size (.string key) (.bool db) (.bool eb) (.string ⟨#[]⟩) (.int .u8 0) (.int .u64 0) (.string ⟨#[]⟩) (.slice none 0 0) (.slice none 0 0)
      have K9 := Z20.fresh9 (.string key) (.bool db) (.bool eb) (.string ⟨#[]⟩) (.int .u8 0) (.int .u64 0) (.string ⟨#[]⟩) (.slice none 0 0) (.slice none 0 0)
      unfold set9 at hv K9
      have k0 := K9.at 0 rfl; have k1 := K9.at 1 rfl; have k2 := K9.at 2 rfl; have k3 := K9.at 3 rfl; have k4 := K9.at 4 rfl; have k5 := K9.at 5 rfl; have k6 := K9.at 6 rfl; have k7 := K9.at 7 rfl; have k8 := K9.at 8 rfl
      refine bodyPost_ret (by simp [results, Tryd.results16, go_sem, k0, k1, k2, k3, k4, k5, k6, k7, k8]; rfl) rfl ?_
      have hTz := hT20.trans (hv.below hT20.size (fun i e => by omega))
      exact ⟨PT.mk key db eb ⟨#[]⟩ (VT.mk 0 0 ⟨#[]⟩ (.slice none 0 0) (.slice none 0 0) [] []), by rw [hgo]; rfl, by rw [hgo]; exact hqh.out, zt_rd, hTz⟩
    have hgo : pgO L = none := pgO_noD hpq.out (fun e => hok ⟨hcxh.out.symm.trans e.1, by have h1 := htxh.out; rw [if_pos (hcxh.out.symm.trans e.1)] at h1; rw [← h1]; exact text_eq.2 (e.2.trans hLeh.out.symm)⟩)
    have hgoh := Lib.hid hgo; clear hgo
    by_cases hc : cx = 0
    rotate_left 1
    · have b1 : (cx != 0) = true := bne_iff_ne.2 hc
      have b2 : (cx == 0) = false := beq_eq_false_iff_ne.2 hc
      clear hok hc
      go_wp2_with (go_at_call 12; refine (hputh.out).mono ?_; rintro e w20 ⟨rfl, hB20⟩; have Z20 := Z8.pure hB20; have P20 := P8.pure hB20; have hT20 := hT8.trans (hB20.mono hT8.size); clear p0 p1 p2 p3 p4 p5 p6 p7 p8; have p0 := P20.at 0 rfl; have p1 := P20.at 1 rfl; have p2 := P20.at 2 rfl; have p3 := P20.at 3 rfl; have p4 := P20.at 4 rfl; have p5 := P20.at 5 rfl; have p6 := P20.at 6 rfl; have p7 := P20.at 7 rfl; have p8 := P20.at 8 rfl; have z0 := Z20.at 0 rfl; have z1 := Z20.at 1 rfl; have z2 := Z20.at 2 rfl; have z3 := Z20.at 3 rfl; have z4 := Z20.at 4 rfl; have z5 := Z20.at 5 rfl; have z6 := Z20.at 6 rfl; have z7 := Z20.at 7 rfl; have z8 := Z20.at 8 rfl; have y0 := Z20.frozen 0; have y1 := Z20.frozen 1; have y2 := Z20.frozen 2; have y3 := Z20.frozen 3; have y4 := Z20.frozen 4; have y5 := Z20.frozen 5; have y6 := Z20.frozen 6; have y7 := Z20.frozen 7; have y8 := Z20.frozen 8)
      have hgo := hgoh.out
      have hv := Upd.at9 w20 w.heap.size (.string ⟨#[]⟩) (.bool false) (.bool false) (.string ⟨#[]⟩) (.int .u8 0) (.int .u64 0) (.string ⟨#[]⟩) (.slice none 0 0) (.slice none 0 0)
      have K9 := Z20.fresh9 (.string ⟨#[]⟩) (.bool false) (.bool false) (.string ⟨#[]⟩) (.int .u8 0) (.int .u64 0) (.string ⟨#[]⟩) (.slice none 0 0) (.slice none 0 0)
      unfold set9 at hv K9
      have k0 := K9.at 0 rfl; have k1 := K9.at 1 rfl; have k2 := K9.at 2 rfl; have k3 := K9.at 3 rfl; have k4 := K9.at 4 rfl; have k5 := K9.at 5 rfl; have k6 := K9.at 6 rfl; have k7 := K9.at 7 rfl; have k8 := K9.at 8 rfl
      refine bodyPost_ret (by simp [results, Tryd.results16, go_sem, k0, k1, k2, k3, k4, k5, k6, k7, k8]; rfl) rfl ?_
      have hTz := hT20.trans (hv.below hT20.size (fun i e => by omega))
      exact ⟨PT.mk ⟨#[]⟩ false false ⟨#[]⟩ (VT.mk 0 0 ⟨#[]⟩ (.slice none 0 0) (.slice none 0 0) [] []), by rw [hgo]; rfl, by rw [hgo]; exact pr_zt, zt_rd, hTz⟩
    subst hc
    have hne : tx ≠ s := fun e => hok ⟨rfl, e⟩
    have b1 : ¬ tx.toList = s.toList := ba_toList_ne hne
    have b2 : (tx.toList == s.toList) = false := beq_eq_false_iff_ne.2 b1
    have b3 : (tx != s) = true := ba_bne hne
    clear hok hne
    go_wp2_with (go_at_call 12; refine (hputh.out).mono ?_; rintro e w20 ⟨rfl, hB20⟩; have Z20 := Z8.pure hB20; have P20 := P8.pure hB20; have hT20 := hT8.trans (hB20.mono hT8.size); clear p0 p1 p2 p3 p4 p5 p6 p7 p8; have p0 := P20.at 0 rfl; have p1 := P20.at 1 rfl; have p2 := P20.at 2 rfl; have p3 := P20.at 3 rfl; have p4 := P20.at 4 rfl; have p5 := P20.at 5 rfl; have p6 := P20.at 6 rfl; have p7 := P20.at 7 rfl; have p8 := P20.at 8 rfl; have z0 := Z20.at 0 rfl; have z1 := Z20.at 1 rfl; have z2 := Z20.at 2 rfl; have z3 := Z20.at 3 rfl; have z4 := Z20.at 4 rfl; have z5 := Z20.at 5 rfl; have z6 := Z20.at 6 rfl; have z7 := Z20.at 7 rfl; have z8 := Z20.at 8 rfl; have y0 := Z20.frozen 0; have y1 := Z20.frozen 1; have y2 := Z20.frozen 2; have y3 := Z20.frozen 3; have y4 := Z20.frozen 4; have y5 := Z20.frozen 5; have y6 := Z20.frozen 6; have y7 := Z20.frozen 7; have y8 := Z20.frozen 8)
    have hgo := hgoh.out
    have hv := Upd.at9 w20 w.heap.size (.string ⟨#[]⟩) (.bool false) (.bool false) (.string ⟨#[]⟩) (.int .u8 0) (.int .u64 0) (.string ⟨#[]⟩) (.slice none 0 0) (.slice none 0 0)
    have K9 := Z20.fresh9 (.string ⟨#[]⟩) (.bool false) (.bool false) (.string ⟨#[]⟩) (.int .u8 0) (.int .u64 0) (.string ⟨#[]⟩) (.slice none 0 0) (.slice none 0 0)
    unfold set9 at hv K9
    have k0 := K9.at 0 rfl; have k1 := K9.at 1 rfl; have k2 := K9.at 2 rfl; have k3 := K9.at 3 rfl; have k4 := K9.at 4 rfl; have k5 := K9.at 5 rfl; have k6 := K9.at 6 rfl; have k7 := K9.at 7 rfl; have k8 := K9.at 8 rfl
    refine bodyPost_ret (by simp [results, Tryd.results16, go_sem, k0, k1, k2, k3, k4, k5, k6, k7, k8]; rfl) rfl ?_
    have hTz := hT20.trans (hv.below hT20.size (fun i e => by omega))
    exact ⟨PT.mk ⟨#[]⟩ false false ⟨#[]⟩ (VT.mk 0 0 ⟨#[]⟩ (.slice none 0 0) (.slice none 0 0) [] []), by rw [hgo]; rfl, by rw [hgo]; exact pr_zt, zt_rd, hTz⟩
  have b0 : decide ((0 : Int) < (rK.1.length : Int)) = true := decide_eq_true (by omega)
  have b9 : (0 : Int) < (rK.1.length : Int) := by omega
  have h0h := Lib.hid h0
  clear h0
  obtain ⟨r2, hr2⟩ : ∃ r2, (tkR 7 rK).2 = r2 := ⟨_, rfl⟩
  have hL2 : Big r2.1.length := hLKh.out.mono (by rw [← hr2]; exact tkR_le 7 rK)
  obtain ⟨⟨g, rG⟩, hG⟩ : ∃ x, nmR 1 r2 = x := ⟨_, rfl⟩
  have hLG : Big rG.1.length := hL2.mono (by have := nmR_le 1 r2; rw [hG] at this; exact this)
  have hg0 := nmR_lt 1 r2
  rw [hG] at hg0
  have hg : g < 256 := hg0
  obtain ⟨ib, hib⟩ : ∃ d, (g % 2 == 1) = d := ⟨_, rfl⟩
  obtain ⟨jb, hjb⟩ : ∃ d, (g / 2 % 2 == 1) = d := ⟨_, rfl⟩
  have a1 := d_bit0 g; have a2 := d_bit g 2 hg 2 rfl
  rw [hib] at a1; rw [hjb] at a2
  obtain ⟨⟨mid, rM⟩, hM⟩ : ∃ x, tkTx ib rG = x := ⟨_, rfl⟩
  have hLM : Big rM.1.length := hLG.mono (by have := tkTx_le ib rG; rw [hM] at this; exact this)
  have hpB := Lib.hid (show dgB rK = (mid, if g / 2 % 2 = 1 then getV (getP rM.1) else V.zero) by unfold dgB; simp only [hr2, hG, hib, hM])
  have hr2h := Lib.hid hr2; have hGh := Lib.hid hG; have hMh := Lib.hid hM; have hjh := Lib.hid hjb
  have hL2h := Lib.hid hL2; have hLGh := Lib.hid hLG; have hLMh := Lib.hid hLM
  clear hr2 hG hM hL2 hLG hLM hg hg0 hib hjb
  go_upto_region 12 with (first | (go_at_call 41; refine (dtake_rs _ rb rK 7 hs8 hLKh.out).mono ?_; rintro e w9 ⟨v9, rfl, -, -, hs9, hu9⟩; rw [hr2h.out] at hs9; have Z9 := Z8.upd hu9 (fun e => by have h1 := hvb.out; have h2 := hvp.out; unfold Only at e; omega); have P9 := P8.upd hu9 (fun e => by have h1 := hvb.out; have h2 := hvp.out; unfold Only at e; omega); have hT9 := below_only hT8 hu9 (by have h1 := hvb.out; omega) hT8.size) | (go_at_call 42; refine (dnum_rs _ rb r2 1 hs9 (by unfold Wd; omega) hL2h.out).mono ?_; rintro e w10 ⟨he, hs10, hu10⟩; simp only [hGh.out] at he hs10; subst he; have Z10 := Z9.upd hu10 (fun e => by have h1 := hvb.out; have h2 := hvp.out; unfold Only at e; omega); have P10 := P9.upd hu10 (fun e => by have h1 := hvb.out; have h2 := hvp.out; unfold Only at e; omega); have hT10 := below_only hT9 hu10 (by have h1 := hvb.out; omega) hT9.size))
  clear Z9 P9 hs9 hT9 hu9 hu10
  cases ib
  · obtain ⟨rfl, rfl⟩ : mid = ⟨#[]⟩ ∧ rM = rG := by have h := hMh.out; unfold tkTx at h; exact ⟨(congrArg Prod.fst h).symm, (congrArg Prod.snd h).symm⟩
    go_upto_region 14 with fail
    cases jb
    · have hpb := Lib.hid (show dgB rK = (⟨#[]⟩, V.zero) by rw [hpB.out, if_neg (fun e => by have h1 := hjh.out; rw [e] at h1; exact absurd h1 (by decide))])
      have hpg := Lib.hid (pgD_two hpA.out h0h.out hpb.out)
      go_upto_region 16 with fail
      obtain ⟨q, hq⟩ : ∃ q, (PT.mk key db eb ⟨#[]⟩ (VT.mk 0 0 ⟨#[]⟩ (.slice none 0 0) (.slice none 0 0) [] [])).p = q := ⟨_, rfl⟩
      have hpq := Lib.hid (show pgD L = q by rw [← hq]; exact hpg.out)
      have hput := d9put_any (PT.mk key db eb ⟨#[]⟩ (VT.mk 0 0 ⟨#[]⟩ (.slice none 0 0) (.slice none 0 0) [] [])) (fun i => w.heap.size < i) w10 zt_rd
      obtain ⟨cx, hcx⟩ : ∃ cx, q.chk = cx := ⟨_, rfl⟩
      obtain ⟨tx, htx⟩ : ∃ tx, (if cx = 0 then q.text else (⟨#[]⟩ : ByteArray)) = tx := ⟨_, rfl⟩
      rw [hq, hcx, htx, PT.arg_mk] at hput
      have hputh := Lib.hid hput; have hqh := Lib.hid hq; have hcxh := Lib.hid hcx; have htxh := Lib.hid htx
      clear hput hq hcx htx
      have p0 := P10.at 0 rfl; have p1 := P10.at 1 rfl; have p2 := P10.at 2 rfl; have p3 := P10.at 3 rfl; have p4 := P10.at 4 rfl; have p5 := P10.at 5 rfl; have p6 := P10.at 6 rfl; have p7 := P10.at 7 rfl; have p8 := P10.at 8 rfl
      by_cases hok : cx = 0 ∧ tx = s
      · obtain ⟨rfl, rfl⟩ := hok
        have hgo : pgO L = some q := pgO_okD hpq.out hcxh.out (by have h1 := htxh.out; rw [if_pos rfl] at h1; exact (text_eq.1 h1).trans hLeh.out)
        have hgoh := Lib.hid hgo; clear hgo
        go_wp2_with (go_at_call 12; refine (hputh.out).mono ?_; rintro e w20 ⟨rfl, hB20⟩; have Z20 := Z10.pure hB20; have P20 := P10.pure hB20; have hT20 := hT10.trans (hB20.mono hT10.size); clear p0 p1 p2 p3 p4 p5 p6 p7 p8; have p0 := P20.at 0 rfl; have p1 := P20.at 1 rfl; have p2 := P20.at 2 rfl; have p3 := P20.at 3 rfl; have p4 := P20.at 4 rfl; have p5 := P20.at 5 rfl; have p6 := P20.at 6 rfl; have p7 := P20.at 7 rfl; have p8 := P20.at 8 rfl; have z0 := Z20.at 0 rfl; have z1 := Z20.at 1 rfl; have z2 := Z20.at 2 rfl; have z3 := Z20.at 3 rfl; have z4 := Z20.at 4 rfl; have z5 := Z20.at 5 rfl; have z6 := Z20.at 6 rfl; have z7 := Z20.at 7 rfl; have z8 := Z20.at 8 rfl; have y0 := Z20.frozen 0; have y1 := Z20.frozen 1; have y2 := Z20.frozen 2; have y3 := Z20.frozen 3; have y4 := Z20.frozen 4; have y5 := Z20.frozen 5; have y6 := Z20.frozen 6; have y7 := Z20.frozen 7; have y8 := Z20.frozen 8)
        have hgo := hgoh.out
        have hv := Upd.at9 w20 w.heap.size (.string key) (.bool db) (.bool eb) (.string ⟨#[]⟩) (.int .u8 0) (.int .u64 0) (.string ⟨#[]⟩) (.slice none 0 0) (.slice none 0 0)
        have K9 := Z20.fresh9 (.string key) (.bool db) (.bool eb) (.string ⟨#[]⟩) (.int .u8 0) (.int .u64 0) (.string ⟨#[]⟩) (.slice none 0 0) (.slice none 0 0)
        unfold set9 at hv K9
        have k0 := K9.at 0 rfl; have k1 := K9.at 1 rfl; have k2 := K9.at 2 rfl; have k3 := K9.at 3 rfl; have k4 := K9.at 4 rfl; have k5 := K9.at 5 rfl; have k6 := K9.at 6 rfl; have k7 := K9.at 7 rfl; have k8 := K9.at 8 rfl
        refine bodyPost_ret (by simp [results, Tryd.results16, go_sem, k0, k1, k2, k3, k4, k5, k6, k7, k8]; rfl) rfl ?_
        have hTz := hT20.trans (hv.below hT20.size (fun i e => by omega))
        exact ⟨PT.mk key db eb ⟨#[]⟩ (VT.mk 0 0 ⟨#[]⟩ (.slice none 0 0) (.slice none 0 0) [] []), by rw [hgo]; rfl, by rw [hgo]; exact hqh.out, zt_rd, hTz⟩
      have hgo : pgO L = none := pgO_noD hpq.out (fun e => hok ⟨hcxh.out.symm.trans e.1, by have h1 := htxh.out; rw [if_pos (hcxh.out.symm.trans e.1)] at h1; rw [← h1]; exact text_eq.2 (e.2.trans hLeh.out.symm)⟩)
      have hgoh := Lib.hid hgo; clear hgo
      by_cases hc : cx = 0
      rotate_left 1
      · have b1 : (cx != 0) = true := bne_iff_ne.2 hc
        have b2 : (cx == 0) = false := beq_eq_false_iff_ne.2 hc
        clear hok hc
        go_wp2_with (go_at_call 12; refine (hputh.out).mono ?_; rintro e w20 ⟨rfl, hB20⟩; have Z20 := Z10.pure hB20; have P20 := P10.pure hB20; have hT20 := hT10.trans (hB20.mono hT10.size); clear p0 p1 p2 p3 p4 p5 p6 p7 p8; have p0 := P20.at 0 rfl; have p1 := P20.at 1 rfl; have p2 := P20.at 2 rfl; have p3 := P20.at 3 rfl; have p4 := P20.at 4 rfl; have p5 := P20.at 5 rfl; have p6 := P20.at 6 rfl; have p7 := P20.at 7 rfl; have p8 := P20.at 8 rfl; have z0 := Z20.at 0 rfl; have z1 := Z20.at 1 rfl; have z2 := Z20.at 2 rfl; have z3 := Z20.at 3 rfl; have z4 := Z20.at 4 rfl; have z5 := Z20.at 5 rfl; have z6 := Z20.at 6 rfl; have z7 := Z20.at 7 rfl; have z8 := Z20.at 8 rfl; have y0 := Z20.frozen 0; have y1 := Z20.frozen 1; have y2 := Z20.frozen 2; have y3 := Z20.frozen 3; have y4 := Z20.frozen 4; have y5 := Z20.frozen 5; have y6 := Z20.frozen 6; have y7 := Z20.frozen 7; have y8 := Z20.frozen 8)
        have hgo := hgoh.out
        have hv := Upd.at9 w20 w.heap.size (.string ⟨#[]⟩) (.bool false) (.bool false) (.string ⟨#[]⟩) (.int .u8 0) (.int .u64 0) (.string ⟨#[]⟩) (.slice none 0 0) (.slice none 0 0)
        have K9 := Z20.fresh9 (.string ⟨#[]⟩) (.bool false) (.bool false) (.string ⟨#[]⟩) (.int .u8 0) (.int .u64 0) (.string ⟨#[]⟩) (.slice none 0 0) (.slice none 0 0)
        unfold set9 at hv K9
        have k0 := K9.at 0 rfl; have k1 := K9.at 1 rfl; have k2 := K9.at 2 rfl; have k3 := K9.at 3 rfl; have k4 := K9.at 4 rfl; have k5 := K9.at 5 rfl; have k6 := K9.at 6 rfl; have k7 := K9.at 7 rfl; have k8 := K9.at 8 rfl
        refine bodyPost_ret (by simp [results, Tryd.results16, go_sem, k0, k1, k2, k3, k4, k5, k6, k7, k8]; rfl) rfl ?_
        have hTz := hT20.trans (hv.below hT20.size (fun i e => by omega))
        exact ⟨PT.mk ⟨#[]⟩ false false ⟨#[]⟩ (VT.mk 0 0 ⟨#[]⟩ (.slice none 0 0) (.slice none 0 0) [] []), by rw [hgo]; rfl, by rw [hgo]; exact pr_zt, zt_rd, hTz⟩
      subst hc
      have hne : tx ≠ s := fun e => hok ⟨rfl, e⟩
      have b1 : ¬ tx.toList = s.toList := ba_toList_ne hne
      have b2 : (tx.toList == s.toList) = false := beq_eq_false_iff_ne.2 b1
      have b3 : (tx != s) = true := ba_bne hne
      clear hok hne
      go_wp2_with (go_at_call 12; refine (hputh.out).mono ?_; rintro e w20 ⟨rfl, hB20⟩; have Z20 := Z10.pure hB20; have P20 := P10.pure hB20; have hT20 := hT10.trans (hB20.mono hT10.size); clear p0 p1 p2 p3 p4 p5 p6 p7 p8; have p0 := P20.at 0 rfl; have p1 := P20.at 1 rfl; have p2 := P20.at 2 rfl; have p3 := P20.at 3 rfl; have p4 := P20.at 4 rfl; have p5 := P20.at 5 rfl; have p6 := P20.at 6 rfl; have p7 := P20.at 7 rfl; have p8 := P20.at 8 rfl; have z0 := Z20.at 0 rfl; have z1 := Z20.at 1 rfl; have z2 := Z20.at 2 rfl; have z3 := Z20.at 3 rfl; have z4 := Z20.at 4 rfl; have z5 := Z20.at 5 rfl; have z6 := Z20.at 6 rfl; have z7 := Z20.at 7 rfl; have z8 := Z20.at 8 rfl; have y0 := Z20.frozen 0; have y1 := Z20.frozen 1; have y2 := Z20.frozen 2; have y3 := Z20.frozen 3; have y4 := Z20.frozen 4; have y5 := Z20.frozen 5; have y6 := Z20.frozen 6; have y7 := Z20.frozen 7; have y8 := Z20.frozen 8)
      have hgo := hgoh.out
      have hv := Upd.at9 w20 w.heap.size (.string ⟨#[]⟩) (.bool false) (.bool false) (.string ⟨#[]⟩) (.int .u8 0) (.int .u64 0) (.string ⟨#[]⟩) (.slice none 0 0) (.slice none 0 0)
      have K9 := Z20.fresh9 (.string ⟨#[]⟩) (.bool false) (.bool false) (.string ⟨#[]⟩) (.int .u8 0) (.int .u64 0) (.string ⟨#[]⟩) (.slice none 0 0) (.slice none 0 0)
      unfold set9 at hv K9
      have k0 := K9.at 0 rfl; have k1 := K9.at 1 rfl; have k2 := K9.at 2 rfl; have k3 := K9.at 3 rfl; have k4 := K9.at 4 rfl; have k5 := K9.at 5 rfl; have k6 := K9.at 6 rfl; have k7 := K9.at 7 rfl; have k8 := K9.at 8 rfl
      refine bodyPost_ret (by simp [results, Tryd.results16, go_sem, k0, k1, k2, k3, k4, k5, k6, k7, k8]; rfl) rfl ?_
      have hTz := hT20.trans (hv.below hT20.size (fun i e => by omega))
      exact ⟨PT.mk ⟨#[]⟩ false false ⟨#[]⟩ (VT.mk 0 0 ⟨#[]⟩ (.slice none 0 0) (.slice none 0 0) [] []), by rw [hgo]; rfl, by rw [hgo]; exact pr_zt, zt_rd, hTz⟩
    have hpb := Lib.hid (show dgB rK = (⟨#[]⟩, getV (getP rM.1)) by rw [hpB.out, if_pos (beq_iff_eq.1 hjh.out)])
    have hpg := Lib.hid (pgD_two hpA.out h0h.out hpb.out)
    obtain ⟨bv, bq1, bq2, bq3⟩ := hs10
    obtain ⟨ba, bc, rfl, -⟩ := bq2.len
    have bc0 := bq1.at 0 rfl
    have bS := bq2
    go_upto_region 16 with (go_at_call 44; refine (dget_one _ _ rM.1 bS hLMh.out).mono ?_; rintro e w15 ⟨uk, un, us, uka, ukc, ula, ulc, uks, ul, rfl, huv, huR, hB15⟩; have huvh := Lib.hid huv; clear huv; have Z15 := Z10.pure hB15; have P15 := P10.pure hB15; have hT15 := hT10.trans (hB15.mono hT10.size); have p4 := P15.at 4 rfl; have y4 := P15.frozen 4; have p5 := P15.at 5 rfl; have y5 := P15.frozen 5; have p6 := P15.at 6 rfl; have y6 := P15.frozen 6; have p7 := P15.at 7 rfl; have y7 := P15.frozen 7; have p8 := P15.at 8 rfl; have y8 := P15.frozen 8)
    have hu16 := Upd.app9 w15 w3.heap.size (.int .u8 uk) (.int .u64 un) (.string us) (.slice uka uks.length ukc) (.slice ula ul.length ulc)
    have P16 := P15.app9 (.int .u8 uk) (.int .u64 un) (.string us) (.slice uka uks.length ukc) (.slice ula ul.length ulc)
    have Z16 := Z15.upd hu16 (fun e => by have h1 := hvb.out; have h2 := hvp.out; omega)
    have hT16 := hT15.trans (hu16.below hT15.size (fun i e => by have h1 := hvb.out; have h2 := hvp.out; omega))
    have R16 := (huR.upd hu16 (fun b hb e => by have h1 := P10.lt; omega)).weaken (fun i _ hi => (show w.heap.size < i by have h1 := P10.lt; have h2 := hvp.out; have h3 := hvb.out; omega))
    unfold setApp at hu16 P16 Z16 hT16 R16
    generalize World.setCell (World.setCell (World.setCell (World.setCell (World.setCell w15 _ _) _ _) _ _) _ _) _ _ = W16 at *
    clear p4 p5 p6 p7 p8 y4 y5 y6 y7 y8
    obtain ⟨q, hq⟩ : ∃ q, (PT.mk key db eb ⟨#[]⟩ (VT.mk uk un us (.slice uka uks.length ukc) (.slice ula ul.length ulc) uks ul)).p = q := ⟨_, rfl⟩
    have hpq := Lib.hid (show pgD L = q by rw [← hq]; exact (by rw [hpg.out]; exact congrArg (fun x => Pr.mk key db eb ⟨#[]⟩ x) huvh.out.symm))
    have hput := d9put_any (PT.mk key db eb ⟨#[]⟩ (VT.mk uk un us (.slice uka uks.length ukc) (.slice ula ul.length ulc) uks ul)) (fun i => w.heap.size < i) W16 R16
    obtain ⟨cx, hcx⟩ : ∃ cx, q.chk = cx := ⟨_, rfl⟩
    obtain ⟨tx, htx⟩ : ∃ tx, (if cx = 0 then q.text else (⟨#[]⟩ : ByteArray)) = tx := ⟨_, rfl⟩
    rw [hq, hcx, htx, PT.arg_mk] at hput
    have hputh := Lib.hid hput; have hqh := Lib.hid hq; have hcxh := Lib.hid hcx; have htxh := Lib.hid htx
    clear hput hq hcx htx
    have p0 := P16.at 0 rfl; have p1 := P16.at 1 rfl; have p2 := P16.at 2 rfl; have p3 := P16.at 3 rfl; have p4 := P16.at 4 rfl; have p5 := P16.at 5 rfl; have p6 := P16.at 6 rfl; have p7 := P16.at 7 rfl; have p8 := P16.at 8 rfl
    by_cases hok : cx = 0 ∧ tx = s
    · obtain ⟨rfl, rfl⟩ := hok
      have hgo : pgO L = some q := pgO_okD hpq.out hcxh.out (by have h1 := htxh.out; rw [if_pos rfl] at h1; exact (text_eq.1 h1).trans hLeh.out)
      have hgoh := Lib.hid hgo; clear hgo
      go_wp2_with (go_at_call 12; refine (hputh.out).mono ?_; rintro e w20 ⟨rfl, hB20⟩; have Z20 := Z16.pure hB20; have P20 := P16.pure hB20; have hT20 := hT16.trans (hB20.mono hT16.size); clear p0 p1 p2 p3 p4 p5 p6 p7 p8; have p0 := P20.at 0 rfl; have p1 := P20.at 1 rfl; have p2 := P20.at 2 rfl; have p3 := P20.at 3 rfl; have p4 := P20.at 4 rfl; have p5 := P20.at 5 rfl; have p6 := P20.at 6 rfl; have p7 := P20.at 7 rfl; have p8 := P20.at 8 rfl; have z0 := Z20.at 0 rfl; have z1 := Z20.at 1 rfl; have z2 := Z20.at 2 rfl; have z3 := Z20.at 3 rfl; have z4 := Z20.at 4 rfl; have z5 := Z20.at 5 rfl; have z6 := Z20.at 6 rfl; have z7 := Z20.at 7 rfl; have z8 := Z20.at 8 rfl; have y0 := Z20.frozen 0; have y1 := Z20.frozen 1; have y2 := Z20.frozen 2; have y3 := Z20.frozen 3; have y4 := Z20.frozen 4; have y5 := Z20.frozen 5; have y6 := Z20.frozen 6; have y7 := Z20.frozen 7; have y8 := Z20.frozen 8; have R20 := (R16).pure hB20)
      have hgo := hgoh.out
      have hv := Upd.at9 w20 w.heap.size (.string key) (.bool db) (.bool eb) (.string ⟨#[]⟩) (.int .u8 uk) (.int .u64 un) (.string us) (.slice uka uks.length ukc) (.slice ula ul.length ulc)
      have K9 := Z20.fresh9 (.string key) (.bool db) (.bool eb) (.string ⟨#[]⟩) (.int .u8 uk) (.int .u64 un) (.string us) (.slice uka uks.length ukc) (.slice ula ul.length ulc)
      have R9 := R20.upd hv (fun b hb e => by omega)
      unfold set9 at hv K9 R9
      have k0 := K9.at 0 rfl; have k1 := K9.at 1 rfl; have k2 := K9.at 2 rfl; have k3 := K9.at 3 rfl; have k4 := K9.at 4 rfl; have k5 := K9.at 5 rfl; have k6 := K9.at 6 rfl; have k7 := K9.at 7 rfl; have k8 := K9.at 8 rfl
      refine bodyPost_ret (by simp [results, Tryd.results16, go_sem, k0, k1, k2, k3, k4, k5, k6, k7, k8]; rfl) rfl ?_
      have hTz := hT20.trans (hv.below hT20.size (fun i e => by omega))
      exact ⟨PT.mk key db eb ⟨#[]⟩ (VT.mk uk un us (.slice uka uks.length ukc) (.slice ula ul.length ulc) uks ul), by rw [hgo]; rfl, by rw [hgo]; exact hqh.out, R9.weaken (fun i _ hi => Nat.le_of_lt hi), hTz⟩
    have hgo : pgO L = none := pgO_noD hpq.out (fun e => hok ⟨hcxh.out.symm.trans e.1, by have h1 := htxh.out; rw [if_pos (hcxh.out.symm.trans e.1)] at h1; rw [← h1]; exact text_eq.2 (e.2.trans hLeh.out.symm)⟩)
    have hgoh := Lib.hid hgo; clear hgo
    by_cases hc : cx = 0
    rotate_left 1
    · have b1 : (cx != 0) = true := bne_iff_ne.2 hc
      have b2 : (cx == 0) = false := beq_eq_false_iff_ne.2 hc
      clear hok hc
      go_wp2_with (go_at_call 12; refine (hputh.out).mono ?_; rintro e w20 ⟨rfl, hB20⟩; have Z20 := Z16.pure hB20; have P20 := P16.pure hB20; have hT20 := hT16.trans (hB20.mono hT16.size); clear p0 p1 p2 p3 p4 p5 p6 p7 p8; have p0 := P20.at 0 rfl; have p1 := P20.at 1 rfl; have p2 := P20.at 2 rfl; have p3 := P20.at 3 rfl; have p4 := P20.at 4 rfl; have p5 := P20.at 5 rfl; have p6 := P20.at 6 rfl; have p7 := P20.at 7 rfl; have p8 := P20.at 8 rfl; have z0 := Z20.at 0 rfl; have z1 := Z20.at 1 rfl; have z2 := Z20.at 2 rfl; have z3 := Z20.at 3 rfl; have z4 := Z20.at 4 rfl; have z5 := Z20.at 5 rfl; have z6 := Z20.at 6 rfl; have z7 := Z20.at 7 rfl; have z8 := Z20.at 8 rfl; have y0 := Z20.frozen 0; have y1 := Z20.frozen 1; have y2 := Z20.frozen 2; have y3 := Z20.frozen 3; have y4 := Z20.frozen 4; have y5 := Z20.frozen 5; have y6 := Z20.frozen 6; have y7 := Z20.frozen 7; have y8 := Z20.frozen 8; have R20 := (R16).pure hB20)
      have hgo := hgoh.out
      have hv := Upd.at9 w20 w.heap.size (.string ⟨#[]⟩) (.bool false) (.bool false) (.string ⟨#[]⟩) (.int .u8 0) (.int .u64 0) (.string ⟨#[]⟩) (.slice none 0 0) (.slice none 0 0)
      have K9 := Z20.fresh9 (.string ⟨#[]⟩) (.bool false) (.bool false) (.string ⟨#[]⟩) (.int .u8 0) (.int .u64 0) (.string ⟨#[]⟩) (.slice none 0 0) (.slice none 0 0)
      unfold set9 at hv K9
      have k0 := K9.at 0 rfl; have k1 := K9.at 1 rfl; have k2 := K9.at 2 rfl; have k3 := K9.at 3 rfl; have k4 := K9.at 4 rfl; have k5 := K9.at 5 rfl; have k6 := K9.at 6 rfl; have k7 := K9.at 7 rfl; have k8 := K9.at 8 rfl
      refine bodyPost_ret (by simp [results, Tryd.results16, go_sem, k0, k1, k2, k3, k4, k5, k6, k7, k8]; rfl) rfl ?_
      have hTz := hT20.trans (hv.below hT20.size (fun i e => by omega))
      exact ⟨PT.mk ⟨#[]⟩ false false ⟨#[]⟩ (VT.mk 0 0 ⟨#[]⟩ (.slice none 0 0) (.slice none 0 0) [] []), by rw [hgo]; rfl, by rw [hgo]; exact pr_zt, zt_rd, hTz⟩
    subst hc
    have hne : tx ≠ s := fun e => hok ⟨rfl, e⟩
    have b1 : ¬ tx.toList = s.toList := ba_toList_ne hne
    have b2 : (tx.toList == s.toList) = false := beq_eq_false_iff_ne.2 b1
    have b3 : (tx != s) = true := ba_bne hne
    clear hok hne
    go_wp2_with (go_at_call 12; refine (hputh.out).mono ?_; rintro e w20 ⟨rfl, hB20⟩; have Z20 := Z16.pure hB20; have P20 := P16.pure hB20; have hT20 := hT16.trans (hB20.mono hT16.size); clear p0 p1 p2 p3 p4 p5 p6 p7 p8; have p0 := P20.at 0 rfl; have p1 := P20.at 1 rfl; have p2 := P20.at 2 rfl; have p3 := P20.at 3 rfl; have p4 := P20.at 4 rfl; have p5 := P20.at 5 rfl; have p6 := P20.at 6 rfl; have p7 := P20.at 7 rfl; have p8 := P20.at 8 rfl; have z0 := Z20.at 0 rfl; have z1 := Z20.at 1 rfl; have z2 := Z20.at 2 rfl; have z3 := Z20.at 3 rfl; have z4 := Z20.at 4 rfl; have z5 := Z20.at 5 rfl; have z6 := Z20.at 6 rfl; have z7 := Z20.at 7 rfl; have z8 := Z20.at 8 rfl; have y0 := Z20.frozen 0; have y1 := Z20.frozen 1; have y2 := Z20.frozen 2; have y3 := Z20.frozen 3; have y4 := Z20.frozen 4; have y5 := Z20.frozen 5; have y6 := Z20.frozen 6; have y7 := Z20.frozen 7; have y8 := Z20.frozen 8; have R20 := (R16).pure hB20)
    have hgo := hgoh.out
    have hv := Upd.at9 w20 w.heap.size (.string ⟨#[]⟩) (.bool false) (.bool false) (.string ⟨#[]⟩) (.int .u8 0) (.int .u64 0) (.string ⟨#[]⟩) (.slice none 0 0) (.slice none 0 0)
    have K9 := Z20.fresh9 (.string ⟨#[]⟩) (.bool false) (.bool false) (.string ⟨#[]⟩) (.int .u8 0) (.int .u64 0) (.string ⟨#[]⟩) (.slice none 0 0) (.slice none 0 0)
    unfold set9 at hv K9
    have k0 := K9.at 0 rfl; have k1 := K9.at 1 rfl; have k2 := K9.at 2 rfl; have k3 := K9.at 3 rfl; have k4 := K9.at 4 rfl; have k5 := K9.at 5 rfl; have k6 := K9.at 6 rfl; have k7 := K9.at 7 rfl; have k8 := K9.at 8 rfl
    refine bodyPost_ret (by simp [results, Tryd.results16, go_sem, k0, k1, k2, k3, k4, k5, k6, k7, k8]; rfl) rfl ?_
    have hTz := hT20.trans (hv.below hT20.size (fun i e => by omega))
    exact ⟨PT.mk ⟨#[]⟩ false false ⟨#[]⟩ (VT.mk 0 0 ⟨#[]⟩ (.slice none 0 0) (.slice none 0 0) [] []), by rw [hgo]; rfl, by rw [hgo]; exact pr_zt, zt_rd, hTz⟩
  have hMx := Lib.hid (show txR 1 255 rG = (mid, rM) from hMh.out)
  go_upto_region 14 with (go_at_call 43; refine (dtext_rs _ rb rG 1 255 hs10 (by omega) hLGh.out (by unfold Big; omega)).mono ?_; rintro e w11 ⟨he, hs11, hu11⟩; simp only [hMx.out] at he hs11; subst he; have Z11 := Z10.upd hu11 (fun e => by have h1 := hvb.out; have h2 := hvp.out; unfold Only at e; omega); have P11 := P10.upd hu11 (fun e => by have h1 := hvb.out; have h2 := hvp.out; unfold Only at e; omega); have hT11 := below_only hT10 hu11 (by have h1 := hvb.out; omega) hT10.size; have p3 := P11.at 3 rfl; have y3 := P11.frozen 3)
  have hu12 := Upd.set (S := fun k => k = w3.heap.size) (w := w11) (p := ⟨w3.heap.size, 3, none⟩) rfl (.string mid)
  have P12 : Blk _ w3.heap.size [.string key, .bool db, .bool eb, .string mid, .int .u8 0, .int .u64 0, .string ⟨#[]⟩, .slice none 0 0, .slice none 0 0] := P11.set 3 (.string mid)
  have Z12 := Z11.upd hu12 (fun e => by have h1 := hvb.out; have h2 := hvp.out; omega); have hs12 := hs11.above hu12 (fun k e => by have h2 := hvp.out; omega); have hT12 := hT11.trans (hu12.below hT11.size (fun i e => by have h1 := hvb.out; have h2 := hvp.out; omega))
  generalize World.setCell w11 _ _ = W12 at *
  clear p3 y3 Z10 P10 hs10 hT10 Z11 P11 hs11 hT11 hu11
  cases jb
  · have hpb := Lib.hid (show dgB rK = (mid, V.zero) by rw [hpB.out, if_neg (fun e => by have h1 := hjh.out; rw [e] at h1; exact absurd h1 (by decide))])
    have hpg := Lib.hid (pgD_two hpA.out h0h.out hpb.out)
    go_upto_region 16 with fail
    obtain ⟨q, hq⟩ : ∃ q, (PT.mk key db eb mid (VT.mk 0 0 ⟨#[]⟩ (.slice none 0 0) (.slice none 0 0) [] [])).p = q := ⟨_, rfl⟩
    have hpq := Lib.hid (show pgD L = q by rw [← hq]; exact hpg.out)
    have hput := d9put_any (PT.mk key db eb mid (VT.mk 0 0 ⟨#[]⟩ (.slice none 0 0) (.slice none 0 0) [] [])) (fun i => w.heap.size < i) W12 zt_rd
    obtain ⟨cx, hcx⟩ : ∃ cx, q.chk = cx := ⟨_, rfl⟩
    obtain ⟨tx, htx⟩ : ∃ tx, (if cx = 0 then q.text else (⟨#[]⟩ : ByteArray)) = tx := ⟨_, rfl⟩
    rw [hq, hcx, htx, PT.arg_mk] at hput
    have hputh := Lib.hid hput; have hqh := Lib.hid hq; have hcxh := Lib.hid hcx; have htxh := Lib.hid htx
    clear hput hq hcx htx
    have p0 := P12.at 0 rfl; have p1 := P12.at 1 rfl; have p2 := P12.at 2 rfl; have p3 := P12.at 3 rfl; have p4 := P12.at 4 rfl; have p5 := P12.at 5 rfl; have p6 := P12.at 6 rfl; have p7 := P12.at 7 rfl; have p8 := P12.at 8 rfl
    by_cases hok : cx = 0 ∧ tx = s
    · obtain ⟨rfl, rfl⟩ := hok
      have hgo : pgO L = some q := pgO_okD hpq.out hcxh.out (by have h1 := htxh.out; rw [if_pos rfl] at h1; exact (text_eq.1 h1).trans hLeh.out)
      have hgoh := Lib.hid hgo; clear hgo
      go_wp2_with (go_at_call 12; refine (hputh.out).mono ?_; rintro e w20 ⟨rfl, hB20⟩; have Z20 := Z12.pure hB20; have P20 := P12.pure hB20; have hT20 := hT12.trans (hB20.mono hT12.size); clear p0 p1 p2 p3 p4 p5 p6 p7 p8; have p0 := P20.at 0 rfl; have p1 := P20.at 1 rfl; have p2 := P20.at 2 rfl; have p3 := P20.at 3 rfl; have p4 := P20.at 4 rfl; have p5 := P20.at 5 rfl; have p6 := P20.at 6 rfl; have p7 := P20.at 7 rfl; have p8 := P20.at 8 rfl; have z0 := Z20.at 0 rfl; have z1 := Z20.at 1 rfl; have z2 := Z20.at 2 rfl; have z3 := Z20.at 3 rfl; have z4 := Z20.at 4 rfl; have z5 := Z20.at 5 rfl; have z6 := Z20.at 6 rfl; have z7 := Z20.at 7 rfl; have z8 := Z20.at 8 rfl; have y0 := Z20.frozen 0; have y1 := Z20.frozen 1; have y2 := Z20.frozen 2; have y3 := Z20.frozen 3; have y4 := Z20.frozen 4; have y5 := Z20.frozen 5; have y6 := Z20.frozen 6; have y7 := Z20.frozen 7; have y8 := Z20.frozen 8)
      have hgo := hgoh.out
      have hv := Upd.at9 w20 w.heap.size (.string key) (.bool db) (.bool eb) (.string mid) (.int .u8 0) (.int .u64 0) (.string ⟨#[]⟩) (.slice none 0 0) (.slice none 0 0)
      have K9 := Z20.fresh9 (.string key) (.bool db) (.bool eb) (.string mid) (.int .u8 0) (.int .u64 0) (.string ⟨#[]⟩) (.slice none 0 0) (.slice none 0 0)
      unfold set9 at hv K9
      have k0 := K9.at 0 rfl; have k1 := K9.at 1 rfl; have k2 := K9.at 2 rfl; have k3 := K9.at 3 rfl; have k4 := K9.at 4 rfl; have k5 := K9.at 5 rfl; have k6 := K9.at 6 rfl; have k7 := K9.at 7 rfl; have k8 := K9.at 8 rfl
      refine bodyPost_ret (by simp [results, Tryd.results16, go_sem, k0, k1, k2, k3, k4, k5, k6, k7, k8]; rfl) rfl ?_
      have hTz := hT20.trans (hv.below hT20.size (fun i e => by omega))
      exact ⟨PT.mk key db eb mid (VT.mk 0 0 ⟨#[]⟩ (.slice none 0 0) (.slice none 0 0) [] []), by rw [hgo]; rfl, by rw [hgo]; exact hqh.out, zt_rd, hTz⟩
    have hgo : pgO L = none := pgO_noD hpq.out (fun e => hok ⟨hcxh.out.symm.trans e.1, by have h1 := htxh.out; rw [if_pos (hcxh.out.symm.trans e.1)] at h1; rw [← h1]; exact text_eq.2 (e.2.trans hLeh.out.symm)⟩)
    have hgoh := Lib.hid hgo; clear hgo
    by_cases hc : cx = 0
    rotate_left 1
    · have b1 : (cx != 0) = true := bne_iff_ne.2 hc
      have b2 : (cx == 0) = false := beq_eq_false_iff_ne.2 hc
      clear hok hc
      go_wp2_with (go_at_call 12; refine (hputh.out).mono ?_; rintro e w20 ⟨rfl, hB20⟩; have Z20 := Z12.pure hB20; have P20 := P12.pure hB20; have hT20 := hT12.trans (hB20.mono hT12.size); clear p0 p1 p2 p3 p4 p5 p6 p7 p8; have p0 := P20.at 0 rfl; have p1 := P20.at 1 rfl; have p2 := P20.at 2 rfl; have p3 := P20.at 3 rfl; have p4 := P20.at 4 rfl; have p5 := P20.at 5 rfl; have p6 := P20.at 6 rfl; have p7 := P20.at 7 rfl; have p8 := P20.at 8 rfl; have z0 := Z20.at 0 rfl; have z1 := Z20.at 1 rfl; have z2 := Z20.at 2 rfl; have z3 := Z20.at 3 rfl; have z4 := Z20.at 4 rfl; have z5 := Z20.at 5 rfl; have z6 := Z20.at 6 rfl; have z7 := Z20.at 7 rfl; have z8 := Z20.at 8 rfl; have y0 := Z20.frozen 0; have y1 := Z20.frozen 1; have y2 := Z20.frozen 2; have y3 := Z20.frozen 3; have y4 := Z20.frozen 4; have y5 := Z20.frozen 5; have y6 := Z20.frozen 6; have y7 := Z20.frozen 7; have y8 := Z20.frozen 8)
      have hgo := hgoh.out
      have hv := Upd.at9 w20 w.heap.size (.string ⟨#[]⟩) (.bool false) (.bool false) (.string ⟨#[]⟩) (.int .u8 0) (.int .u64 0) (.string ⟨#[]⟩) (.slice none 0 0) (.slice none 0 0)
      have K9 := Z20.fresh9 (.string ⟨#[]⟩) (.bool false) (.bool false) (.string ⟨#[]⟩) (.int .u8 0) (.int .u64 0) (.string ⟨#[]⟩) (.slice none 0 0) (.slice none 0 0)
      unfold set9 at hv K9
      have k0 := K9.at 0 rfl; have k1 := K9.at 1 rfl; have k2 := K9.at 2 rfl; have k3 := K9.at 3 rfl; have k4 := K9.at 4 rfl; have k5 := K9.at 5 rfl; have k6 := K9.at 6 rfl; have k7 := K9.at 7 rfl; have k8 := K9.at 8 rfl
      refine bodyPost_ret (by simp [results, Tryd.results16, go_sem, k0, k1, k2, k3, k4, k5, k6, k7, k8]; rfl) rfl ?_
      have hTz := hT20.trans (hv.below hT20.size (fun i e => by omega))
      exact ⟨PT.mk ⟨#[]⟩ false false ⟨#[]⟩ (VT.mk 0 0 ⟨#[]⟩ (.slice none 0 0) (.slice none 0 0) [] []), by rw [hgo]; rfl, by rw [hgo]; exact pr_zt, zt_rd, hTz⟩
    subst hc
    have hne : tx ≠ s := fun e => hok ⟨rfl, e⟩
    have b1 : ¬ tx.toList = s.toList := ba_toList_ne hne
    have b2 : (tx.toList == s.toList) = false := beq_eq_false_iff_ne.2 b1
    have b3 : (tx != s) = true := ba_bne hne
    clear hok hne
    go_wp2_with (go_at_call 12; refine (hputh.out).mono ?_; rintro e w20 ⟨rfl, hB20⟩; have Z20 := Z12.pure hB20; have P20 := P12.pure hB20; have hT20 := hT12.trans (hB20.mono hT12.size); clear p0 p1 p2 p3 p4 p5 p6 p7 p8; have p0 := P20.at 0 rfl; have p1 := P20.at 1 rfl; have p2 := P20.at 2 rfl; have p3 := P20.at 3 rfl; have p4 := P20.at 4 rfl; have p5 := P20.at 5 rfl; have p6 := P20.at 6 rfl; have p7 := P20.at 7 rfl; have p8 := P20.at 8 rfl; have z0 := Z20.at 0 rfl; have z1 := Z20.at 1 rfl; have z2 := Z20.at 2 rfl; have z3 := Z20.at 3 rfl; have z4 := Z20.at 4 rfl; have z5 := Z20.at 5 rfl; have z6 := Z20.at 6 rfl; have z7 := Z20.at 7 rfl; have z8 := Z20.at 8 rfl; have y0 := Z20.frozen 0; have y1 := Z20.frozen 1; have y2 := Z20.frozen 2; have y3 := Z20.frozen 3; have y4 := Z20.frozen 4; have y5 := Z20.frozen 5; have y6 := Z20.frozen 6; have y7 := Z20.frozen 7; have y8 := Z20.frozen 8)
    have hgo := hgoh.out
    have hv := Upd.at9 w20 w.heap.size (.string ⟨#[]⟩) (.bool false) (.bool false) (.string ⟨#[]⟩) (.int .u8 0) (.int .u64 0) (.string ⟨#[]⟩) (.slice none 0 0) (.slice none 0 0)
    have K9 := Z20.fresh9 (.string ⟨#[]⟩) (.bool false) (.bool false) (.string ⟨#[]⟩) (.int .u8 0) (.int .u64 0) (.string ⟨#[]⟩) (.slice none 0 0) (.slice none 0 0)
    unfold set9 at hv K9
    have k0 := K9.at 0 rfl; have k1 := K9.at 1 rfl; have k2 := K9.at 2 rfl; have k3 := K9.at 3 rfl; have k4 := K9.at 4 rfl; have k5 := K9.at 5 rfl; have k6 := K9.at 6 rfl; have k7 := K9.at 7 rfl; have k8 := K9.at 8 rfl
    refine bodyPost_ret (by simp [results, Tryd.results16, go_sem, k0, k1, k2, k3, k4, k5, k6, k7, k8]; rfl) rfl ?_
    have hTz := hT20.trans (hv.below hT20.size (fun i e => by omega))
    exact ⟨PT.mk ⟨#[]⟩ false false ⟨#[]⟩ (VT.mk 0 0 ⟨#[]⟩ (.slice none 0 0) (.slice none 0 0) [] []), by rw [hgo]; rfl, by rw [hgo]; exact pr_zt, zt_rd, hTz⟩
  have hpb := Lib.hid (show dgB rK = (mid, getV (getP rM.1)) by rw [hpB.out, if_pos (beq_iff_eq.1 hjh.out)])
  have hpg := Lib.hid (pgD_two hpA.out h0h.out hpb.out)
  obtain ⟨bv, bq1, bq2, bq3⟩ := hs12
  obtain ⟨ba, bc, rfl, -⟩ := bq2.len
  have bc0 := bq1.at 0 rfl
  have bS := bq2
  go_upto_region 16 with (go_at_call 44; refine (dget_one _ _ rM.1 bS hLMh.out).mono ?_; rintro e w15 ⟨uk, un, us, uka, ukc, ula, ulc, uks, ul, rfl, huv, huR, hB15⟩; have huvh := Lib.hid huv; clear huv; have Z15 := Z12.pure hB15; have P15 := P12.pure hB15; have hT15 := hT12.trans (hB15.mono hT12.size); have p4 := P15.at 4 rfl; have y4 := P15.frozen 4; have p5 := P15.at 5 rfl; have y5 := P15.frozen 5; have p6 := P15.at 6 rfl; have y6 := P15.frozen 6; have p7 := P15.at 7 rfl; have y7 := P15.frozen 7; have p8 := P15.at 8 rfl; have y8 := P15.frozen 8)
  have hu16 := Upd.app9 w15 w3.heap.size (.int .u8 uk) (.int .u64 un) (.string us) (.slice uka uks.length ukc) (.slice ula ul.length ulc)
  have P16 := P15.app9 (.int .u8 uk) (.int .u64 un) (.string us) (.slice uka uks.length ukc) (.slice ula ul.length ulc)
  have Z16 := Z15.upd hu16 (fun e => by have h1 := hvb.out; have h2 := hvp.out; omega)
  have hT16 := hT15.trans (hu16.below hT15.size (fun i e => by have h1 := hvb.out; have h2 := hvp.out; omega))
  have R16 := (huR.upd hu16 (fun b hb e => by have h1 := P12.lt; omega)).weaken (fun i _ hi => (show w.heap.size < i by have h1 := P12.lt; have h2 := hvp.out; have h3 := hvb.out; omega))
  unfold setApp at hu16 P16 Z16 hT16 R16
  generalize World.setCell (World.setCell (World.setCell (World.setCell (World.setCell w15 _ _) _ _) _ _) _ _) _ _ = W16 at *
  clear p4 p5 p6 p7 p8 y4 y5 y6 y7 y8
  obtain ⟨q, hq⟩ : ∃ q, (PT.mk key db eb mid (VT.mk uk un us (.slice uka uks.length ukc) (.slice ula ul.length ulc) uks ul)).p = q := ⟨_, rfl⟩
  have hpq := Lib.hid (show pgD L = q by rw [← hq]; exact (by rw [hpg.out]; exact congrArg (fun x => Pr.mk key db eb mid x) huvh.out.symm))
  have hput := d9put_any (PT.mk key db eb mid (VT.mk uk un us (.slice uka uks.length ukc) (.slice ula ul.length ulc) uks ul)) (fun i => w.heap.size < i) W16 R16
  obtain ⟨cx, hcx⟩ : ∃ cx, q.chk = cx := ⟨_, rfl⟩
  obtain ⟨tx, htx⟩ : ∃ tx, (if cx = 0 then q.text else (⟨#[]⟩ : ByteArray)) = tx := ⟨_, rfl⟩
  rw [hq, hcx, htx, PT.arg_mk] at hput
  have hputh := Lib.hid hput; have hqh := Lib.hid hq; have hcxh := Lib.hid hcx; have htxh := Lib.hid htx
  clear hput hq hcx htx
  have p0 := P16.at 0 rfl; have p1 := P16.at 1 rfl; have p2 := P16.at 2 rfl; have p3 := P16.at 3 rfl; have p4 := P16.at 4 rfl; have p5 := P16.at 5 rfl; have p6 := P16.at 6 rfl; have p7 := P16.at 7 rfl; have p8 := P16.at 8 rfl
  by_cases hok : cx = 0 ∧ tx = s
  · obtain ⟨rfl, rfl⟩ := hok
    have hgo : pgO L = some q := pgO_okD hpq.out hcxh.out (by have h1 := htxh.out; rw [if_pos rfl] at h1; exact (text_eq.1 h1).trans hLeh.out)
    have hgoh := Lib.hid hgo; clear hgo
    go_wp2_with (go_at_call 12; refine (hputh.out).mono ?_; rintro e w20 ⟨rfl, hB20⟩; have Z20 := Z16.pure hB20; have P20 := P16.pure hB20; have hT20 := hT16.trans (hB20.mono hT16.size); clear p0 p1 p2 p3 p4 p5 p6 p7 p8; have p0 := P20.at 0 rfl; have p1 := P20.at 1 rfl; have p2 := P20.at 2 rfl; have p3 := P20.at 3 rfl; have p4 := P20.at 4 rfl; have p5 := P20.at 5 rfl; have p6 := P20.at 6 rfl; have p7 := P20.at 7 rfl; have p8 := P20.at 8 rfl; have z0 := Z20.at 0 rfl; have z1 := Z20.at 1 rfl; have z2 := Z20.at 2 rfl; have z3 := Z20.at 3 rfl; have z4 := Z20.at 4 rfl; have z5 := Z20.at 5 rfl; have z6 := Z20.at 6 rfl; have z7 := Z20.at 7 rfl; have z8 := Z20.at 8 rfl; have y0 := Z20.frozen 0; have y1 := Z20.frozen 1; have y2 := Z20.frozen 2; have y3 := Z20.frozen 3; have y4 := Z20.frozen 4; have y5 := Z20.frozen 5; have y6 := Z20.frozen 6; have y7 := Z20.frozen 7; have y8 := Z20.frozen 8; have R20 := (R16).pure hB20)
    have hgo := hgoh.out
    have hv := Upd.at9 w20 w.heap.size (.string key) (.bool db) (.bool eb) (.string mid) (.int .u8 uk) (.int .u64 un) (.string us) (.slice uka uks.length ukc) (.slice ula ul.length ulc)
    have K9 := Z20.fresh9 (.string key) (.bool db) (.bool eb) (.string mid) (.int .u8 uk) (.int .u64 un) (.string us) (.slice uka uks.length ukc) (.slice ula ul.length ulc)
    have R9 := R20.upd hv (fun b hb e => by omega)
    unfold set9 at hv K9 R9
    have k0 := K9.at 0 rfl; have k1 := K9.at 1 rfl; have k2 := K9.at 2 rfl; have k3 := K9.at 3 rfl; have k4 := K9.at 4 rfl; have k5 := K9.at 5 rfl; have k6 := K9.at 6 rfl; have k7 := K9.at 7 rfl; have k8 := K9.at 8 rfl
    refine bodyPost_ret (by simp [results, Tryd.results16, go_sem, k0, k1, k2, k3, k4, k5, k6, k7, k8]; rfl) rfl ?_
    have hTz := hT20.trans (hv.below hT20.size (fun i e => by omega))
    exact ⟨PT.mk key db eb mid (VT.mk uk un us (.slice uka uks.length ukc) (.slice ula ul.length ulc) uks ul), by rw [hgo]; rfl, by rw [hgo]; exact hqh.out, R9.weaken (fun i _ hi => Nat.le_of_lt hi), hTz⟩
  have hgo : pgO L = none := pgO_noD hpq.out (fun e => hok ⟨hcxh.out.symm.trans e.1, by have h1 := htxh.out; rw [if_pos (hcxh.out.symm.trans e.1)] at h1; rw [← h1]; exact text_eq.2 (e.2.trans hLeh.out.symm)⟩)
  have hgoh := Lib.hid hgo; clear hgo
  by_cases hc : cx = 0
  rotate_left 1
  · have b1 : (cx != 0) = true := bne_iff_ne.2 hc
    have b2 : (cx == 0) = false := beq_eq_false_iff_ne.2 hc
    clear hok hc
    go_wp2_with (go_at_call 12; refine (hputh.out).mono ?_; rintro e w20 ⟨rfl, hB20⟩; have Z20 := Z16.pure hB20; have P20 := P16.pure hB20; have hT20 := hT16.trans (hB20.mono hT16.size); clear p0 p1 p2 p3 p4 p5 p6 p7 p8; have p0 := P20.at 0 rfl; have p1 := P20.at 1 rfl; have p2 := P20.at 2 rfl; have p3 := P20.at 3 rfl; have p4 := P20.at 4 rfl; have p5 := P20.at 5 rfl; have p6 := P20.at 6 rfl; have p7 := P20.at 7 rfl; have p8 := P20.at 8 rfl; have z0 := Z20.at 0 rfl; have z1 := Z20.at 1 rfl; have z2 := Z20.at 2 rfl; have z3 := Z20.at 3 rfl; have z4 := Z20.at 4 rfl; have z5 := Z20.at 5 rfl; have z6 := Z20.at 6 rfl; have z7 := Z20.at 7 rfl; have z8 := Z20.at 8 rfl; have y0 := Z20.frozen 0; have y1 := Z20.frozen 1; have y2 := Z20.frozen 2; have y3 := Z20.frozen 3; have y4 := Z20.frozen 4; have y5 := Z20.frozen 5; have y6 := Z20.frozen 6; have y7 := Z20.frozen 7; have y8 := Z20.frozen 8; have R20 := (R16).pure hB20)
    have hgo := hgoh.out
    have hv := Upd.at9 w20 w.heap.size (.string ⟨#[]⟩) (.bool false) (.bool false) (.string ⟨#[]⟩) (.int .u8 0) (.int .u64 0) (.string ⟨#[]⟩) (.slice none 0 0) (.slice none 0 0)
    have K9 := Z20.fresh9 (.string ⟨#[]⟩) (.bool false) (.bool false) (.string ⟨#[]⟩) (.int .u8 0) (.int .u64 0) (.string ⟨#[]⟩) (.slice none 0 0) (.slice none 0 0)
    unfold set9 at hv K9
    have k0 := K9.at 0 rfl; have k1 := K9.at 1 rfl; have k2 := K9.at 2 rfl; have k3 := K9.at 3 rfl; have k4 := K9.at 4 rfl; have k5 := K9.at 5 rfl; have k6 := K9.at 6 rfl; have k7 := K9.at 7 rfl; have k8 := K9.at 8 rfl
    refine bodyPost_ret (by simp [results, Tryd.results16, go_sem, k0, k1, k2, k3, k4, k5, k6, k7, k8]; rfl) rfl ?_
    have hTz := hT20.trans (hv.below hT20.size (fun i e => by omega))
    exact ⟨PT.mk ⟨#[]⟩ false false ⟨#[]⟩ (VT.mk 0 0 ⟨#[]⟩ (.slice none 0 0) (.slice none 0 0) [] []), by rw [hgo]; rfl, by rw [hgo]; exact pr_zt, zt_rd, hTz⟩
  subst hc
  have hne : tx ≠ s := fun e => hok ⟨rfl, e⟩
  have b1 : ¬ tx.toList = s.toList := ba_toList_ne hne
  have b2 : (tx.toList == s.toList) = false := beq_eq_false_iff_ne.2 b1
  have b3 : (tx != s) = true := ba_bne hne
  clear hok hne
  go_wp2_with (go_at_call 12; refine (hputh.out).mono ?_; rintro e w20 ⟨rfl, hB20⟩; have Z20 := Z16.pure hB20; have P20 := P16.pure hB20; have hT20 := hT16.trans (hB20.mono hT16.size); clear p0 p1 p2 p3 p4 p5 p6 p7 p8; have p0 := P20.at 0 rfl; have p1 := P20.at 1 rfl; have p2 := P20.at 2 rfl; have p3 := P20.at 3 rfl; have p4 := P20.at 4 rfl; have p5 := P20.at 5 rfl; have p6 := P20.at 6 rfl; have p7 := P20.at 7 rfl; have p8 := P20.at 8 rfl; have z0 := Z20.at 0 rfl; have z1 := Z20.at 1 rfl; have z2 := Z20.at 2 rfl; have z3 := Z20.at 3 rfl; have z4 := Z20.at 4 rfl; have z5 := Z20.at 5 rfl; have z6 := Z20.at 6 rfl; have z7 := Z20.at 7 rfl; have z8 := Z20.at 8 rfl; have y0 := Z20.frozen 0; have y1 := Z20.frozen 1; have y2 := Z20.frozen 2; have y3 := Z20.frozen 3; have y4 := Z20.frozen 4; have y5 := Z20.frozen 5; have y6 := Z20.frozen 6; have y7 := Z20.frozen 7; have y8 := Z20.frozen 8; have R20 := (R16).pure hB20)
  have hgo := hgoh.out
  have hv := Upd.at9 w20 w.heap.size (.string ⟨#[]⟩) (.bool false) (.bool false) (.string ⟨#[]⟩) (.int .u8 0) (.int .u64 0) (.string ⟨#[]⟩) (.slice none 0 0) (.slice none 0 0)
  have K9 := Z20.fresh9 (.string ⟨#[]⟩) (.bool false) (.bool false) (.string ⟨#[]⟩) (.int .u8 0) (.int .u64 0) (.string ⟨#[]⟩) (.slice none 0 0) (.slice none 0 0)
  unfold set9 at hv K9
  have k0 := K9.at 0 rfl; have k1 := K9.at 1 rfl; have k2 := K9.at 2 rfl; have k3 := K9.at 3 rfl; have k4 := K9.at 4 rfl; have k5 := K9.at 5 rfl; have k6 := K9.at 6 rfl; have k7 := K9.at 7 rfl; have k8 := K9.at 8 rfl
  refine bodyPost_ret (by simp [results, Tryd.results16, go_sem, k0, k1, k2, k3, k4, k5, k6, k7, k8]; rfl) rfl ?_
  have hTz := hT20.trans (hv.below hT20.size (fun i e => by omega))
  exact ⟨PT.mk ⟨#[]⟩ false false ⟨#[]⟩ (VT.mk 0 0 ⟨#[]⟩ (.slice none 0 0) (.slice none 0 0) [] []), by rw [hgo]; rfl, by rw [hgo]; exact pr_zt, zt_rd, hTz⟩
end Go.Proofs.YtogkbbnpkckfdaaDoor
