/- The statement BranchStartsSaid: whatever its arguments are, the law BranchStarts returns true, and leaves its arguments as they were. Conditions: none beyond the statement's own. (Texts joined; the heads of the others stand below.) -/
import Derived.Test.YtcelpincmpjhkaaHW
import Derived.Test.YtcelpincmpjhkaaBrDq
import Derived.Test.YtcelpincmpjhkaaHZ
import Derived.Test.YtcelpincmpjhkaaHB
import Derived.Test.YtcelpincmpjhkaaRows
import Derived.ProofKit
import Derived.OpenShut

/- The law BranchStarts of chapter 19. Conditions: rows and associations read; the fields are in their bounds. Written by gen_bstarts.py. -/
namespace Go.Proofs.Ytcelpincmpjhkaa
set_option linter.unusedSimpArgs false
set_option linter.unusedVariables false
open Go.RowKit

set_option maxRecDepth 100000 in
set_option maxHeartbeats 8000000 in
theorem branchStarts_any (w : World) (rv av : Value) (R : List Brn) (A : List Asc) (x : Xid) (se : Int) (f b : Bool) (hR : Slc brEnc 7 w rv R) (hA : Slc ascEnc 5 w av A) (hWf : ∀ b ∈ R, WfB b) :
    Calls Try.prog 3 #[.agg #[rv, av], .agg #[.int .u32 x.1, .string x.2.1, .string x.2.2], .agg #[.int .u64 se, .bool f, .bool b]] w fun e w' => e = .returned (.bool true) ∧ Below w.heap.size w w' := by
  obtain ⟨ra, rc, rfl, hm1⟩ := hR.len
  obtain ⟨aa, ac, rfl, hm2⟩ := hA.len
  unfold maxLen at hm1 hm2
  obtain ⟨xf, xg, xb⟩ := x
  simp only
  have htm : ∀ b ∈ R, 0 ≤ b.tm := fun b hb => (hWf b hb).1.1
  have hT0 : Below w.heap.size w (((w.alloc (.cells #[.slice ra R.length rc, .slice aa A.length ac] 25)).alloc (.cells #[.int .u32 xf, .string xg, .string xb] 28)).alloc (.cells #[.int .u64 se, .bool f, .bool b] 31)) := ((((Below.refl w.heap.size w).alloc (Nat.le_refl _) _).alloc (by simp) _).alloc (by simp; omega) _)
  have t0 : Blk (((w.alloc (.cells #[.slice ra R.length rc, .slice aa A.length ac] 25)).alloc (.cells #[.int .u32 xf, .string xg, .string xb] 28)).alloc (.cells #[.int .u64 se, .bool f, .bool b] 31)) (w.heap.size) [.slice ra R.length rc, .slice aa A.length ac] := (((Blk.newAt2 w [.slice ra R.length rc, .slice aa A.length ac] 25 (w.heap.size) (by simp)).alloc (.cells #[.int .u32 xf, .string xg, .string xb] 28)).alloc (.cells #[.int .u64 se, .bool f, .bool b] 31))
  have x0 : Blk (((w.alloc (.cells #[.slice ra R.length rc, .slice aa A.length ac] 25)).alloc (.cells #[.int .u32 xf, .string xg, .string xb] 28)).alloc (.cells #[.int .u64 se, .bool f, .bool b] 31)) (w.heap.size + 1) [.int .u32 xf, .string xg, .string xb] := ((Blk.newAt2 (w.alloc (.cells #[.slice ra R.length rc, .slice aa A.length ac] 25)) [.int .u32 xf, .string xg, .string xb] 28 (w.heap.size + 1) (by simp)).alloc (.cells #[.int .u64 se, .bool f, .bool b] 31))
  have y0 : Blk (((w.alloc (.cells #[.slice ra R.length rc, .slice aa A.length ac] 25)).alloc (.cells #[.int .u32 xf, .string xg, .string xb] 28)).alloc (.cells #[.int .u64 se, .bool f, .bool b] 31)) (w.heap.size + 1 + 1) [.int .u64 se, .bool f, .bool b] := (Blk.newAt2 ((w.alloc (.cells #[.slice ra R.length rc, .slice aa A.length ac] 25)).alloc (.cells #[.int .u32 xf, .string xg, .string xb] 28)) [.int .u64 se, .bool f, .bool b] 31 (w.heap.size + 1 + 1) (by simp))
  have ct0_0 := t0.at 0 rfl
  have ct1_0 := t0.at 1 rfl
  have cx0_0 := x0.at 0 rfl
  have cx1_0 := x0.at 1 rfl
  have cx2_0 := x0.at 2 rfl
  have cy0_0 := y0.at 0 rfl
  have cy1_0 := y0.at 1 rfl
  have cy2_0 := y0.at 2 rfl
  have HR0 := hR.pure hT0; have HA0 := hA.pure hT0
  obtain ⟨gb, hgb⟩ : ∃ gb, (decide (20 < R.length) || decide (20 < A.length)) = gb := ⟨_, rfl⟩
  have hgb2 := Lib.hid hgb
  cases gb
  rotate_left 1
  · have hdum := True.intro
    clear hgb
    go_enter Try.func3, Try.ntmps3
    go_wp2_with (first | (go_at_call 10; (with_reducible refine (great_any _ _ _ R A _ HR0 HA0 hgb2.out).mono ?_); rintro e w1 ⟨rfl, hB1⟩; have hT1 := hT0.trans (hB1.mono hT0.size); have t1 := t0.pure hB1; have x1 := x0.pure hB1; have y1 := y0.pure hB1; have HR1 := HR0.pure hB1; have HA1 := HA0.pure hB1; clear ct0_0 ct1_0 cx0_0 cx1_0 cx2_0 cy0_0 cy1_0 cy2_0; have ct0_1 := t1.at 0 rfl; have ct1_1 := t1.at 1 rfl; have cx0_1 := x1.at 0 rfl; have cx1_1 := x1.at 1 rfl; have cx2_1 := x1.at 2 rfl; have cy0_1 := y1.at 0 rfl; have cy1_1 := y1.at 1 rfl; have cy2_1 := y1.at 2 rfl) | (go_at_call 11; (with_reducible refine (bhead_any _).mono ?_); rintro e w2 ⟨rfl, hB2⟩; have hT2 := hT1.trans (hB2.mono hT1.size)))
    go_ret
    exact ⟨rfl, hT2⟩
  have hLR : R.length ≤ 1000000 := by simp only [Bool.or_eq_false_iff, decide_eq_false_iff_not] at hgb; omega
  have hLA : A.length ≤ 1000000 := by simp only [Bool.or_eq_false_iff, decide_eq_false_iff_not] at hgb; omega
  have hL20 : R.length ≤ 20 ∧ A.length ≤ 20 := by simp only [Bool.or_eq_false_iff, decide_eq_false_iff_not] at hgb; omega
  clear hgb
  obtain ⟨D1, hD1⟩ : ∃ D, overB (mayB R A (okS se f b) (xf, xg, xb)) (startD R A se (xf, xg, xb) f b) = D := ⟨_, rfl⟩
  obtain ⟨R1, A1, a1, e1⟩ := D1
  have hl1 : R1.length ≤ 1000000 ∧ A1.length ≤ 1000000 := by have h : Len R A (R1, A1, a1, e1) := hD1 ▸ len_over (len_start R A se (xf, xg, xb) f b); exact ⟨Nat.le_trans h.1 (by omega), Nat.le_trans h.2 (by omega)⟩
  have hp1 := Lib.hid (fun (u : World) (r v : Value) (h1 : Slc brEnc 7 u r R) (h2 : Slc ascEnc 5 u v A) => show Calls Try.prog 13 #[.agg #[r, v], .int .u64 se, .agg #[.int .u32 xf, .string xg, .string xb], .bool f, .bool b] u (TabPost u (R1, A1, a1, e1)) from hD1 ▸ start_fn u r v R A se (xf, xg, xb) f b h1 h2 hLR hLA)
  have hq1 := Lib.hid (fun (u : World) (r v : Value) (h1 : Slc brEnc 7 u r R) (h2 : Slc ascEnc 5 u v A) => show Calls Try.prog 14 #[.agg #[r, v], .int .u64 se, .agg #[.int .u32 xf, .string xg, .string xb], .bool f, .bool b] u (TabPost u (R1, A1, a1, e1)) from hD1 ▸ dstart_any u r v R A (xf, xg, xb) se f b h1 h2 hLR hLA htm)
  clear hD1
  obtain ⟨D2, hD2⟩ : ∃ D, overB (mayB R A (okS se f b) (xf, xg, xb)) (endD R A se (xf, xg, xb) f b) = D := ⟨_, rfl⟩
  obtain ⟨R2, A2, a2, e2⟩ := D2
  have hl2 : R2.length ≤ 1000000 ∧ A2.length ≤ 1000000 := by have h : Len R A (R2, A2, a2, e2) := hD2 ▸ len_over (len_end R A se (xf, xg, xb) f b); exact ⟨Nat.le_trans h.1 (by omega), Nat.le_trans h.2 (by omega)⟩
  have hp2 := Lib.hid (fun (u : World) (r v : Value) (h1 : Slc brEnc 7 u r R) (h2 : Slc ascEnc 5 u v A) => show Calls Try.prog 16 #[.agg #[r, v], .int .u64 se, .agg #[.int .u32 xf, .string xg, .string xb], .bool f, .bool b] u (TabPost u (R2, A2, a2, e2)) from hD2 ▸ end_fn u r v R A se (xf, xg, xb) f b h1 h2 hLR hLA)
  have hq2 := Lib.hid (fun (u : World) (r v : Value) (h1 : Slc brEnc 7 u r R) (h2 : Slc ascEnc 5 u v A) => show Calls Try.prog 17 #[.agg #[r, v], .int .u64 se, .agg #[.int .u32 xf, .string xg, .string xb], .bool f, .bool b] u (TabPost u (R2, A2, a2, e2)) from hD2 ▸ dend_any u r v R A (xf, xg, xb) se f b h1 h2 hLR hLA htm)
  clear hD2
  clear htm hWf hL20
  go_enter Try.func3, Try.ntmps3
  go_wp2_with (first | (go_at_call 10; (with_reducible refine (great_any _ _ _ R A _ HR0 HA0 hgb2.out).mono ?_); rintro e w1 ⟨rfl, hB1⟩; have hT1 := hT0.trans (hB1.mono hT0.size); have t1 := t0.pure hB1; have x1 := x0.pure hB1; have y1 := y0.pure hB1; have HR1 := HR0.pure hB1; have HA1 := HA0.pure hB1; clear ct0_0 ct1_0 cx0_0 cx1_0 cx2_0 cy0_0 cy1_0 cy2_0; have ct0_1 := t1.at 0 rfl; have ct1_1 := t1.at 1 rfl; have cx0_1 := x1.at 0 rfl; have cx1_1 := x1.at 1 rfl; have cx2_1 := x1.at 2 rfl; have cy0_1 := y1.at 0 rfl; have cy1_1 := y1.at 1 rfl; have cy2_1 := y1.at 2 rfl) | (go_at_call 12; (with_reducible refine (dcopy_any _ _ _ R A HR1 HA1 hLR hLA).mono ?_); rintro e w2 ⟨ro, ao, rfl, hOR2, hOA2, hB2⟩; obtain ⟨ga, gc, rfl⟩ := own_len hOR2; obtain ⟨ha, hc, rfl⟩ := own_len hOA2; have hNo := (Below.refl w2.heap.size w2).alloc (Nat.le_refl _) (.cells #[.slice ga R.length gc, .slice ha A.length hc] 25); have hTo := (hT1.trans (hB2.mono hT1.size)).trans (hNo.mono (hT1.trans (hB2.mono hT1.size)).size); have to := (t1.pure hB2).pure hNo; have xo := (x1.pure hB2).pure hNo; have yo := (y1.pure hB2).pure hNo; have ko := Blk.new w2 [.slice ga R.length gc, .slice ha A.length hc] 25; have ORo := (hOR2.slc brEnc_len).pure hNo; have OAo := (hOA2.slc ascEnc_len).pure hNo; have hZo := Below.refl (w2.alloc (.cells #[.slice ga R.length gc, .slice ha A.length hc] 25)).heap.size (w2.alloc (.cells #[.slice ga R.length gc, .slice ha A.length hc] 25)); have HRo := hR.pure hTo; have HAo := hA.pure hTo; clear ct0_1 ct1_1 cx0_1 cx1_1 cx2_1 cy0_1 cy1_1 cy2_1; have ct0_o := to.at 0 rfl; have ct1_o := to.at 1 rfl; have cx0_o := xo.at 0 rfl; have cx1_o := xo.at 1 rfl; have cx2_o := xo.at 2 rfl; have cy0_o := yo.at 0 rfl; have cy1_o := yo.at 1 rfl; have cy2_o := yo.at 2 rfl; have ck0_o := ko.at 0 rfl; have ck1_o := ko.at 1 rfl) | (go_at_call 13; (with_reducible refine (hp1.out _ _ _ ORo OAo).mono ?_); rintro e w3 ⟨r3, v3, rfl, hPr3, hPa3, hB3⟩; obtain ⟨pa1, pc1, rfl⟩ : ∃ a c, r3 = .slice a R1.length c := own_len hPr3; obtain ⟨sa1, sc1, rfl⟩ : ∃ a c, v3 = .slice a A1.length c := own_len hPa3; have PR3 := hPr3; have PA3 := hPa3; have hZ3 := hZo.trans (hB3.mono hZo.size); have hT3 := hTo.trans (hZ3.mono hTo.size); have t3 := to.pure hZ3; have x3 := xo.pure hZ3; have y3 := yo.pure hZ3; have k3 := ko.pure hZ3; have HR3 := hR.pure hT3; have HA3 := hA.pure hT3; have OR3 := ORo.pure hZ3; have OA3 := OAo.pure hZ3; have hN3b := (Below.refl w3.heap.size w3).alloc (Nat.le_refl _) (.cells #[.slice pa1 R1.length pc1, .slice sa1 A1.length sc1] 25); have hZ3b := hZ3.trans (hN3b.mono hZ3.size); have hT3b := hTo.trans (hZ3b.mono hTo.size); have t3b := to.pure hZ3b; have x3b := xo.pure hZ3b; have y3b := yo.pure hZ3b; have k3b := ko.pure hZ3b; have HR3b := hR.pure hT3b; have HA3b := hA.pure hT3b; have OR3b := ORo.pure hZ3b; have OA3b := OAo.pure hZ3b; have PR3b := PR3.pure hN3b; have PA3b := PA3.pure hN3b; have a3b := Blk.new w3 [.slice pa1 R1.length pc1, .slice sa1 A1.length sc1] 25; clear ct0_o ct1_o cx0_o cx1_o cx2_o cy0_o cy1_o cy2_o ck0_o ck1_o; have ct0_3b := t3b.at 0 rfl; have ct1_3b := t3b.at 1 rfl; have cx0_3b := x3b.at 0 rfl; have cx1_3b := x3b.at 1 rfl; have cx2_3b := x3b.at 2 rfl; have cy0_3b := y3b.at 0 rfl; have cy1_3b := y3b.at 1 rfl; have cy2_3b := y3b.at 2 rfl; have ck0_3b := k3b.at 0 rfl; have ck1_3b := k3b.at 1 rfl; have ca0_3b := a3b.at 0 rfl; have ca1_3b := a3b.at 1 rfl; have za0_3b := a3b.frozen 0; have za1_3b := a3b.frozen 1; have hab := hZ3.size) | (go_at_call 14; (with_reducible refine (hq1.out _ _ _ HR3b HA3b).mono ?_); rintro e w4 ⟨r4, v4, rfl, hQr4, hQa4, hB4⟩; obtain ⟨qa1, qc1, rfl⟩ : ∃ a c, r4 = .slice a R1.length c := own_len hQr4; obtain ⟨ta1, tc1, rfl⟩ : ∃ a c, v4 = .slice a A1.length c := own_len hQa4; have QR4 := hQr4; have QA4 := hQa4; have hZ4 := hZ3b.trans (hB4.mono hZ3b.size); have hT4 := hTo.trans (hZ4.mono hTo.size); have t4 := to.pure hZ4; have x4 := xo.pure hZ4; have y4 := yo.pure hZ4; have k4 := ko.pure hZ4; have HR4 := hR.pure hT4; have HA4 := hA.pure hT4; have OR4 := ORo.pure hZ4; have OA4 := OAo.pure hZ4; have a4 := a3b.pure hB4; have PR4 := PR3b.pure hB4; have PA4 := PA3b.pure hB4; have hac : w3.heap.size + 1 ≤ w4.heap.size := (by have h := hB4.size; simpa using h); have hN4b := (Below.refl w4.heap.size w4).alloc (Nat.le_refl _) (.cells #[.slice qa1 R1.length qc1, .slice ta1 A1.length tc1] 25); have hZ4b := hZ4.trans (hN4b.mono hZ4.size); have hT4b := hTo.trans (hZ4b.mono hTo.size); have t4b := to.pure hZ4b; have x4b := xo.pure hZ4b; have y4b := yo.pure hZ4b; have k4b := ko.pure hZ4b; have HR4b := hR.pure hT4b; have HA4b := hA.pure hT4b; have OR4b := ORo.pure hZ4b; have OA4b := OAo.pure hZ4b; have a4b := a4.pure hN4b; have PR4b := PR4.pure hN4b; have PA4b := PA4.pure hN4b; have QR4b := QR4.pure hN4b; have QA4b := QA4.pure hN4b; have c4b := Blk.new w4 [.slice qa1 R1.length qc1, .slice ta1 A1.length tc1] 25; clear ct0_3b ct1_3b cx0_3b cx1_3b cx2_3b cy0_3b cy1_3b cy2_3b ck0_3b ck1_3b ca0_3b ca1_3b za0_3b za1_3b; have ct0_4b := t4b.at 0 rfl; have ct1_4b := t4b.at 1 rfl; have cx0_4b := x4b.at 0 rfl; have cx1_4b := x4b.at 1 rfl; have cx2_4b := x4b.at 2 rfl; have cy0_4b := y4b.at 0 rfl; have cy1_4b := y4b.at 1 rfl; have cy2_4b := y4b.at 2 rfl; have ck0_4b := k4b.at 0 rfl; have ck1_4b := k4b.at 1 rfl; have ca0_4b := a4b.at 0 rfl; have ca1_4b := a4b.at 1 rfl; have za0_4b := a4b.frozen 0; have za1_4b := a4b.frozen 1; have cc0_4b := c4b.at 0 rfl; have cc1_4b := c4b.at 1 rfl; have zc0_4b := c4b.frozen 0; have zc1_4b := c4b.frozen 1; have hcb := hZ4.size; have hS4b : w4.heap.size + 1 ≤ (w4.alloc (.cells #[.slice qa1 R1.length qc1, .slice ta1 A1.length tc1] 25)).heap.size := (by simp)) | (go_at_call 15; (with_reducible refine (dsame_eq _ _ _ _ _ R1 A1 (PR4b.slc brEnc_len) (PA4b.slc ascEnc_len) (QR4b.slc brEnc_len) (QA4b.slc ascEnc_len) hl1.1 hl1.2).mono ?_); rintro e w5 ⟨rfl, hB5⟩; have hZ5 := hZ4b.trans (hB5.mono hZ4b.size); have hT5 := hTo.trans (hZ5.mono hTo.size); have t5 := to.pure hZ5; have x5 := xo.pure hZ5; have y5 := yo.pure hZ5; have k5 := ko.pure hZ5; have HR5 := hR.pure hT5; have HA5 := hA.pure hT5; have OR5 := ORo.pure hZ5; have OA5 := OAo.pure hZ5; have a5 := a4b.pure hB5; have c5 := c4b.pure hB5; have hS5 := Nat.le_trans hS4b hB5.size; clear ct0_4b ct1_4b cx0_4b cx1_4b cx2_4b cy0_4b cy1_4b cy2_4b ck0_4b ck1_4b ca0_4b ca1_4b za0_4b za1_4b cc0_4b cc1_4b zc0_4b zc1_4b; have ct0_5 := t5.at 0 rfl; have ct1_5 := t5.at 1 rfl; have cx0_5 := x5.at 0 rfl; have cx1_5 := x5.at 1 rfl; have cx2_5 := x5.at 2 rfl; have cy0_5 := y5.at 0 rfl; have cy1_5 := y5.at 1 rfl; have cy2_5 := y5.at 2 rfl; have ck0_5 := k5.at 0 rfl; have ck1_5 := k5.at 1 rfl; have ca0_5 := a5.at 0 rfl; have ca1_5 := a5.at 1 rfl; have za0_5 := a5.frozen 0; have za1_5 := a5.frozen 1; have cc0_5 := c5.at 0 rfl; have cc1_5 := c5.at 1 rfl; have zc0_5 := c5.frozen 0; have zc1_5 := c5.frozen 1) | (go_at_call 16; (with_reducible refine (hp2.out _ _ _ OR5 OA5).mono ?_); rintro e w6 ⟨r6, v6, rfl, hPr6, hPa6, hB6⟩; obtain ⟨pa2, pc2, rfl⟩ : ∃ a c, r6 = .slice a R2.length c := own_len hPr6; obtain ⟨sa2, sc2, rfl⟩ : ∃ a c, v6 = .slice a A2.length c := own_len hPa6; have PR6 := hPr6.rebase (b' := w4.heap.size + 1) (fun i hi => Nat.le_trans hS5 (hPr6.ge hi)); have PA6 := hPa6.rebase (b' := w4.heap.size + 1) (fun i hi => Nat.le_trans hS5 (hPa6.ge hi)); have hZ6 := hZ5.trans (hB6.mono hZ5.size); have hT6 := hTo.trans (hZ6.mono hTo.size); have t6 := to.pure hZ6; have x6 := xo.pure hZ6; have y6 := yo.pure hZ6; have k6 := ko.pure hZ6; have HR6 := hR.pure hT6; have HA6 := hA.pure hT6; have OR6 := ORo.pure hZ6; have OA6 := OAo.pure hZ6; have a6 := a5.pure hB6; have c6 := c5.pure hB6; have hS6 := Nat.le_trans hS5 hB6.size; clear ct0_5 ct1_5 cx0_5 cx1_5 cx2_5 cy0_5 cy1_5 cy2_5 ck0_5 ck1_5 ca0_5 ca1_5 za0_5 za1_5 cc0_5 cc1_5 zc0_5 zc1_5; have ct0_6 := t6.at 0 rfl; have ct1_6 := t6.at 1 rfl; have cx0_6 := x6.at 0 rfl; have cx1_6 := x6.at 1 rfl; have cx2_6 := x6.at 2 rfl; have cy0_6 := y6.at 0 rfl; have cy1_6 := y6.at 1 rfl; have cy2_6 := y6.at 2 rfl; have ck0_6 := k6.at 0 rfl; have ck1_6 := k6.at 1 rfl; have ca0_6 := a6.at 0 rfl; have ca1_6 := a6.at 1 rfl; have za0_6 := a6.frozen 0; have za1_6 := a6.frozen 1; have cc0_6 := c6.at 0 rfl; have cc1_6 := c6.at 1 rfl; have zc0_6 := c6.frozen 0; have zc1_6 := c6.frozen 1; have hZ6s := Below.setCell (p := ⟨w3.heap.size, 1, none⟩) (Below.setCell (p := ⟨w3.heap.size, 0, none⟩) hZ6 hab (.slice pa2 R2.length pc2)) hab (.slice sa2 A2.length sc2); have hT6s := hTo.trans (hZ6s.mono hTo.size); have t6s := to.pure hZ6s; have x6s := xo.pure hZ6s; have y6s := yo.pure hZ6s; have k6s := ko.pure hZ6s; have HR6s := hR.pure hT6s; have HA6s := hA.pure hT6s; have OR6s := ORo.pure hZ6s; have OA6s := OAo.pure hZ6s; have a6s := (a6.set 0 (.slice pa2 R2.length pc2)).set 1 (.slice sa2 A2.length sc2); have c6s := (c6.other ⟨w3.heap.size, 0, none⟩ (.slice pa2 R2.length pc2) (by simp only; omega)).other ⟨w3.heap.size, 1, none⟩ (.slice sa2 A2.length sc2) (by simp only; omega); have PR6s := (PR6.other ⟨w3.heap.size, 0, none⟩ (.slice pa2 R2.length pc2) (fun i hi e => by have h1 := PR6.ge hi; dsimp only at e; omega)).other ⟨w3.heap.size, 1, none⟩ (.slice sa2 A2.length sc2) (fun i hi e => by have h1 := PR6.ge hi; dsimp only at e; omega); have PA6s := (PA6.other ⟨w3.heap.size, 0, none⟩ (.slice pa2 R2.length pc2) (fun i hi e => by have h1 := PA6.ge hi; dsimp only at e; omega)).other ⟨w3.heap.size, 1, none⟩ (.slice sa2 A2.length sc2) (fun i hi e => by have h1 := PA6.ge hi; dsimp only at e; omega); have hS6s := Nat.le_trans (Nat.le_trans hS6 (Upd.set (S := fun _ => True) (p := ⟨w3.heap.size, 0, none⟩) trivial (.slice pa2 R2.length pc2)).size) (Upd.set (S := fun _ => True) (p := ⟨w3.heap.size, 1, none⟩) trivial (.slice sa2 A2.length sc2)).size; have ct0_6s := t6s.at 0 rfl; have ct1_6s := t6s.at 1 rfl; have cx0_6s := x6s.at 0 rfl; have cx1_6s := x6s.at 1 rfl; have cx2_6s := x6s.at 2 rfl; have cy0_6s := y6s.at 0 rfl; have cy1_6s := y6s.at 1 rfl; have cy2_6s := y6s.at 2 rfl; have ck0_6s := k6s.at 0 rfl; have ck1_6s := k6s.at 1 rfl; have ca0_6s := a6s.at 0 rfl; have ca1_6s := a6s.at 1 rfl; have za0_6s := a6s.frozen 0; have za1_6s := a6s.frozen 1; have cc0_6s := c6s.at 0 rfl; have cc1_6s := c6s.at 1 rfl; have zc0_6s := c6s.frozen 0; have zc1_6s := c6s.frozen 1) | (go_at_call 17; (with_reducible refine (hq2.out _ _ _ HR6s HA6s).mono ?_); rintro e w7 ⟨r7, v7, rfl, hQr7, hQa7, hB7⟩; obtain ⟨qa2, qc2, rfl⟩ : ∃ a c, r7 = .slice a R2.length c := own_len hQr7; obtain ⟨ta2, tc2, rfl⟩ : ∃ a c, v7 = .slice a A2.length c := own_len hQa7; have QR7 := hQr7.rebase (b' := w4.heap.size + 1) (fun i hi => Nat.le_trans hS6s (hQr7.ge hi)); have QA7 := hQa7.rebase (b' := w4.heap.size + 1) (fun i hi => Nat.le_trans hS6s (hQa7.ge hi)); have hZ7 := hZ6s.trans (hB7.mono hZ6s.size); have hT7 := hTo.trans (hZ7.mono hTo.size); have t7 := to.pure hZ7; have x7 := xo.pure hZ7; have y7 := yo.pure hZ7; have k7 := ko.pure hZ7; have HR7 := hR.pure hT7; have HA7 := hA.pure hT7; have OR7 := ORo.pure hZ7; have OA7 := OAo.pure hZ7; have a7 := a6s.pure hB7; have c7 := c6s.pure hB7; have PR7 := PR6s.pure hB7; have PA7 := PA6s.pure hB7; have hS7 := Nat.le_trans hS6s hB7.size; clear ct0_6 ct1_6 cx0_6 cx1_6 cx2_6 cy0_6 cy1_6 cy2_6 ck0_6 ck1_6 ca0_6 ca1_6 za0_6 za1_6 cc0_6 cc1_6 zc0_6 zc1_6 ct0_6s ct1_6s cx0_6s cx1_6s cx2_6s cy0_6s cy1_6s cy2_6s ck0_6s ck1_6s ca0_6s ca1_6s za0_6s za1_6s cc0_6s cc1_6s zc0_6s zc1_6s; have ct0_7 := t7.at 0 rfl; have ct1_7 := t7.at 1 rfl; have cx0_7 := x7.at 0 rfl; have cx1_7 := x7.at 1 rfl; have cx2_7 := x7.at 2 rfl; have cy0_7 := y7.at 0 rfl; have cy1_7 := y7.at 1 rfl; have cy2_7 := y7.at 2 rfl; have ck0_7 := k7.at 0 rfl; have ck1_7 := k7.at 1 rfl; have ca0_7 := a7.at 0 rfl; have ca1_7 := a7.at 1 rfl; have za0_7 := a7.frozen 0; have za1_7 := a7.frozen 1; have cc0_7 := c7.at 0 rfl; have cc1_7 := c7.at 1 rfl; have zc0_7 := c7.frozen 0; have zc1_7 := c7.frozen 1; have hZ7s := Below.setCell (p := ⟨w4.heap.size, 1, none⟩) (Below.setCell (p := ⟨w4.heap.size, 0, none⟩) hZ7 hcb (.slice qa2 R2.length qc2)) hcb (.slice ta2 A2.length tc2); have hT7s := hTo.trans (hZ7s.mono hTo.size); have t7s := to.pure hZ7s; have x7s := xo.pure hZ7s; have y7s := yo.pure hZ7s; have k7s := ko.pure hZ7s; have HR7s := hR.pure hT7s; have HA7s := hA.pure hT7s; have OR7s := ORo.pure hZ7s; have OA7s := OAo.pure hZ7s; have c7s := (c7.set 0 (.slice qa2 R2.length qc2)).set 1 (.slice ta2 A2.length tc2); have a7s := (a7.other ⟨w4.heap.size, 0, none⟩ (.slice qa2 R2.length qc2) (by simp only; omega)).other ⟨w4.heap.size, 1, none⟩ (.slice ta2 A2.length tc2) (by simp only; omega); have PR7s := (PR7.other ⟨w4.heap.size, 0, none⟩ (.slice qa2 R2.length qc2) (fun i hi e => by have h1 := PR7.ge hi; dsimp only at e; omega)).other ⟨w4.heap.size, 1, none⟩ (.slice ta2 A2.length tc2) (fun i hi e => by have h1 := PR7.ge hi; dsimp only at e; omega); have PA7s := (PA7.other ⟨w4.heap.size, 0, none⟩ (.slice qa2 R2.length qc2) (fun i hi e => by have h1 := PA7.ge hi; dsimp only at e; omega)).other ⟨w4.heap.size, 1, none⟩ (.slice ta2 A2.length tc2) (fun i hi e => by have h1 := PA7.ge hi; dsimp only at e; omega); have QR7s := (QR7.other ⟨w4.heap.size, 0, none⟩ (.slice qa2 R2.length qc2) (fun i hi e => by have h1 := QR7.ge hi; dsimp only at e; omega)).other ⟨w4.heap.size, 1, none⟩ (.slice ta2 A2.length tc2) (fun i hi e => by have h1 := QR7.ge hi; dsimp only at e; omega); have QA7s := (QA7.other ⟨w4.heap.size, 0, none⟩ (.slice qa2 R2.length qc2) (fun i hi e => by have h1 := QA7.ge hi; dsimp only at e; omega)).other ⟨w4.heap.size, 1, none⟩ (.slice ta2 A2.length tc2) (fun i hi e => by have h1 := QA7.ge hi; dsimp only at e; omega); have hS7s := Nat.le_trans (Nat.le_trans hS7 (Upd.set (S := fun _ => True) (p := ⟨w4.heap.size, 0, none⟩) trivial (.slice qa2 R2.length qc2)).size) (Upd.set (S := fun _ => True) (p := ⟨w4.heap.size, 1, none⟩) trivial (.slice ta2 A2.length tc2)).size; have ct0_7s := t7s.at 0 rfl; have ct1_7s := t7s.at 1 rfl; have cx0_7s := x7s.at 0 rfl; have cx1_7s := x7s.at 1 rfl; have cx2_7s := x7s.at 2 rfl; have cy0_7s := y7s.at 0 rfl; have cy1_7s := y7s.at 1 rfl; have cy2_7s := y7s.at 2 rfl; have ck0_7s := k7s.at 0 rfl; have ck1_7s := k7s.at 1 rfl; have ca0_7s := a7s.at 0 rfl; have ca1_7s := a7s.at 1 rfl; have za0_7s := a7s.frozen 0; have za1_7s := a7s.frozen 1; have cc0_7s := c7s.at 0 rfl; have cc1_7s := c7s.at 1 rfl; have zc0_7s := c7s.frozen 0; have zc1_7s := c7s.frozen 1) | (go_at_call 15; (with_reducible refine (dsame_eq _ _ _ _ _ R2 A2 (PR7s.slc brEnc_len) (PA7s.slc ascEnc_len) (QR7s.slc brEnc_len) (QA7s.slc ascEnc_len) hl2.1 hl2.2).mono ?_); rintro e w8 ⟨rfl, hB8⟩; have hZ8 := hZ7s.trans (hB8.mono hZ7s.size); have hT8 := hTo.trans (hZ8.mono hTo.size); have t8 := to.pure hZ8; have x8 := xo.pure hZ8; have y8 := yo.pure hZ8; have k8 := ko.pure hZ8; have HR8 := hR.pure hT8; have HA8 := hA.pure hT8; have OR8 := ORo.pure hZ8; have OA8 := OAo.pure hZ8; have a8 := a7s.pure hB8; have c8 := c7s.pure hB8; have PR8 := PR7s.pure hB8; have hS8 := Nat.le_trans hS7s hB8.size; clear ct0_7 ct1_7 cx0_7 cx1_7 cx2_7 cy0_7 cy1_7 cy2_7 ck0_7 ck1_7 ca0_7 ca1_7 za0_7 za1_7 cc0_7 cc1_7 zc0_7 zc1_7 ct0_7s ct1_7s cx0_7s cx1_7s cx2_7s cy0_7s cy1_7s cy2_7s ck0_7s ck1_7s ca0_7s ca1_7s za0_7s za1_7s cc0_7s cc1_7s zc0_7s zc1_7s; have ct0_8 := t8.at 0 rfl; have ct1_8 := t8.at 1 rfl; have cx0_8 := x8.at 0 rfl; have cx1_8 := x8.at 1 rfl; have cx2_8 := x8.at 2 rfl; have cy0_8 := y8.at 0 rfl; have cy1_8 := y8.at 1 rfl; have cy2_8 := y8.at 2 rfl; have ck0_8 := k8.at 0 rfl; have ck1_8 := k8.at 1 rfl; have ca0_8 := a8.at 0 rfl; have ca1_8 := a8.at 1 rfl; have za0_8 := a8.frozen 0; have za1_8 := a8.frozen 1; have cc0_8 := c8.at 0 rfl; have cc1_8 := c8.at 1 rfl; have zc0_8 := c8.frozen 0; have zc1_8 := c8.frozen 1))
  clear ct0_8 ct1_8 cx0_8 cx1_8 cx2_8 cy0_8 cy1_8 cy2_8 ck0_8 ck1_8 ca0_8 ca1_8 za0_8 za1_8 cc0_8 cc1_8 zc0_8 zc1_8
  go_loopw [14] (fun s14 wr => ∃ (k : Nat) (R' : List Brn), k ≤ R2.length ∧ s14 = .int .i64 k ∧ R'.length = R2.length ∧ Own (w4.heap.size + 1) 44 7 brEnc wr (.slice pa2 R2.length pc2) R' ∧ Blk wr w3.heap.size [.slice pa2 R2.length pc2, .slice sa2 A2.length sc2] ∧ Below (w2.alloc (.cells #[.slice ga R.length gc, .slice ha A.length hc] 25)).heap.size (w2.alloc (.cells #[.slice ga R.length gc, .slice ha A.length hc] 25)) wr) (fun s14 _ => R2.length - (intOf s14).toNat)
  case atStart => exact ⟨0, R2, by omega, rfl, rfl, PR8, a8, hZ8⟩
  case round =>
    obtain ⟨k, R', hk, rfl, hlen, hO, aw, hZw⟩ := hrel
    have hk2 := hl2.1
    have hlen' := Lib.hid hlen
    have caw0 := aw.at 0 rfl; have caw1 := aw.at 1 rfl
    by_cases hlt : k < R2.length
    · have hkR : k < R'.length := by omega
      clear hlen
      obtain ⟨g, rfl, hg⟩ := own_at7 hO hkR
      have y5 := hO.frozen (k * 7 + 5)
      obtain ⟨q0, q1, q2, q3, q4, q5, q6⟩ := br_cells (hO.slc brEnc_len) hkR
      simp only [Nat.zero_add] at q0 q1 q2 q3 q4 q5 q6
      have hk0 : (0 : Int) ≤ (k : Int) := by omega
      have hk1 : (k : Int) < (R2.length : Int) := by omega
      have hgn : (w2.alloc (.cells #[.slice ga R.length gc, .slice ha A.length hc] 25)).heap.size ≤ g := by omega
      have hO2 := hO.set brEnc_len k hkR 5 (.int .u32 99) { R'[k] with tm := 99 } (by omega) rfl
      have aw2 := aw.other ⟨g, k * 7 + 5, none⟩ (.int .u32 99) (by simp only; omega)
      have hZ2 := Below.setCell (p := ⟨g, k * 7 + 5, none⟩) hZw hgn (.int .u32 99)
      go_wp2
      go_roundw
      case rel => exact ⟨k + 1, _, by omega, by go_num, by rw [List.length_set]; exact hlen'.out, hO2, aw2, hZ2⟩
      case measure => simp [intOf]; omega
    · obtain rfl : k = R2.length := by omega
      clear hlen
      have hTw := hTo.trans (hZw.mono hTo.size)
      have tw := to.pure hZw
      have xw := xo.pure hZw
      have yw := yo.pure hZw
      have kw := ko.pure hZw
      have HRw := hR.pure hTw
      have HAw := hA.pure hTw
      have ORw := ORo.pure hZw
      have OAw := OAo.pure hZw
      have ct0_w := tw.at 0 rfl
      have ct1_w := tw.at 1 rfl
      have cx0_w := xw.at 0 rfl
      have cx1_w := xw.at 1 rfl
      have cx2_w := xw.at 2 rfl
      have cy0_w := yw.at 0 rfl
      have cy1_w := yw.at 1 rfl
      have cy2_w := yw.at 2 rfl
      have ck0_w := kw.at 0 rfl
      have ck1_w := kw.at 1 rfl
      go_wp2_with (first | (go_at_call 15; (with_reducible refine (dsame_eq _ _ _ _ _ R A ORw OAw HRw HAw hLR hLA).mono ?_); rintro e w21 ⟨rfl, hB21⟩; have hT21 := hTw.trans (hB21.mono hTw.size)) | (go_at_call 11; (with_reducible refine (bhead_any _).mono ?_); rintro e w22 ⟨rfl, hB22⟩; have hTz := hT21.trans (hB22.mono hT21.size)))
      go_ret
      exact ⟨rfl, hTz⟩
end Go.Proofs.Ytcelpincmpjhkaa

/- The law BranchStarts from its arguments as they are read. Conditions: none. -/
namespace Go.Proofs.Ytcelpincmpjhkaa
set_option linter.unusedSimpArgs false
set_option linter.unusedVariables false
open Go.ChangeShapes Go.WideShapes Go.ChangeAt Go.RowKit
set_option maxRecDepth 100000
section
variable {H : Type} {enc : TypeId × Value → H} {w : World} {base : Nat} {spare : Nat → Bool} {held : Bool}
theorem open_who (n : Nat) (cs : List Value) (y : DataW H × List MemPlace)
    (h : DataW.trod enc Try.prog w base spare held n 31 cs = some y) : ∃ (s : Int) (f b : Bool), cs = [.int .u64 s, .bool f, .bool b] := by
  obtain ⟨hl, m, hf⟩ := open_fields Try.underlying31 h
  have hc : Try.prog.cellsOf 31 = 3 := by kernel_rfl
  have c64 : Try.prog.cellsOf 29 = 1 := by kernel_rfl
  have cb : Try.prog.cellsOf 4 = 1 := by kernel_rfl
  rw [hc] at hl
  match cs, hl with
  | [c0, c1, c2], _ =>
    obtain ⟨a0, rfl, w0⟩ := field_int Try.underlying29 c64 (o := 0) (c := c0) rfl (hf 0 _ rfl)
    obtain ⟨a1, rfl⟩ := field_bool Try.underlying4 cb (o := 1) (c := c1) rfl (hf 1 _ rfl)
    obtain ⟨a2, rfl⟩ := field_bool Try.underlying4 cb (o := 2) (c := c2) rfl (hf 2 _ rfl)
    exact ⟨a0, a1, a2, rfl⟩
theorem open_who_arg {b : Nat} {v : Value} {d : DataW H} {ps : List MemPlace} (hv : Value.okWide Try.prog w .any b 31 v) (h : DataW.Trod enc Try.prog w base spare held 31 v d ps) :
    ∃ (s : Int) (f b : Bool), v = .agg #[.int .u64 s, .bool f, .bool b] := by
  obtain ⟨cs, rfl, hs⟩ := okWide_struct Try.underlying31 hv
  obtain ⟨n, hn⟩ := h
  obtain ⟨s, f, b, hx⟩ := open_who n _ _ hn
  refine ⟨s, f, b, ?_⟩
  have : cs.toList = [.int .u64 s, .bool f, .bool b] := by simpa [Value.cells] using hx
  congr 1
  exact Array.toList_inj.1 (by rw [this])
end
theorem branchStarts_args {H : Type} (enc : TypeId × Value → H) (W : World) {base : Nat} (v0 : Value) (d0 : DataW H) (p0 : List MemPlace) (v1 : Value) (d1 : DataW H) (p1 : List MemPlace) (v2 : Value) (d2 : DataW H) (p2 : List MemPlace)
    (h0 : DataW.Trod enc Try.prog W 0 (fun _ => true) true 25 v0 d0 p0) (h1 : DataW.Trod enc Try.prog W 0 (fun _ => true) true 28 v1 d1 p1) (h2 : DataW.Trod enc Try.prog W 0 (fun _ => true) true 31 v2 d2 p2)
    (k0 : Value.okWide Try.prog W .any base 25 v0) (k1 : Value.okWide Try.prog W .any base 28 v1) (k2 : Value.okWide Try.prog W .any base 31 v2) {S : Prop} (_ : S) :
    Calls Try.prog 3 #[v0, v1, v2] W fun e w' => e = .returned (.bool true) ∧ Below W.heap.size W w' := by
  obtain ⟨rv, av, R, A, rfl, hR, hA, hW⟩ := open_tab k0 h0
  obtain ⟨x, rfl⟩ := open_xid_arg k1 h1
  obtain ⟨s, f, b, rfl⟩ := open_who_arg k2 h2
  exact branchStarts_any W rv av R A x s f b hR hA hW
end Go.Proofs.Ytcelpincmpjhkaa

/- The statement BranchStartsSaid: whatever its arguments are, the law BranchStarts returns true, and leaves its arguments as they were. Conditions: none beyond the statement's own. -/
namespace Go.Proofs.Ytcelpincmpjhkaa.holdBranchStarts
open Go.ChangeShapes Go.WideShapes Go.ChangeAt Go.RowKit

theorem ownK : ownKnob Try.prog.godebug = none := by kernel_rfl
theorem laid : laidOutB Try.prog = true := by kernel_rfl

set_option maxRecDepth 100000 in
set_option maxHeartbeats 1000000 in
theorem lifted (os : Os) (started : os.Started) (H : Type) (enc : TypeId × Value → H) :
    ReturnsInHanded {} Try.checked os 3 .any (Rows.branchStartsSpec.pre6 enc Try.prog Try.f3 Rows.branchStartsRow.domain false) (Rows.branchStartsSpec.post enc Try.prog Try.f3 false true false false) := by
  refine returnsInHanded_of_change_sized (C := Try.checked) ownK started (by kernel_rfl) Try.func3
    (ChangeSpec.witness6 (enc := enc) (C := Try.checked) false ⟨#[], #[.agg #[.slice none 0 0, .slice none 0 0], .agg #[.int .u32 0, .string ⟨#[]⟩, .string ⟨#[]⟩], .agg #[.int .u64 0, .bool false, .bool false]], []⟩ 8 (by kernel_rfl) (by kernel_rfl) (by kernel_rfl) (by kernel_rfl)) ?_
  intro W base args ds gs before hval0 hW _ hsz0 _
  have hsz : (DataW.weightsEach Try.prog (Try.f3.params.toList ++ Rows.branchStartsSpec.plain.varTypes Try.prog) (ds ++ gs)).all (· ≤ reachBytes) = true := hsz0
  clear hsz0
  have hval : ∀ (j : Nat) t v, Try.f3.params[j]? = some t → args[j]? = some v → Value.okWide Try.prog W .any base t v := hval0
  have hW' := hW
  obtain ⟨p, q, hA0, hV, rfl, hfz, hnd⟩ := hW
  have hA : DataW.TrodAll enc Try.prog W 0 (fun _ => true) true Try.f3.params.toList args.toList ds p := hA0
  rw [Try.params3] at hA hval hsz
  obtain ⟨v0, vs0, d0, ds0, p0, q0, hargs, rfl, rfl, h0, r0⟩ := trodAll_cons hA
  obtain ⟨v1, vs1, d1, ds1, p1, q1, rfl, rfl, rfl, h1, r1⟩ := trodAll_cons r0
  obtain ⟨v2, vs2, d2, ds2, p2, q2, rfl, rfl, rfl, h2, r2⟩ := trodAll_cons r1
  obtain ⟨rfl, rfl, rfl⟩ := trodAll_nil r2
  obtain rfl : args = #[v0, v1, v2] := by cases args; simp_all
  obtain ⟨rfl, rfl⟩ := trodVars_none hV
  have k0 := hval 0 25 v0 rfl rfl
  have k1 := hval 1 28 v1 rfl rfl
  have k2 := hval 2 31 v2 rfl rfl
  clear hA0 hval0 hval
  simp only [List.append_nil] at hW'
  have hlt : ∀ x ∈ p0 ++ p1 ++ p2, x.block < W.heap.size := fun x hx => by simpa using hW'.lt x (by simpa using hx)
  have g0 : ∀ W', Below W.heap.size W W' → DataW.Trod enc Try.prog W' 0 (fun b => decide (b < W.heap.size)) true 25 v0 d0 p0 := fun W' hn => Below.trod laid (by kernel_rfl) (of_decide_eq_true (by kernel_rfl)) h0 hn (fun x hx => hlt x (by simp [hx]))
  have g1 : ∀ W', Below W.heap.size W W' → DataW.Trod enc Try.prog W' 0 (fun b => decide (b < W.heap.size)) true 28 v1 d1 p1 := fun W' hn => Below.trod laid (by kernel_rfl) (of_decide_eq_true (by kernel_rfl)) h1 hn (fun x hx => hlt x (by simp [hx]))
  have g2 : ∀ W', Below W.heap.size W W' → DataW.Trod enc Try.prog W' 0 (fun b => decide (b < W.heap.size)) true 31 v2 d2 p2 := fun W' hn => Below.trod laid (by kernel_rfl) (of_decide_eq_true (by kernel_rfl)) h2 hn (fun x hx => hlt x (by simp [hx]))
  refine (branchStarts_args enc W v0 d0 p0 v1 d1 p1 v2 d2 p2 h0 h1 h2 k0 k1 k2 hsz).mono fun e W' ⟨he, hb⟩ => ?_
  subst he
  exact ⟨_, rfl, _, _, _, [], _, [], hW', trodAll_cons_mk (shut_bool Try.underlying4 _) trodAll_mk0, (trodAll_cons_mk (g0 _ hb) (trodAll_cons_mk (g1 _ hb) (trodAll_cons_mk (g2 _ hb) trodAll_mk0))), rfl, hb.frame _, fun h => by cases h⟩

/-- The statement. -/
theorem proved : Rows.BranchStartsSaid :=
  OpenClaim.holds_of_wide 3 Try.f3 rfl rfl rfl rfl rfl rfl rfl ⟨rfl, rfl, rfl, rfl, rfl⟩ rfl rfl rfl rfl rfl (by kernel_rfl) Try.func3 (by kernel_rfl)
    (of_decide_eq_true (by kernel_rfl)) (by unfold Func.isWrapper; first | (rw [if_pos (by decide +kernel)]; kernel_rfl) | (rw [if_neg (by decide +kernel)]; exact ⟨rfl, rfl⟩))
    (fun os started H enc _ => lifted os started H enc)
#print axioms proved
end Go.Proofs.Ytcelpincmpjhkaa.holdBranchStarts
namespace Go.Proofs.Ytcelpincmpjhkaa
set_option linter.unusedSimpArgs false
set_option linter.unusedVariables false
theorem branchStarts_holds : Rows.BranchStartsSaid := holdBranchStarts.proved
#print axioms branchStarts_holds
end Go.Proofs.Ytcelpincmpjhkaa
