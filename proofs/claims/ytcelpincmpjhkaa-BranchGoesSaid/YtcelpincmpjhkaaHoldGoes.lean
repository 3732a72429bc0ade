/- The statement BranchGoesSaid: whatever its arguments are, the law BranchGoes returns true, and leaves its arguments as they were. Conditions: none beyond the statement's own. (Texts joined; the heads of the others stand below.) -/
import Derived.Test.YtcelpincmpjhkaaHW
import Derived.Test.YtcelpincmpjhkaaBrTf
import Derived.Test.YtcelpincmpjhkaaBrDt
import Derived.Test.YtcelpincmpjhkaaHM
import Derived.Test.YtcelpincmpjhkaaHZ
import Derived.Test.YtcelpincmpjhkaaHB
import Derived.IntWalk
import Derived.Test.YtcelpincmpjhkaaRows
import Derived.ProofKit
import Derived.OpenShut

/- The law BranchGoes of chapter 19. Conditions: rows and associations read; the fields are in their bounds. Written by gen_bgoes.py. -/
namespace Go.Proofs.Ytcelpincmpjhkaa
set_option linter.unusedSimpArgs false
set_option linter.unusedVariables false
open Go.RowKit
theorem tickT_len (R : List Brn) : (tickT R).length ≤ R.length := by unfold tickT; rw [List.length_map]; exact List.length_filter_le _ _
theorem leaveT_len (R : List Brn) (A : List Asc) (s : Int) : (leaveT R A s).length ≤ R.length := by unfold leaveT; rw [List.length_map]; exact List.length_filter_le _ _
theorem len_tick (R : List Brn) (A : List Asc) : Len R A (R.map tickB, A, 0, 0) := len_mk R A (by simp) (by omega)
theorem len_leave (R : List Brn) (A : List Asc) (s : Int) : Len R A (leaveR R A s, outA A s, 0, 0) := len_mk R A (Nat.le_succ_of_le (leaveR_len R A s)) (Nat.le_succ_of_le (outA_len A s))

set_option maxRecDepth 100000 in
set_option maxHeartbeats 8000000 in
theorem branchGoes_any (w : World) (rv av : Value) (R : List Brn) (A : List Asc) (se : Int) (hR : Slc brEnc 7 w rv R) (hA : Slc ascEnc 5 w av A) (hWf : ∀ b ∈ R, WfB b) :
    Calls Try.prog 8 #[.agg #[rv, av], .int .u64 se] w fun e w' => e = .returned (.bool true) ∧ Below w.heap.size w w' := by
  obtain ⟨ra, rc, rfl, hm1⟩ := hR.len
  obtain ⟨aa, ac, rfl, hm2⟩ := hA.len
  unfold maxLen at hm1 hm2
  have hlf : ∀ b ∈ R, 0 ≤ b.lf ∧ b.lf ≤ 4294967295 := fun b hb => (hWf b hb).2.1
  have htm : ∀ b ∈ R, 0 ≤ b.tm := fun b hb => (hWf b hb).1.1
  have hT0 : Below w.heap.size w (w.alloc (.cells #[.slice ra R.length rc, .slice aa A.length ac] 25)) := ((Below.refl w.heap.size w).alloc (Nat.le_refl _) _)
  have t0 : Blk (w.alloc (.cells #[.slice ra R.length rc, .slice aa A.length ac] 25)) (w.heap.size) [.slice ra R.length rc, .slice aa A.length ac] := (Blk.newAt2 w [.slice ra R.length rc, .slice aa A.length ac] 25 (w.heap.size) (by simp))
  have ct0_0 := t0.at 0 rfl
  have ct1_0 := t0.at 1 rfl
  have HR0 := hR.pure hT0; have HA0 := hA.pure hT0
  obtain ⟨gb, hgb⟩ : ∃ gb, (decide (20 < R.length) || decide (20 < A.length)) = gb := ⟨_, rfl⟩
  have hgb2 := Lib.hid hgb
  cases gb
  rotate_left 1
  · have hdum := True.intro
    clear hgb
    go_enter Try.func8, Try.ntmps8
    go_wp2_with (first | (go_at_call 10; (with_reducible refine (great_any _ _ _ R A _ HR0 HA0 hgb2.out).mono ?_); rintro e w1 ⟨rfl, hB1⟩; have hT1 := hT0.trans (hB1.mono hT0.size); have t1 := t0.pure hB1; have HR1 := HR0.pure hB1; have HA1 := HA0.pure hB1; clear ct0_0 ct1_0; have ct0_1 := t1.at 0 rfl; have ct1_1 := t1.at 1 rfl) | (go_at_call 11; (with_reducible refine (bhead_any _).mono ?_); rintro e w2 ⟨rfl, hB2⟩; have hT2 := hT1.trans (hB2.mono hT1.size)))
    go_ret
    exact ⟨rfl, hT2⟩
  have hLR : R.length ≤ 1000000 := by simp only [Bool.or_eq_false_iff, decide_eq_false_iff_not] at hgb; omega
  have hLA : A.length ≤ 1000000 := by simp only [Bool.or_eq_false_iff, decide_eq_false_iff_not] at hgb; omega
  have hL20 : R.length ≤ 20 ∧ A.length ≤ 20 := by simp only [Bool.or_eq_false_iff, decide_eq_false_iff_not] at hgb; omega
  clear hgb
  obtain ⟨D1, hD1⟩ : ∃ D, overB (mayB R A true ((0, ⟨#[120]⟩, ⟨#[]⟩) : Xid)) (R.map tickB, A, 0, 0) = D := ⟨_, rfl⟩
  obtain ⟨TL1, hTL1⟩ : ∃ T : List Xid, (if mayB R A true ((0, ⟨#[120]⟩, ⟨#[]⟩) : Xid) = 0 then tickT R else []) = T := ⟨_, rfl⟩
  obtain ⟨R1, A1, a1, e1⟩ := D1
  have hl1 : R1.length ≤ 1000000 ∧ A1.length ≤ 1000000 := by have h : Len R A (R1, A1, a1, e1) := hD1 ▸ len_over (len_tick R A); exact ⟨Nat.le_trans h.1 (by omega), Nat.le_trans h.2 (by omega)⟩
  have hll1 : TL1.length ≤ 1000000 := by
    rw [← hTL1]
    split
    · exact Nat.le_trans (tickT_len R) hLR
    · simp
  have hp1 := Lib.hid (fun (u : World) (r v : Value) (h1 : Slc brEnc 7 u r R) (h2 : Slc ascEnc 5 u v A) => show Calls Try.prog 41 #[.agg #[r, v]] u (TabPost3 u (R1, A1, a1, e1) TL1) from by rw [← hD1]; rw [← hTL1]; exact tick_fn u r v R A h1 h2 hLR hLA hlf)
  have hq1 := Lib.hid (fun (u : World) (r v : Value) (h1 : Slc brEnc 7 u r R) (h2 : Slc ascEnc 5 u v A) => show Calls Try.prog 42 #[.agg #[r, v]] u (TabPost3 u (R1, A1, a1, e1) TL1) from by rw [← hD1]; rw [← hTL1]; exact dtick_any u r v R A h1 h2 hLR hLA htm hlf)
  clear hD1 hTL1
  obtain ⟨D2, hD2⟩ : ∃ D, overB (mayB R A (se != 0) ((0, ⟨#[120]⟩, ⟨#[]⟩) : Xid)) (leaveR R A se, outA A se, 0, 0) = D := ⟨_, rfl⟩
  obtain ⟨TL2, hTL2⟩ : ∃ T : List Xid, (if mayB R A (se != 0) ((0, ⟨#[120]⟩, ⟨#[]⟩) : Xid) = 0 then leaveT R A se else []) = T := ⟨_, rfl⟩
  obtain ⟨R2, A2, a2, e2⟩ := D2
  have hl2 : R2.length ≤ 1000000 ∧ A2.length ≤ 1000000 := by have h : Len R A (R2, A2, a2, e2) := hD2 ▸ len_over (len_leave R A se); exact ⟨Nat.le_trans h.1 (by omega), Nat.le_trans h.2 (by omega)⟩
  have hll2 : TL2.length ≤ 1000000 := by
    rw [← hTL2]
    split
    · exact Nat.le_trans (leaveT_len R A se) hLR
    · simp
  have hp2 := Lib.hid (fun (u : World) (r v : Value) (h1 : Slc brEnc 7 u r R) (h2 : Slc ascEnc 5 u v A) => show Calls Try.prog 43 #[.agg #[r, v], .int .u64 se] u (TabPost3 u (R2, A2, a2, e2) TL2) from by rw [← hD2]; rw [← hTL2]; exact leave_fn u r v R A se h1 h2 hLR hLA)
  have hq2 := Lib.hid (fun (u : World) (r v : Value) (h1 : Slc brEnc 7 u r R) (h2 : Slc ascEnc 5 u v A) => show Calls Try.prog 44 #[.agg #[r, v], .int .u64 se] u (TabPost3 u (R2, A2, a2, e2) TL2) from by rw [← hD2]; rw [← hTL2]; exact dleave_any u r v R A se h1 h2 hLR hLA htm)
  clear hD2 hTL2
  clear htm hWf hlf hL20
  go_enter Try.func8, Try.ntmps8
  go_wp2_with (first | (go_at_call 10; (with_reducible refine (great_any _ _ _ R A _ HR0 HA0 hgb2.out).mono ?_); rintro e w1 ⟨rfl, hB1⟩; have hT1 := hT0.trans (hB1.mono hT0.size); have t1 := t0.pure hB1; have HR1 := HR0.pure hB1; have HA1 := HA0.pure hB1; clear ct0_0 ct1_0; have ct0_1 := t1.at 0 rfl; have ct1_1 := t1.at 1 rfl) | (go_at_call 12; (with_reducible refine (dcopy_any _ _ _ R A HR1 HA1 hLR hLA).mono ?_); rintro e w2 ⟨ro, ao, rfl, hOR2, hOA2, hB2⟩; obtain ⟨ga, gc, rfl⟩ := own_len hOR2; obtain ⟨ha, hc, rfl⟩ := own_len hOA2; have hNo := (Below.refl w2.heap.size w2).alloc (Nat.le_refl _) (.cells #[.slice ga R.length gc, .slice ha A.length hc] 25); have hTo := (hT1.trans (hB2.mono hT1.size)).trans (hNo.mono (hT1.trans (hB2.mono hT1.size)).size); have to := (t1.pure hB2).pure hNo; have ko := Blk.new w2 [.slice ga R.length gc, .slice ha A.length hc] 25; have ORo := (hOR2.slc brEnc_len).pure hNo; have OAo := (hOA2.slc ascEnc_len).pure hNo; have hZo := Below.refl (w2.alloc (.cells #[.slice ga R.length gc, .slice ha A.length hc] 25)).heap.size (w2.alloc (.cells #[.slice ga R.length gc, .slice ha A.length hc] 25)); have HRo := hR.pure hTo; have HAo := hA.pure hTo; clear ct0_1 ct1_1; have ct0_o := to.at 0 rfl; have ct1_o := to.at 1 rfl; have ck0_o := ko.at 0 rfl; have ck1_o := ko.at 1 rfl) | (go_at_call 41; (with_reducible refine (hp1.out _ _ _ ORo OAo).mono ?_); rintro e w3 ⟨r3, v3, l3, rfl, hPr3, hPa3, hPl3, hB3⟩; obtain ⟨pa1, pc1, rfl⟩ : ∃ a c, r3 = .slice a R1.length c := own_len hPr3; obtain ⟨sa1, sc1, rfl⟩ : ∃ a c, v3 = .slice a A1.length c := own_len hPa3; obtain ⟨la1, lc1, rfl⟩ : ∃ a c, l3 = .slice a TL1.length c := own_len hPl3; have PR3 := hPr3; have PA3 := hPa3; have PL3 := hPl3; have hZ3 := hZo.trans (hB3.mono hZo.size); have hT3 := hTo.trans (hZ3.mono hTo.size); have t3 := to.pure hZ3; have k3 := ko.pure hZ3; have HR3 := hR.pure hT3; have HA3 := hA.pure hT3; have OR3 := ORo.pure hZ3; have OA3 := OAo.pure hZ3; have hN3b := (Below.refl w3.heap.size w3).alloc (Nat.le_refl _) (.cells #[.slice pa1 R1.length pc1, .slice sa1 A1.length sc1] 25); have hZ3b := hZ3.trans (hN3b.mono hZ3.size); have hT3b := hTo.trans (hZ3b.mono hTo.size); have t3b := to.pure hZ3b; have k3b := ko.pure hZ3b; have HR3b := hR.pure hT3b; have HA3b := hA.pure hT3b; have OR3b := ORo.pure hZ3b; have OA3b := OAo.pure hZ3b; have PR3b := PR3.pure hN3b; have PA3b := PA3.pure hN3b; have PL3b := PL3.pure hN3b; have a3b := Blk.new w3 [.slice pa1 R1.length pc1, .slice sa1 A1.length sc1] 25; clear ct0_o ct1_o ck0_o ck1_o; have ct0_3b := t3b.at 0 rfl; have ct1_3b := t3b.at 1 rfl; have ck0_3b := k3b.at 0 rfl; have ck1_3b := k3b.at 1 rfl; have ca0_3b := a3b.at 0 rfl; have ca1_3b := a3b.at 1 rfl; have za0_3b := a3b.frozen 0; have za1_3b := a3b.frozen 1; have hab := hZ3.size) | (go_at_call 42; (with_reducible refine (hq1.out _ _ _ HR3b HA3b).mono ?_); rintro e w4 ⟨r4, v4, l4, rfl, hQr4, hQa4, hQl4, hB4⟩; obtain ⟨qa1, qc1, rfl⟩ : ∃ a c, r4 = .slice a R1.length c := own_len hQr4; obtain ⟨ta1, tc1, rfl⟩ : ∃ a c, v4 = .slice a A1.length c := own_len hQa4; obtain ⟨ma1, mc1, rfl⟩ : ∃ a c, l4 = .slice a TL1.length c := own_len hQl4; have QR4 := hQr4; have QA4 := hQa4; have QL4 := hQl4; have hZ4 := hZ3b.trans (hB4.mono hZ3b.size); have hT4 := hTo.trans (hZ4.mono hTo.size); have t4 := to.pure hZ4; have k4 := ko.pure hZ4; have HR4 := hR.pure hT4; have HA4 := hA.pure hT4; have OR4 := ORo.pure hZ4; have OA4 := OAo.pure hZ4; have a4 := a3b.pure hB4; have PR4 := PR3b.pure hB4; have PA4 := PA3b.pure hB4; have PL4 := PL3b.pure hB4; have hac : w3.heap.size + 1 ≤ w4.heap.size := (by have h := hB4.size; simpa using h); have hN4b := (Below.refl w4.heap.size w4).alloc (Nat.le_refl _) (.cells #[.slice qa1 R1.length qc1, .slice ta1 A1.length tc1] 25); have hZ4b := hZ4.trans (hN4b.mono hZ4.size); have hT4b := hTo.trans (hZ4b.mono hTo.size); have t4b := to.pure hZ4b; have k4b := ko.pure hZ4b; have HR4b := hR.pure hT4b; have HA4b := hA.pure hT4b; have OR4b := ORo.pure hZ4b; have OA4b := OAo.pure hZ4b; have a4b := a4.pure hN4b; have PR4b := PR4.pure hN4b; have PA4b := PA4.pure hN4b; have PL4b := PL4.pure hN4b; have QR4b := QR4.pure hN4b; have QA4b := QA4.pure hN4b; have QL4b := QL4.pure hN4b; have c4b := Blk.new w4 [.slice qa1 R1.length qc1, .slice ta1 A1.length tc1] 25; clear ct0_3b ct1_3b ck0_3b ck1_3b ca0_3b ca1_3b za0_3b za1_3b; have ct0_4b := t4b.at 0 rfl; have ct1_4b := t4b.at 1 rfl; have ck0_4b := k4b.at 0 rfl; have ck1_4b := k4b.at 1 rfl; have ca0_4b := a4b.at 0 rfl; have ca1_4b := a4b.at 1 rfl; have za0_4b := a4b.frozen 0; have za1_4b := a4b.frozen 1; have cc0_4b := c4b.at 0 rfl; have cc1_4b := c4b.at 1 rfl; have zc0_4b := c4b.frozen 0; have zc1_4b := c4b.frozen 1; have hcb := hZ4.size; have hS4b : w4.heap.size + 1 ≤ (w4.alloc (.cells #[.slice qa1 R1.length qc1, .slice ta1 A1.length tc1] 25)).heap.size := (by simp)) | (go_at_call 15; (with_reducible refine (dsame_eq _ _ _ _ _ R1 A1 (PR4b.slc brEnc_len) (PA4b.slc ascEnc_len) (QR4b.slc brEnc_len) (QA4b.slc ascEnc_len) hl1.1 hl1.2).mono ?_); rintro e w5 ⟨rfl, hB5⟩; have hZ5 := hZ4b.trans (hB5.mono hZ4b.size); have hT5 := hTo.trans (hZ5.mono hTo.size); have t5 := to.pure hZ5; have k5 := ko.pure hZ5; have HR5 := hR.pure hT5; have HA5 := hA.pure hT5; have OR5 := ORo.pure hZ5; have OA5 := OAo.pure hZ5; have a5 := a4b.pure hB5; have c5 := c4b.pure hB5; have PL5 := PL4b.pure hB5; have QL5 := QL4b.pure hB5; have hS5 := Nat.le_trans hS4b hB5.size; clear ct0_4b ct1_4b ck0_4b ck1_4b ca0_4b ca1_4b za0_4b za1_4b cc0_4b cc1_4b zc0_4b zc1_4b; have ct0_5 := t5.at 0 rfl; have ct1_5 := t5.at 1 rfl; have ck0_5 := k5.at 0 rfl; have ck1_5 := k5.at 1 rfl; have ca0_5 := a5.at 0 rfl; have ca1_5 := a5.at 1 rfl; have za0_5 := a5.frozen 0; have za1_5 := a5.frozen 1; have cc0_5 := c5.at 0 rfl; have cc1_5 := c5.at 1 rfl; have zc0_5 := c5.frozen 0; have zc1_5 := c5.frozen 1) | (go_at_call 22; (with_reducible refine (xsame_eq _ _ _ TL1 (PL5.slc xEnc_len) (QL5.slc xEnc_len) hll1).mono ?_); rintro e w6 ⟨rfl, hB6⟩; have hZ6 := hZ5.trans (hB6.mono hZ5.size); have hT6 := hTo.trans (hZ6.mono hTo.size); have t6 := to.pure hZ6; have k6 := ko.pure hZ6; have HR6 := hR.pure hT6; have HA6 := hA.pure hT6; have OR6 := ORo.pure hZ6; have OA6 := OAo.pure hZ6; have a6 := a5.pure hB6; have c6 := c5.pure hB6; have hS6 := Nat.le_trans hS5 hB6.size; clear ct0_5 ct1_5 ck0_5 ck1_5 ca0_5 ca1_5 za0_5 za1_5 cc0_5 cc1_5 zc0_5 zc1_5; have ct0_6 := t6.at 0 rfl; have ct1_6 := t6.at 1 rfl; have ck0_6 := k6.at 0 rfl; have ck1_6 := k6.at 1 rfl; have ca0_6 := a6.at 0 rfl; have ca1_6 := a6.at 1 rfl; have za0_6 := a6.frozen 0; have za1_6 := a6.frozen 1; have cc0_6 := c6.at 0 rfl; have cc1_6 := c6.at 1 rfl; have zc0_6 := c6.frozen 0; have zc1_6 := c6.frozen 1) | (go_at_call 43; (with_reducible refine (hp2.out _ _ _ OR6 OA6).mono ?_); rintro e w7 ⟨r7, v7, l7, rfl, hPr7, hPa7, hPl7, hB7⟩; obtain ⟨pa2, pc2, rfl⟩ : ∃ a c, r7 = .slice a R2.length c := own_len hPr7; obtain ⟨sa2, sc2, rfl⟩ : ∃ a c, v7 = .slice a A2.length c := own_len hPa7; obtain ⟨la2, lc2, rfl⟩ : ∃ a c, l7 = .slice a TL2.length c := own_len hPl7; have PR7 := hPr7.rebase (b' := w4.heap.size + 1) (fun i hi => Nat.le_trans hS6 (hPr7.ge hi)); have PA7 := hPa7.rebase (b' := w4.heap.size + 1) (fun i hi => Nat.le_trans hS6 (hPa7.ge hi)); have PL7 := hPl7.rebase (b' := w4.heap.size + 1) (fun i hi => Nat.le_trans hS6 (hPl7.ge hi)); have hZ7 := hZ6.trans (hB7.mono hZ6.size); have hT7 := hTo.trans (hZ7.mono hTo.size); have t7 := to.pure hZ7; have k7 := ko.pure hZ7; have HR7 := hR.pure hT7; have HA7 := hA.pure hT7; have OR7 := ORo.pure hZ7; have OA7 := OAo.pure hZ7; have a7 := a6.pure hB7; have c7 := c6.pure hB7; have hS7 := Nat.le_trans hS6 hB7.size; clear ct0_6 ct1_6 ck0_6 ck1_6 ca0_6 ca1_6 za0_6 za1_6 cc0_6 cc1_6 zc0_6 zc1_6; have ct0_7 := t7.at 0 rfl; have ct1_7 := t7.at 1 rfl; have ck0_7 := k7.at 0 rfl; have ck1_7 := k7.at 1 rfl; have ca0_7 := a7.at 0 rfl; have ca1_7 := a7.at 1 rfl; have za0_7 := a7.frozen 0; have za1_7 := a7.frozen 1; have cc0_7 := c7.at 0 rfl; have cc1_7 := c7.at 1 rfl; have zc0_7 := c7.frozen 0; have zc1_7 := c7.frozen 1; have hZ7s := Below.setCell (p := ⟨w3.heap.size, 1, none⟩) (Below.setCell (p := ⟨w3.heap.size, 0, none⟩) hZ7 hab (.slice pa2 R2.length pc2)) hab (.slice sa2 A2.length sc2); have hT7s := hTo.trans (hZ7s.mono hTo.size); have t7s := to.pure hZ7s; have k7s := ko.pure hZ7s; have HR7s := hR.pure hT7s; have HA7s := hA.pure hT7s; have OR7s := ORo.pure hZ7s; have OA7s := OAo.pure hZ7s; have a7s := (a7.set 0 (.slice pa2 R2.length pc2)).set 1 (.slice sa2 A2.length sc2); have c7s := (c7.other ⟨w3.heap.size, 0, none⟩ (.slice pa2 R2.length pc2) (by simp only; omega)).other ⟨w3.heap.size, 1, none⟩ (.slice sa2 A2.length sc2) (by simp only; omega); have PR7s := (PR7.other ⟨w3.heap.size, 0, none⟩ (.slice pa2 R2.length pc2) (fun i hi e => by have h1 := PR7.ge hi; dsimp only at e; omega)).other ⟨w3.heap.size, 1, none⟩ (.slice sa2 A2.length sc2) (fun i hi e => by have h1 := PR7.ge hi; dsimp only at e; omega); have PA7s := (PA7.other ⟨w3.heap.size, 0, none⟩ (.slice pa2 R2.length pc2) (fun i hi e => by have h1 := PA7.ge hi; dsimp only at e; omega)).other ⟨w3.heap.size, 1, none⟩ (.slice sa2 A2.length sc2) (fun i hi e => by have h1 := PA7.ge hi; dsimp only at e; omega); have PL7s := (PL7.other ⟨w3.heap.size, 0, none⟩ (.slice pa2 R2.length pc2) (fun i hi e => by have h1 := PL7.ge hi; dsimp only at e; omega)).other ⟨w3.heap.size, 1, none⟩ (.slice sa2 A2.length sc2) (fun i hi e => by have h1 := PL7.ge hi; dsimp only at e; omega); have hS7s := Nat.le_trans (Nat.le_trans hS7 (Upd.set (S := fun _ => True) (p := ⟨w3.heap.size, 0, none⟩) trivial (.slice pa2 R2.length pc2)).size) (Upd.set (S := fun _ => True) (p := ⟨w3.heap.size, 1, none⟩) trivial (.slice sa2 A2.length sc2)).size; have ct0_7s := t7s.at 0 rfl; have ct1_7s := t7s.at 1 rfl; have ck0_7s := k7s.at 0 rfl; have ck1_7s := k7s.at 1 rfl; have ca0_7s := a7s.at 0 rfl; have ca1_7s := a7s.at 1 rfl; have za0_7s := a7s.frozen 0; have za1_7s := a7s.frozen 1; have cc0_7s := c7s.at 0 rfl; have cc1_7s := c7s.at 1 rfl; have zc0_7s := c7s.frozen 0; have zc1_7s := c7s.frozen 1) | (go_at_call 44; (with_reducible refine (hq2.out _ _ _ HR7s HA7s).mono ?_); rintro e w8 ⟨r8, v8, l8, rfl, hQr8, hQa8, hQl8, hB8⟩; obtain ⟨qa2, qc2, rfl⟩ : ∃ a c, r8 = .slice a R2.length c := own_len hQr8; obtain ⟨ta2, tc2, rfl⟩ : ∃ a c, v8 = .slice a A2.length c := own_len hQa8; obtain ⟨ma2, mc2, rfl⟩ : ∃ a c, l8 = .slice a TL2.length c := own_len hQl8; have QR8 := hQr8.rebase (b' := w4.heap.size + 1) (fun i hi => Nat.le_trans hS7s (hQr8.ge hi)); have QA8 := hQa8.rebase (b' := w4.heap.size + 1) (fun i hi => Nat.le_trans hS7s (hQa8.ge hi)); have QL8 := hQl8.rebase (b' := w4.heap.size + 1) (fun i hi => Nat.le_trans hS7s (hQl8.ge hi)); have hZ8 := hZ7s.trans (hB8.mono hZ7s.size); have hT8 := hTo.trans (hZ8.mono hTo.size); have t8 := to.pure hZ8; have k8 := ko.pure hZ8; have HR8 := hR.pure hT8; have HA8 := hA.pure hT8; have OR8 := ORo.pure hZ8; have OA8 := OAo.pure hZ8; have a8 := a7s.pure hB8; have c8 := c7s.pure hB8; have PR8 := PR7s.pure hB8; have PA8 := PA7s.pure hB8; have PL8 := PL7s.pure hB8; have hS8 := Nat.le_trans hS7s hB8.size; clear ct0_7 ct1_7 ck0_7 ck1_7 ca0_7 ca1_7 za0_7 za1_7 cc0_7 cc1_7 zc0_7 zc1_7 ct0_7s ct1_7s ck0_7s ck1_7s ca0_7s ca1_7s za0_7s za1_7s cc0_7s cc1_7s zc0_7s zc1_7s; have ct0_8 := t8.at 0 rfl; have ct1_8 := t8.at 1 rfl; have ck0_8 := k8.at 0 rfl; have ck1_8 := k8.at 1 rfl; have ca0_8 := a8.at 0 rfl; have ca1_8 := a8.at 1 rfl; have za0_8 := a8.frozen 0; have za1_8 := a8.frozen 1; have cc0_8 := c8.at 0 rfl; have cc1_8 := c8.at 1 rfl; have zc0_8 := c8.frozen 0; have zc1_8 := c8.frozen 1; have hZ8s := Below.setCell (p := ⟨w4.heap.size, 1, none⟩) (Below.setCell (p := ⟨w4.heap.size, 0, none⟩) hZ8 hcb (.slice qa2 R2.length qc2)) hcb (.slice ta2 A2.length tc2); have hT8s := hTo.trans (hZ8s.mono hTo.size); have t8s := to.pure hZ8s; have k8s := ko.pure hZ8s; have HR8s := hR.pure hT8s; have HA8s := hA.pure hT8s; have OR8s := ORo.pure hZ8s; have OA8s := OAo.pure hZ8s; have c8s := (c8.set 0 (.slice qa2 R2.length qc2)).set 1 (.slice ta2 A2.length tc2); have a8s := (a8.other ⟨w4.heap.size, 0, none⟩ (.slice qa2 R2.length qc2) (by simp only; omega)).other ⟨w4.heap.size, 1, none⟩ (.slice ta2 A2.length tc2) (by simp only; omega); have PR8s := (PR8.other ⟨w4.heap.size, 0, none⟩ (.slice qa2 R2.length qc2) (fun i hi e => by have h1 := PR8.ge hi; dsimp only at e; omega)).other ⟨w4.heap.size, 1, none⟩ (.slice ta2 A2.length tc2) (fun i hi e => by have h1 := PR8.ge hi; dsimp only at e; omega); have PA8s := (PA8.other ⟨w4.heap.size, 0, none⟩ (.slice qa2 R2.length qc2) (fun i hi e => by have h1 := PA8.ge hi; dsimp only at e; omega)).other ⟨w4.heap.size, 1, none⟩ (.slice ta2 A2.length tc2) (fun i hi e => by have h1 := PA8.ge hi; dsimp only at e; omega); have PL8s := (PL8.other ⟨w4.heap.size, 0, none⟩ (.slice qa2 R2.length qc2) (fun i hi e => by have h1 := PL8.ge hi; dsimp only at e; omega)).other ⟨w4.heap.size, 1, none⟩ (.slice ta2 A2.length tc2) (fun i hi e => by have h1 := PL8.ge hi; dsimp only at e; omega); have QR8s := (QR8.other ⟨w4.heap.size, 0, none⟩ (.slice qa2 R2.length qc2) (fun i hi e => by have h1 := QR8.ge hi; dsimp only at e; omega)).other ⟨w4.heap.size, 1, none⟩ (.slice ta2 A2.length tc2) (fun i hi e => by have h1 := QR8.ge hi; dsimp only at e; omega); have QA8s := (QA8.other ⟨w4.heap.size, 0, none⟩ (.slice qa2 R2.length qc2) (fun i hi e => by have h1 := QA8.ge hi; dsimp only at e; omega)).other ⟨w4.heap.size, 1, none⟩ (.slice ta2 A2.length tc2) (fun i hi e => by have h1 := QA8.ge hi; dsimp only at e; omega); have QL8s := (QL8.other ⟨w4.heap.size, 0, none⟩ (.slice qa2 R2.length qc2) (fun i hi e => by have h1 := QL8.ge hi; dsimp only at e; omega)).other ⟨w4.heap.size, 1, none⟩ (.slice ta2 A2.length tc2) (fun i hi e => by have h1 := QL8.ge hi; dsimp only at e; omega); have hS8s := Nat.le_trans (Nat.le_trans hS8 (Upd.set (S := fun _ => True) (p := ⟨w4.heap.size, 0, none⟩) trivial (.slice qa2 R2.length qc2)).size) (Upd.set (S := fun _ => True) (p := ⟨w4.heap.size, 1, none⟩) trivial (.slice ta2 A2.length tc2)).size; have ct0_8s := t8s.at 0 rfl; have ct1_8s := t8s.at 1 rfl; have ck0_8s := k8s.at 0 rfl; have ck1_8s := k8s.at 1 rfl; have ca0_8s := a8s.at 0 rfl; have ca1_8s := a8s.at 1 rfl; have za0_8s := a8s.frozen 0; have za1_8s := a8s.frozen 1; have cc0_8s := c8s.at 0 rfl; have cc1_8s := c8s.at 1 rfl; have zc0_8s := c8s.frozen 0; have zc1_8s := c8s.frozen 1) | (go_at_call 15; (with_reducible refine (dsame_eq _ _ _ _ _ R2 A2 (PR8s.slc brEnc_len) (PA8s.slc ascEnc_len) (QR8s.slc brEnc_len) (QA8s.slc ascEnc_len) hl2.1 hl2.2).mono ?_); rintro e w9 ⟨rfl, hB9⟩; have hZ9 := hZ8s.trans (hB9.mono hZ8s.size); have hT9 := hTo.trans (hZ9.mono hTo.size); have t9 := to.pure hZ9; have k9 := ko.pure hZ9; have HR9 := hR.pure hT9; have HA9 := hA.pure hT9; have OR9 := ORo.pure hZ9; have OA9 := OAo.pure hZ9; have a9 := a8s.pure hB9; have c9 := c8s.pure hB9; have PL9 := PL8s.pure hB9; have QL9 := QL8s.pure hB9; have hS9 := Nat.le_trans hS8s hB9.size; clear ct0_8 ct1_8 ck0_8 ck1_8 ca0_8 ca1_8 za0_8 za1_8 cc0_8 cc1_8 zc0_8 zc1_8 ct0_8s ct1_8s ck0_8s ck1_8s ca0_8s ca1_8s za0_8s za1_8s cc0_8s cc1_8s zc0_8s zc1_8s; have ct0_9 := t9.at 0 rfl; have ct1_9 := t9.at 1 rfl; have ck0_9 := k9.at 0 rfl; have ck1_9 := k9.at 1 rfl; have ca0_9 := a9.at 0 rfl; have ca1_9 := a9.at 1 rfl; have za0_9 := a9.frozen 0; have za1_9 := a9.frozen 1; have cc0_9 := c9.at 0 rfl; have cc1_9 := c9.at 1 rfl; have zc0_9 := c9.frozen 0; have zc1_9 := c9.frozen 1) | (go_at_call 22; (with_reducible refine (xsame_eq _ _ _ TL2 (PL9.slc xEnc_len) (QL9.slc xEnc_len) hll2).mono ?_); rintro e w10 ⟨rfl, hB10⟩; have hZ10 := hZ9.trans (hB10.mono hZ9.size); have hT10 := hTo.trans (hZ10.mono hTo.size); have t10 := to.pure hZ10; have k10 := ko.pure hZ10; have HR10 := hR.pure hT10; have HA10 := hA.pure hT10; have OR10 := ORo.pure hZ10; have OA10 := OAo.pure hZ10; have a10 := a9.pure hB10; have c10 := c9.pure hB10; have hS10 := Nat.le_trans hS9 hB10.size; clear ct0_9 ct1_9 ck0_9 ck1_9 ca0_9 ca1_9 za0_9 za1_9 cc0_9 cc1_9 zc0_9 zc1_9; have ct0_10 := t10.at 0 rfl; have ct1_10 := t10.at 1 rfl; have ck0_10 := k10.at 0 rfl; have ck1_10 := k10.at 1 rfl; have ca0_10 := a10.at 0 rfl; have ca1_10 := a10.at 1 rfl; have za0_10 := a10.frozen 0; have za1_10 := a10.frozen 1; have cc0_10 := c10.at 0 rfl; have cc1_10 := c10.at 1 rfl; have zc0_10 := c10.frozen 0; have zc1_10 := c10.frozen 1) | (go_at_call 15; (with_reducible refine (dsame_eq _ _ _ _ _ R A OR10 OA10 HR10 HA10 hLR hLA).mono ?_); rintro e w11 ⟨rfl, hB11⟩; have hZ11 := hZ10.trans (hB11.mono hZ10.size); have hT11 := hTo.trans (hZ11.mono hTo.size); have t11 := to.pure hZ11; have k11 := ko.pure hZ11; have HR11 := hR.pure hT11; have HA11 := hA.pure hT11; have OR11 := ORo.pure hZ11; have OA11 := OAo.pure hZ11; have a11 := a10.pure hB11; have c11 := c10.pure hB11; have hS11 := Nat.le_trans hS10 hB11.size; clear ct0_10 ct1_10 ck0_10 ck1_10 ca0_10 ca1_10 za0_10 za1_10 cc0_10 cc1_10 zc0_10 zc1_10; have ct0_11 := t11.at 0 rfl; have ct1_11 := t11.at 1 rfl; have ck0_11 := k11.at 0 rfl; have ck1_11 := k11.at 1 rfl; have ca0_11 := a11.at 0 rfl; have ca1_11 := a11.at 1 rfl; have za0_11 := a11.frozen 0; have za1_11 := a11.frozen 1; have cc0_11 := c11.at 0 rfl; have cc1_11 := c11.at 1 rfl; have zc0_11 := c11.frozen 0; have zc1_11 := c11.frozen 1) | (go_at_call 11; (with_reducible refine (bhead_any _).mono ?_); rintro e w12 ⟨rfl, hB12⟩; have hTz := hT11.trans (hB12.mono hT11.size)))
  go_ret
  exact ⟨rfl, hTz⟩
end Go.Proofs.Ytcelpincmpjhkaa

/- The law BranchGoes from its arguments as they are read. Conditions: none. -/
namespace Go.Proofs.Ytcelpincmpjhkaa
set_option linter.unusedSimpArgs false
set_option linter.unusedVariables false
open Go.ChangeShapes Go.WideShapes Go.ChangeAt Go.RowKit

set_option maxRecDepth 100000 in
theorem branchGoes_args {H : Type} (enc : TypeId × Value → H) (W : World) {base : Nat} (v0 : Value) (d0 : DataW H) (p0 : List MemPlace) (v1 : Value) (d1 : DataW H) (p1 : List MemPlace)
    (h0 : DataW.Trod enc Try.prog W 0 (fun _ => true) true 25 v0 d0 p0) (h1 : DataW.Trod enc Try.prog W 0 (fun _ => true) true 29 v1 d1 p1)
    (k0 : Value.okWide Try.prog W .any base 25 v0) (k1 : Value.okWide Try.prog W .any base 29 v1) {S : Prop} (_ : S) :
    Calls Try.prog 8 #[v0, v1] W fun e w' => e = .returned (.bool true) ∧ Below W.heap.size W w' := by
  obtain ⟨rv, av, R, A, rfl, hR, hA, hW⟩ := open_tab k0 h0
  obtain ⟨n, rfl, -, -, wn⟩ := open_int Try.underlying29 k1 h1
  exact branchGoes_any W rv av R A n hR hA hW
end Go.Proofs.Ytcelpincmpjhkaa

/- The statement BranchGoesSaid: whatever its arguments are, the law BranchGoes returns true, and leaves its arguments as they were. Conditions: none beyond the statement's own. -/
namespace Go.Proofs.Ytcelpincmpjhkaa.holdBranchGoes
open Go.ChangeShapes Go.WideShapes Go.ChangeAt Go.RowKit

theorem ownK : ownKnob Try.prog.godebug = none := by kernel_rfl
theorem laid : laidOutB Try.prog = true := by kernel_rfl

set_option maxRecDepth 100000 in
set_option maxHeartbeats 1000000 in
theorem lifted (os : Os) (started : os.Started) (H : Type) (enc : TypeId × Value → H) :
    ReturnsInHanded {} Try.checked os 8 .any (Rows.branchGoesSpec.pre6 enc Try.prog Try.f8 Rows.branchGoesRow.domain false) (Rows.branchGoesSpec.post enc Try.prog Try.f8 false true false false) := by
  refine returnsInHanded_of_change_sized (C := Try.checked) ownK started (by kernel_rfl) Try.func8
    (ChangeSpec.witness6 (enc := enc) (C := Try.checked) false ⟨#[], #[.agg #[.slice none 0 0, .slice none 0 0], .int .u64 0], []⟩ 8 (by kernel_rfl) (by kernel_rfl) (by kernel_rfl) (by kernel_rfl)) ?_
  intro W base args ds gs before hval0 hW _ hsz0 _
  have hsz : (DataW.weightsEach Try.prog (Try.f8.params.toList ++ Rows.branchGoesSpec.plain.varTypes Try.prog) (ds ++ gs)).all (· ≤ reachBytes) = true := hsz0
  clear hsz0
  have hval : ∀ (j : Nat) t v, Try.f8.params[j]? = some t → args[j]? = some v → Value.okWide Try.prog W .any base t v := hval0
  have hW' := hW
  obtain ⟨p, q, hA0, hV, rfl, hfz, hnd⟩ := hW
  have hA : DataW.TrodAll enc Try.prog W 0 (fun _ => true) true Try.f8.params.toList args.toList ds p := hA0
  rw [Try.params8] at hA hval hsz
  obtain ⟨v0, vs0, d0, ds0, p0, q0, hargs, rfl, rfl, h0, r0⟩ := trodAll_cons hA
  obtain ⟨v1, vs1, d1, ds1, p1, q1, rfl, rfl, rfl, h1, r1⟩ := trodAll_cons r0
  obtain ⟨rfl, rfl, rfl⟩ := trodAll_nil r1
  obtain rfl : args = #[v0, v1] := by cases args; simp_all
  obtain ⟨rfl, rfl⟩ := trodVars_none hV
  have k0 := hval 0 25 v0 rfl rfl
  have k1 := hval 1 29 v1 rfl rfl
  clear hA0 hval0 hval
  simp only [List.append_nil] at hW'
  have hlt : ∀ x ∈ p0 ++ p1, x.block < W.heap.size := fun x hx => by simpa using hW'.lt x (by simpa using hx)
  have g0 : ∀ W', Below W.heap.size W W' → DataW.Trod enc Try.prog W' 0 (fun b => decide (b < W.heap.size)) true 25 v0 d0 p0 := fun W' hn => Below.trod laid (by kernel_rfl) (of_decide_eq_true (by kernel_rfl)) h0 hn (fun x hx => hlt x (by simp [hx]))
  have g1 : ∀ W', Below W.heap.size W W' → DataW.Trod enc Try.prog W' 0 (fun b => decide (b < W.heap.size)) true 29 v1 d1 p1 := fun W' hn => Below.trod laid (by kernel_rfl) (of_decide_eq_true (by kernel_rfl)) h1 hn (fun x hx => hlt x (by simp [hx]))
  refine (branchGoes_args enc W v0 d0 p0 v1 d1 p1 h0 h1 k0 k1 hsz).mono fun e W' ⟨he, hb⟩ => ?_
  subst he
  exact ⟨_, rfl, _, _, _, [], _, [], hW', trodAll_cons_mk (shut_bool Try.underlying4 _) trodAll_mk0, (trodAll_cons_mk (g0 _ hb) (trodAll_cons_mk (g1 _ hb) trodAll_mk0)), rfl, hb.frame _, fun h => by cases h⟩

/-- The statement. -/
theorem proved : Rows.BranchGoesSaid :=
  OpenClaim.holds_of_wide 8 Try.f8 rfl rfl rfl rfl rfl rfl rfl ⟨rfl, rfl, rfl, rfl, rfl⟩ rfl rfl rfl rfl rfl (by kernel_rfl) Try.func8 (by kernel_rfl)
    (of_decide_eq_true (by kernel_rfl)) (by unfold Func.isWrapper; first | (rw [if_pos (by decide +kernel)]; kernel_rfl) | (rw [if_neg (by decide +kernel)]; exact ⟨rfl, rfl⟩))
    (fun os started H enc _ => lifted os started H enc)
#print axioms proved
end Go.Proofs.Ytcelpincmpjhkaa.holdBranchGoes
namespace Go.Proofs.Ytcelpincmpjhkaa
set_option linter.unusedSimpArgs false
set_option linter.unusedVariables false
theorem branchGoes_holds : Rows.BranchGoesSaid := holdBranchGoes.proved
#print axioms branchGoes_holds
end Go.Proofs.Ytcelpincmpjhkaa
