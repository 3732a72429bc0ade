/- Chapter 19, the document's side: End. Conditions: rows and associations read; no timeout is negative; at most a million of each. Written by gen_brDq.py. -/
import Derived.Test.YtcelpincmpjhkaaBrDp
import Derived.Test.YtcelpincmpjhkaaHG
import Derived.Test.YtcelpincmpjhkaaGB
namespace Go.Proofs.Ytcelpincmpjhkaa
set_option linter.unusedSimpArgs false
set_option linter.unusedVariables false
open Go.RowKit
theorem dspoilt3 (w : World) (b : Brn) (y : Int) (hy : (b.spoil 1).why = y) :
    Calls Try.prog 71 #[.agg #[.int .u32 b.x.1, .string b.x.2.1, .string b.x.2.2, .int .u8 b.st, .int .u8 b.why, .int .u32 b.tm, .int .u32 b.lf]] w fun e w' => e = .returned (.agg #[.int .u32 b.x.1, .string b.x.2.1, .string b.x.2.2, .int .u8 b.st, .int .u8 y, .int .u32 b.tm, .int .u32 0]) ∧ Below w.heap.size w w' := by
  rw [← hy]; exact dspoilt_any w b
theorem rend2 (w : World) (v : Value) (L : List Asc) (s : Int) (y : Xid) (L2 : List Asc) (hs : Slc ascEnc 5 w v L) (hL : L.length ≤ 1000000) (h : endF L s y = (L2, 0)) :
    Calls Try.prog 70 #[v, .int .u64 s, .agg #[.int .u32 y.1, .string y.2.1, .string y.2.2]] w fun e w' => ∃ r, e = .returned (.tuple #[r, .int .i64 0]) ∧ Own w.heap.size 57 5 ascEnc w' r L2 ∧ Below w.heap.size w w' := by
  have := rend_any w v L s y hs hL; rw [h] at this; exact this
theorem rsuspend2 (w : World) (v : Value) (L : List Asc) (s : Int) (y : Xid) (L2 : List Asc) (hs : Slc ascEnc 5 w v L) (hL : L.length ≤ 1000000) (h : suspendF L s y = (L2, 0)) :
    Calls Try.prog 69 #[v, .int .u64 s, .agg #[.int .u32 y.1, .string y.2.1, .string y.2.2]] w fun e w' => ∃ r, e = .returned (.tuple #[r, .int .i64 0]) ∧ Own w.heap.size 57 5 ascEnc w' r L2 ∧ Below w.heap.size w w' := by
  have := rsuspend_any w v L s y hs hL; rw [h] at this; exact this
theorem end_there {L : List Asc} {s : Int} {x : Xid} {j : Nat} (h : RowA L) (hs : s ≠ 0) (hx : XidOk x) (hj : j < L.length) (he : keyA L[j] = (s, x)) : ∃ L2, endF L s x = (L2, 0) := by
  unfold endF; rw [if_pos (mayz_yes h hs hx), idx_yes h.rises hj he]; exact ⟨_, rfl⟩
theorem susp_there {L : List Asc} {s : Int} {x : Xid} {j : Nat} (h : RowA L) (hs : s ≠ 0) (hx : XidOk x) (hj : j < L.length) (he : keyA L[j] = (s, x)) (hz : L[j].2.2 = false) : ∃ L2, suspendF L s x = (L2, 0) := by
  unfold suspendF; rw [if_pos (mayz_yes h hs hx), idx_yes h.rises hj he]; simp only
  rw [if_neg (by rw [List.getD_eq_getElem?_getD, List.getElem?_eq_getElem hj, Option.getD_some, hz]; simp)]; exact ⟨_, rfl⟩
theorem getA_at {L : List Asc} {j : Nat} (hj : j < L.length) (d : Asc) : L.getD j d = L[j] := by
  rw [List.getD_eq_getElem?_getD, List.getElem?_eq_getElem hj, Option.getD_some]
theorem spoil_same {b : Brn} (h : RowOk b) (hw : b.why ≠ 0) : b.spoil 1 = b := by
  obtain ⟨_, _, _, _, h5⟩ := h
  rw [if_pos (.inr (.inl hw))] at h5
  refine Brn.ext' rfl rfl ?_ rfl h5.1.symm
  unfold Brn.spoil; simp only; rw [if_neg hw]
theorem spoil_one {b : Brn} (hw : b.why = 0) : (b.spoil 1).why = 1 := by unfold Brn.spoil; simp only; rw [if_pos hw]


set_option maxRecDepth 100000 in
set_option maxHeartbeats 6400000 in
theorem dend_no (w : World) (rv av : Value) (R : List Brn) (A : List Asc) (x : Xid) (se : Int) (ja rb : Bool) (hR : Slc brEnc 7 w rv R) (hA : Slc ascEnc 5 w av A) (hLR : R.length ≤ 1000000) (hLA : A.length ≤ 1000000) (htm : ∀ b ∈ R, 0 ≤ b.tm) (hno : mayB R A (okS se ja rb) x ≠ 0) :
    Calls Try.prog 17 #[.agg #[rv, av], .int .u64 se, .agg #[.int .u32 x.1, .string x.2.1, .string x.2.2], .bool ja, .bool rb] w (TabPost w (overB (mayB R A (okS se ja rb) x) (endD R A se x ja rb))) := by
  obtain ⟨ra, rc, rfl, -⟩ := hR.len
  obtain ⟨aa, ac, rfl, -⟩ := hA.len
  obtain ⟨xf, xg, xb⟩ := x
  have hT0 : Below w.heap.size w (((w.alloc (.cells #[.slice ra R.length rc, .slice aa A.length ac] 25)).alloc (.cells #[.int .u32 xf, .string xg, .string xb] 28)).alloc (.cells #[.slice none 0 0, .slice none 0 0] 25)) := ((((Below.refl w.heap.size w).alloc (Nat.le_refl _) _).alloc (by simp) _).alloc (by simp; omega) _)
  have hW0 : w.heap.size + 3 ≤ (((w.alloc (.cells #[.slice ra R.length rc, .slice aa A.length ac] 25)).alloc (.cells #[.int .u32 xf, .string xg, .string xb] 28)).alloc (.cells #[.slice none 0 0, .slice none 0 0] 25)).heap.size := by simp
  have t0 : Blk (((w.alloc (.cells #[.slice ra R.length rc, .slice aa A.length ac] 25)).alloc (.cells #[.int .u32 xf, .string xg, .string xb] 28)).alloc (.cells #[.slice none 0 0, .slice none 0 0] 25)) (w.heap.size) [.slice ra R.length rc, .slice aa A.length ac] := (((Blk.newAt2 w [.slice ra R.length rc, .slice aa A.length ac] 25 (w.heap.size) (by simp)).alloc (.cells #[.int .u32 xf, .string xg, .string xb] 28)).alloc (.cells #[.slice none 0 0, .slice none 0 0] 25))
  have x0 : Blk (((w.alloc (.cells #[.slice ra R.length rc, .slice aa A.length ac] 25)).alloc (.cells #[.int .u32 xf, .string xg, .string xb] 28)).alloc (.cells #[.slice none 0 0, .slice none 0 0] 25)) (w.heap.size + 1) [.int .u32 xf, .string xg, .string xb] := ((Blk.newAt2 (w.alloc (.cells #[.slice ra R.length rc, .slice aa A.length ac] 25)) [.int .u32 xf, .string xg, .string xb] 28 (w.heap.size + 1) (by simp)).alloc (.cells #[.slice none 0 0, .slice none 0 0] 25))
  have r0 : Blk (((w.alloc (.cells #[.slice ra R.length rc, .slice aa A.length ac] 25)).alloc (.cells #[.int .u32 xf, .string xg, .string xb] 28)).alloc (.cells #[.slice none 0 0, .slice none 0 0] 25)) (w.heap.size + 1 + 1) [.slice none 0 0, .slice none 0 0] := (Blk.newAt2 ((w.alloc (.cells #[.slice ra R.length rc, .slice aa A.length ac] 25)).alloc (.cells #[.int .u32 xf, .string xg, .string xb] 28)) [.slice none 0 0, .slice none 0 0] 25 (w.heap.size + 1 + 1) (by simp))
  have ct0_0 := t0.at 0 rfl
  have ct1_0 := t0.at 1 rfl
  have cx0_0 := x0.at 0 rfl
  have cx1_0 := x0.at 1 rfl
  have cx2_0 := x0.at 2 rfl
  have cr0_0 := r0.at 0 rfl
  have cr1_0 := r0.at 1 rfl
  have zt0_0 := t0.frozen 0
  have zt1_0 := t0.frozen 1
  have zr0_0 := r0.frozen 0
  have zr1_0 := r0.frozen 1
  have HR0 := hR.pure hT0; have HA0 := hA.pure hT0
  obtain ⟨m, hm⟩ : ∃ m, mayB R A (okS se ja rb) (xf, xg, xb) = m := ⟨_, rfl⟩
  have hmb : (m != 0) = true := bne_iff_ne.2 (by rw [← hm]; exact hno)
  have hD : Hid (overB (mayB R A (okS se ja rb) (xf, xg, xb)) (endD R A se (xf, xg, xb) ja rb) = errR m) := Lib.hid (by unfold overB; rw [if_neg hno, hm])
  clear hno
  by_cases hz : se = 0
  · have hzb : (se == 0) = true := by rw [hz]; rfl
    have hok : okS se ja rb = false := by unfold okS; rw [hz]; rfl
    have hmay : Hid (mayB R A (!true) (xf, xg, xb) = m) := Lib.hid (by rw [← hm, hok]; rfl)
    clear hz hok hm
    go_enter Try.func17, Try.ntmps17
    go_wp2_with (first | (go_at_call 56; (with_reducible refine (dmay_any _ _ _ R A true (xf, xg, xb) m HR0 HA0 hLR hLA htm hmay.out).mono ?_); rintro e w1 ⟨rfl, hB1⟩; have t1 := t0.pure hB1; have x1 := x0.pure hB1; have r1 := r0.pure hB1; have hT1 := hT0.trans (hB1.mono hT0.size); clear ct0_0 ct1_0 cx0_0 cx1_0 cx2_0 cr0_0 cr1_0 zt0_0 zt1_0 zr0_0 zr1_0; have ct0_1 := t1.at 0 rfl; have ct1_1 := t1.at 1 rfl; have cx0_1 := x1.at 0 rfl; have cx1_1 := x1.at 1 rfl; have cx2_1 := x1.at 2 rfl) | (go_at_call 57; (with_reducible refine (dno_any _ m).mono ?_); rintro e w2 ⟨rfl, hB2⟩; have t2 := t1.pure hB2; have x2 := x1.pure hB2; have r2 := r1.pure hB2; have hT2 := hT1.trans (hB2.mono hT1.size); clear ct0_1 ct1_1 cx0_1 cx1_1 cx2_1; have ct0_2 := t2.at 0 rfl; have ct1_2 := t2.at 1 rfl; have cx0_2 := x2.at 0 rfl; have cx1_2 := x2.at 1 rfl; have cx2_2 := x2.at 2 rfl; have cr0_2 := r2.at 0 rfl; have cr1_2 := r2.at 1 rfl; have zt0_2 := t2.frozen 0; have zt1_2 := t2.frozen 1; have zr0_2 := r2.frozen 0; have zr1_2 := r2.frozen 1))
    have rr := (r2.set 0 (.slice none 0 0)).set 1 (.slice none 0 0)
    have k0 := rr.at 0 rfl; have k1 := rr.at 1 rfl
    refine bodyPost_ret (by simp [results, Try.results17, go_sem, k0, k1]; rfl) rfl ?_
    rw [hD.out]
    refine ⟨_, _, rfl, ?_, ?_, Below.setCell (p := ⟨w.heap.size + 1 + 1, 1, none⟩) (Below.setCell (p := ⟨w.heap.size + 1 + 1, 0, none⟩) hT2 (by simp only; omega) _) (by simp only; omega) _⟩
    · exact Own.nil
    · exact Own.nil
  have hzb : (se == 0) = false := beq_eq_false_iff_ne.2 hz
  have hok : okS se ja rb = !(ja && rb) := by unfold okS; rw [decide_eq_true hz]; simp
  cases ja
  · have hmay : Hid (mayB R A (!false) (xf, xg, xb) = m) := Lib.hid (by rw [← hm, hok]; rfl)
    clear hz hok hm
    go_enter Try.func17, Try.ntmps17
    go_wp2_with (first | (go_at_call 56; (with_reducible refine (dmay_any _ _ _ R A false (xf, xg, xb) m HR0 HA0 hLR hLA htm hmay.out).mono ?_); rintro e w1 ⟨rfl, hB1⟩; have t1 := t0.pure hB1; have x1 := x0.pure hB1; have r1 := r0.pure hB1; have hT1 := hT0.trans (hB1.mono hT0.size); clear ct0_0 ct1_0 cx0_0 cx1_0 cx2_0 cr0_0 cr1_0 zt0_0 zt1_0 zr0_0 zr1_0; have ct0_1 := t1.at 0 rfl; have ct1_1 := t1.at 1 rfl; have cx0_1 := x1.at 0 rfl; have cx1_1 := x1.at 1 rfl; have cx2_1 := x1.at 2 rfl) | (go_at_call 57; (with_reducible refine (dno_any _ m).mono ?_); rintro e w2 ⟨rfl, hB2⟩; have t2 := t1.pure hB2; have x2 := x1.pure hB2; have r2 := r1.pure hB2; have hT2 := hT1.trans (hB2.mono hT1.size); clear ct0_1 ct1_1 cx0_1 cx1_1 cx2_1; have ct0_2 := t2.at 0 rfl; have ct1_2 := t2.at 1 rfl; have cx0_2 := x2.at 0 rfl; have cx1_2 := x2.at 1 rfl; have cx2_2 := x2.at 2 rfl; have cr0_2 := r2.at 0 rfl; have cr1_2 := r2.at 1 rfl; have zt0_2 := t2.frozen 0; have zt1_2 := t2.frozen 1; have zr0_2 := r2.frozen 0; have zr1_2 := r2.frozen 1))
    have rr := (r2.set 0 (.slice none 0 0)).set 1 (.slice none 0 0)
    have k0 := rr.at 0 rfl; have k1 := rr.at 1 rfl
    refine bodyPost_ret (by simp [results, Try.results17, go_sem, k0, k1]; rfl) rfl ?_
    rw [hD.out]
    refine ⟨_, _, rfl, ?_, ?_, Below.setCell (p := ⟨w.heap.size + 1 + 1, 1, none⟩) (Below.setCell (p := ⟨w.heap.size + 1 + 1, 0, none⟩) hT2 (by simp only; omega) _) (by simp only; omega) _⟩
    · exact Own.nil
    · exact Own.nil
  · have hmay : Hid (mayB R A (!rb) (xf, xg, xb) = m) := Lib.hid (by rw [← hm, hok]; cases rb <;> rfl)
    clear hz hok hm
    go_enter Try.func17, Try.ntmps17
    go_wp2_with (first | (go_at_call 56; (with_reducible refine (dmay_any _ _ _ R A rb (xf, xg, xb) m HR0 HA0 hLR hLA htm hmay.out).mono ?_); rintro e w1 ⟨rfl, hB1⟩; have t1 := t0.pure hB1; have x1 := x0.pure hB1; have r1 := r0.pure hB1; have hT1 := hT0.trans (hB1.mono hT0.size); clear ct0_0 ct1_0 cx0_0 cx1_0 cx2_0 cr0_0 cr1_0 zt0_0 zt1_0 zr0_0 zr1_0; have ct0_1 := t1.at 0 rfl; have ct1_1 := t1.at 1 rfl; have cx0_1 := x1.at 0 rfl; have cx1_1 := x1.at 1 rfl; have cx2_1 := x1.at 2 rfl) | (go_at_call 57; (with_reducible refine (dno_any _ m).mono ?_); rintro e w2 ⟨rfl, hB2⟩; have t2 := t1.pure hB2; have x2 := x1.pure hB2; have r2 := r1.pure hB2; have hT2 := hT1.trans (hB2.mono hT1.size); clear ct0_1 ct1_1 cx0_1 cx1_1 cx2_1; have ct0_2 := t2.at 0 rfl; have ct1_2 := t2.at 1 rfl; have cx0_2 := x2.at 0 rfl; have cx1_2 := x2.at 1 rfl; have cx2_2 := x2.at 2 rfl; have cr0_2 := r2.at 0 rfl; have cr1_2 := r2.at 1 rfl; have zt0_2 := t2.frozen 0; have zt1_2 := t2.frozen 1; have zr0_2 := r2.frozen 0; have zr1_2 := r2.frozen 1))
    have rr := (r2.set 0 (.slice none 0 0)).set 1 (.slice none 0 0)
    have k0 := rr.at 0 rfl; have k1 := rr.at 1 rfl
    refine bodyPost_ret (by simp [results, Try.results17, go_sem, k0, k1]; rfl) rfl ?_
    rw [hD.out]
    refine ⟨_, _, rfl, ?_, ?_, Below.setCell (p := ⟨w.heap.size + 1 + 1, 1, none⟩) (Below.setCell (p := ⟨w.heap.size + 1 + 1, 0, none⟩) hT2 (by simp only; omega) _) (by simp only; omega) _⟩
    · exact Own.nil
    · exact Own.nil

set_option maxRecDepth 100000 in
set_option maxHeartbeats 6400000 in
theorem dend_ff (w : World) (rv av : Value) (R : List Brn) (A : List Asc) (x : Xid) (se : Int) (hR : Slc brEnc 7 w rv R) (hA : Slc ascEnc 5 w av A) (hLR : R.length ≤ 1000000) (hLA : A.length ≤ 1000000) (htm : ∀ b ∈ R, 0 ≤ b.tm) (hse : se ≠ 0) (hm0 : mayB R A true x = 0) :
    Calls Try.prog 17 #[.agg #[rv, av], .int .u64 se, .agg #[.int .u32 x.1, .string x.2.1, .string x.2.2], .bool false, .bool false] w (TabPost w (overB 0 (endD R A se x false false))) := by
  obtain ⟨ra, rc, rfl, -⟩ := hR.len
  obtain ⟨aa, ac, rfl, -⟩ := hA.len
  obtain ⟨xf, xg, xb⟩ := x
  have hT0 : Below w.heap.size w (((w.alloc (.cells #[.slice ra R.length rc, .slice aa A.length ac] 25)).alloc (.cells #[.int .u32 xf, .string xg, .string xb] 28)).alloc (.cells #[.slice none 0 0, .slice none 0 0] 25)) := ((((Below.refl w.heap.size w).alloc (Nat.le_refl _) _).alloc (by simp) _).alloc (by simp; omega) _)
  have hW0 : w.heap.size + 3 ≤ (((w.alloc (.cells #[.slice ra R.length rc, .slice aa A.length ac] 25)).alloc (.cells #[.int .u32 xf, .string xg, .string xb] 28)).alloc (.cells #[.slice none 0 0, .slice none 0 0] 25)).heap.size := by simp
  have t0 : Blk (((w.alloc (.cells #[.slice ra R.length rc, .slice aa A.length ac] 25)).alloc (.cells #[.int .u32 xf, .string xg, .string xb] 28)).alloc (.cells #[.slice none 0 0, .slice none 0 0] 25)) (w.heap.size) [.slice ra R.length rc, .slice aa A.length ac] := (((Blk.newAt2 w [.slice ra R.length rc, .slice aa A.length ac] 25 (w.heap.size) (by simp)).alloc (.cells #[.int .u32 xf, .string xg, .string xb] 28)).alloc (.cells #[.slice none 0 0, .slice none 0 0] 25))
  have x0 : Blk (((w.alloc (.cells #[.slice ra R.length rc, .slice aa A.length ac] 25)).alloc (.cells #[.int .u32 xf, .string xg, .string xb] 28)).alloc (.cells #[.slice none 0 0, .slice none 0 0] 25)) (w.heap.size + 1) [.int .u32 xf, .string xg, .string xb] := ((Blk.newAt2 (w.alloc (.cells #[.slice ra R.length rc, .slice aa A.length ac] 25)) [.int .u32 xf, .string xg, .string xb] 28 (w.heap.size + 1) (by simp)).alloc (.cells #[.slice none 0 0, .slice none 0 0] 25))
  have r0 : Blk (((w.alloc (.cells #[.slice ra R.length rc, .slice aa A.length ac] 25)).alloc (.cells #[.int .u32 xf, .string xg, .string xb] 28)).alloc (.cells #[.slice none 0 0, .slice none 0 0] 25)) (w.heap.size + 1 + 1) [.slice none 0 0, .slice none 0 0] := (Blk.newAt2 ((w.alloc (.cells #[.slice ra R.length rc, .slice aa A.length ac] 25)).alloc (.cells #[.int .u32 xf, .string xg, .string xb] 28)) [.slice none 0 0, .slice none 0 0] 25 (w.heap.size + 1 + 1) (by simp))
  have ct0_0 := t0.at 0 rfl
  have ct1_0 := t0.at 1 rfl
  have cx0_0 := x0.at 0 rfl
  have cx1_0 := x0.at 1 rfl
  have cx2_0 := x0.at 2 rfl
  have cr0_0 := r0.at 0 rfl
  have cr1_0 := r0.at 1 rfl
  have zt0_0 := t0.frozen 0
  have zt1_0 := t0.frozen 1
  have zr0_0 := r0.frozen 0
  have zr1_0 := r0.frozen 1
  have HR0 := hR.pure hT0; have HA0 := hA.pure hT0
  have hmay : Hid (mayB R A (!false) (xf, xg, xb) = 0) := Lib.hid hm0
  obtain ⟨hTab, -, hxok⟩ := mayB_zero hm0
  have hTb := Lib.hid hTab
  have hxk := Lib.hid hxok
  have hris := Lib.hid hTab.1.2
  have hria := Lib.hid hTab.2.1.rises
  have hzb : (se == 0) = false := beq_eq_false_iff_ne.2 hse
  have hsz := Lib.hid hse
  clear hm0 hse hTab hxok
  go_enter Try.func17, Try.ntmps17
  go_upto_region 5 with (first | (go_at_call 56; (with_reducible refine (dmay_any _ _ _ R A false (xf, xg, xb) 0 HR0 HA0 hLR hLA htm hmay.out).mono ?_); rintro e w1 ⟨rfl, hB1⟩; have t1 := t0.pure hB1; have x1 := x0.pure hB1; have r1 := r0.pure hB1; have HR1 := HR0.pure hB1; have HA1 := HA0.pure hB1; have hT1 := hT0.trans (hB1.mono hT0.size); have hW1 := Nat.le_trans hW0 hB1.size; clear ct0_0 ct1_0 cx0_0 cx1_0 cx2_0 cr0_0 cr1_0 zt0_0 zt1_0 zr0_0 zr1_0; have ct0_1 := t1.at 0 rfl; have ct1_1 := t1.at 1 rfl; have cx0_1 := x1.at 0 rfl; have cx1_1 := x1.at 1 rfl; have cx2_1 := x1.at 2 rfl) | (go_at_call 12; (with_reducible refine (dcopy_any _ _ _ R A HR1 HA1 hLR hLA).mono ?_); rintro e w2 ⟨rr2, aa2, rfl, hO2, hP2, hB2⟩; obtain ⟨ya, yc, rfl⟩ := own_len hO2; obtain ⟨ua, uc, rfl⟩ := own_len hP2; have OR2 := hO2.rebase (b' := w.heap.size + 3) (fun i hi => Nat.le_trans hW1 (hO2.ge hi)); have OA2 := hP2.rebase (b' := w.heap.size + 3) (fun i hi => Nat.le_trans hW1 (hP2.ge hi)); have t2 := t1.pure hB2; have x2 := x1.pure hB2; have r2 := r1.pure hB2; have hT2 := hT1.trans (hB2.mono hT1.size); have hW2 := Nat.le_trans hW1 hB2.size; clear ct0_1 ct1_1 cx0_1 cx1_1 cx2_1; have ct0_2 := t2.at 0 rfl; have ct1_2 := t2.at 1 rfl; have cx0_2 := x2.at 0 rfl; have cx1_2 := x2.at 1 rfl; have cx2_2 := x2.at 2 rfl; have cr0_2 := r2.at 0 rfl; have cr1_2 := r2.at 1 rfl; have zt0_2 := t2.frozen 0; have zt1_2 := t2.frozen 1; have zr0_2 := r2.frozen 0; have zr1_2 := r2.frozen 1; have ts2 := ((t2.set 0 (.slice ya R.length yc)).set 1 (.slice ua A.length uc)); have xs2 := ((x2.other ⟨w.heap.size, 0, none⟩ (.slice ya R.length yc) (by simp only; omega)).other ⟨w.heap.size, 1, none⟩ (.slice ua A.length uc) (by simp only; omega)); have rs2 := ((r2.other ⟨w.heap.size, 0, none⟩ (.slice ya R.length yc) (by simp only; omega)).other ⟨w.heap.size, 1, none⟩ (.slice ua A.length uc) (by simp only; omega)); have ORs2 := ((OR2.oth (w.heap.size) 0 (.slice ya R.length yc) (by omega)).oth (w.heap.size) 1 (.slice ua A.length uc) (by omega)); have OAs2 := ((OA2.oth (w.heap.size) 0 (.slice ya R.length yc) (by omega)).oth (w.heap.size) 1 (.slice ua A.length uc) (by omega)); have hTs2 := (Below.setCell (p := ⟨w.heap.size, 1, none⟩) (Below.setCell (p := ⟨w.heap.size, 0, none⟩) hT2 (by simp only; omega) (.slice ya R.length yc)) (by simp only; omega) (.slice ua A.length uc)); have hWs2 := (Nat.le_trans (Nat.le_trans hW2 (Upd.set (S := fun _ => True) (p := ⟨w.heap.size, 0, none⟩) trivial (.slice ya R.length yc)).size) (Upd.set (S := fun _ => True) (p := ⟨w.heap.size, 1, none⟩) trivial (.slice ua A.length uc)).size); have HRs2 := ORs2.slc brEnc_len; have HAs2 := OAs2.slc ascEnc_len; have ct0_s2 := ts2.at 0 rfl; have ct1_s2 := ts2.at 1 rfl; have cx0_s2 := xs2.at 0 rfl; have cx1_s2 := xs2.at 1 rfl; have cx2_s2 := xs2.at 2 rfl; have cr0_s2 := rs2.at 0 rfl; have cr1_s2 := rs2.at 1 rfl; have zt0_s2 := ts2.frozen 0; have zt1_s2 := ts2.frozen 1; have zr0_s2 := rs2.frozen 0; have zr1_s2 := rs2.frozen 1))
  have hF0 : endD R A se (xf, xg, xb) false false = endD R A se (xf, xg, xb) false false := rfl
  conv at hF0 => rhs; unfold endD
  rcases Classical.em (MemB R (xf, xg, xb)) with hm | hm
  rotate_left 1
  · have hn := Lib.hid hm
    rw [idxB_no hm] at hF0
    have hD : Hid (overB 0 (endD R A se (xf, xg, xb) false false) = errR 7) := Lib.hid (by unfold overB; rw [if_pos rfl, hF0])
    clear hF0 hm
    go_wp2_with (first | (go_at_call 19; (with_reducible refine (dat_no _ _ _ R A (xf, xg, xb) HRs2 HAs2 hn.out).mono ?_); rintro e w3 ⟨rfl, hB3⟩; have t3 := ts2.pure hB3; have x3 := xs2.pure hB3; have r3 := rs2.pure hB3; have HR3 := HRs2.pure hB3; have HA3 := HAs2.pure hB3; have OR3 := ORs2.pure hB3; have OA3 := OAs2.pure hB3; have hT3 := hTs2.trans (hB3.mono hTs2.size); have hW3 := Nat.le_trans hWs2 hB3.size; clear ct0_2 ct1_2 cx0_2 cx1_2 cx2_2 cr0_2 cr1_2 zt0_2 zt1_2 zr0_2 zr1_2 ct0_s2 ct1_s2 cx0_s2 cx1_s2 cx2_s2 cr0_s2 cr1_s2 zt0_s2 zt1_s2 zr0_s2 zr1_s2; have ct0_3 := t3.at 0 rfl; have ct1_3 := t3.at 1 rfl; have cx0_3 := x3.at 0 rfl; have cx1_3 := x3.at 1 rfl; have cx2_3 := x3.at 2 rfl) | (go_at_call 57; (with_reducible refine (dno_any _ 7).mono ?_); rintro e w4 ⟨rfl, hB4⟩; have t4 := t3.pure hB4; have x4 := x3.pure hB4; have r4 := r3.pure hB4; have HR4 := HR3.pure hB4; have HA4 := HA3.pure hB4; have OR4 := OR3.pure hB4; have OA4 := OA3.pure hB4; have hT4 := hT3.trans (hB4.mono hT3.size); have hW4 := Nat.le_trans hW3 hB4.size; clear ct0_3 ct1_3 cx0_3 cx1_3 cx2_3; have ct0_4 := t4.at 0 rfl; have ct1_4 := t4.at 1 rfl; have cx0_4 := x4.at 0 rfl; have cx1_4 := x4.at 1 rfl; have cx2_4 := x4.at 2 rfl; have cr0_4 := r4.at 0 rfl; have cr1_4 := r4.at 1 rfl; have zt0_4 := t4.frozen 0; have zt1_4 := t4.frozen 1; have zr0_4 := r4.frozen 0; have zr1_4 := r4.frozen 1))
    have rr := (r4.set 0 (.slice none 0 0)).set 1 (.slice none 0 0)
    have k0 := rr.at 0 rfl; have k1 := rr.at 1 rfl
    refine bodyPost_ret (by simp [results, Try.results17, go_sem, k0, k1]; rfl) rfl ?_
    rw [hD.out]
    refine ⟨_, _, rfl, ?_, ?_, Below.setCell (p := ⟨w.heap.size + 1 + 1, 1, none⟩) (Below.setCell (p := ⟨w.heap.size + 1 + 1, 0, none⟩) hT4 (by simp only; omega) _) (by simp only; omega) _⟩
    · exact Own.nil
    · exact Own.nil
  obtain ⟨k, hk, hkx⟩ := hm
  have hkx' := Lib.hid hkx
  have hk0 : (0 : Int) ≤ (k : Int) := by omega
  have hk1 : (k : Int) < (R.length : Int) := by omega
  have hkd : decide ((k : Int) < 0) = false := decide_eq_false (by omega)
  have hrok := Lib.hid (hTb.out.1.1 _ (List.getElem_mem hk))
  rw [idxB_yes hris.out hk hkx] at hF0
  simp only [getD_at hk] at hF0
  clear hkx
  obtain ⟨g, rfl, hg⟩ := own_at7 ORs2 hk
  have hdis := Lib.hid (fun (i : Nat) (hi : Value.ownBlock (.slice ua A.length uc) = some i) (e : i = g) => own_apart ORs2 OAs2 (by decide) rfl (by rw [hi, e]))
  rcases Classical.em (Mem A se (xf, xg, xb)) with hq | hq
  rotate_left 1
  · have hqn := Lib.hid hq
    rw [idx_no hq] at hF0
    have hD : Hid (overB 0 (endD R A se (xf, xg, xb) false false) = errR 9) := Lib.hid (by unfold overB; rw [if_pos rfl, hF0])
    clear hF0 hq
    go_wp2_with (first | (go_at_call 19; (with_reducible refine (dat_yes _ _ _ R A (xf, xg, xb) k HRs2 HAs2 hris.out hk hkx'.out).mono ?_); rintro e w3 ⟨rfl, hB3⟩; have t3 := ts2.pure hB3; have x3 := xs2.pure hB3; have r3 := rs2.pure hB3; have HR3 := HRs2.pure hB3; have HA3 := HAs2.pure hB3; have OR3 := ORs2.pure hB3; have OA3 := OAs2.pure hB3; have hT3 := hTs2.trans (hB3.mono hTs2.size); have hW3 := Nat.le_trans hWs2 hB3.size; clear ct0_2 ct1_2 cx0_2 cx1_2 cx2_2 cr0_2 cr1_2 zt0_2 zt1_2 zr0_2 zr1_2 ct0_s2 ct1_s2 cx0_s2 cx1_s2 cx2_s2 cr0_s2 cr1_s2 zt0_s2 zt1_s2 zr0_s2 zr1_s2; have ct0_3 := t3.at 0 rfl; have ct1_3 := t3.at 1 rfl; have cx0_3 := x3.at 0 rfl; have cx1_3 := x3.at 1 rfl; have cx2_3 := x3.at 2 rfl; obtain ⟨q0_3, q1_3, q2_3, q3_3, q4_3, q5_3, q6_3⟩ := br_cells HR3 hk; simp only [Nat.zero_add] at q0_3 q1_3 q2_3 q3_3 q4_3 q5_3 q6_3) | (go_at_call 61; (with_reducible refine (rfind_no _ _ A se (xf, xg, xb) HA3 hLA hqn.out).mono ?_); rintro e w4 ⟨rfl, hB4⟩; have t4 := t3.pure hB4; have x4 := x3.pure hB4; have r4 := r3.pure hB4; have HR4 := HR3.pure hB4; have HA4 := HA3.pure hB4; have OR4 := OR3.pure hB4; have OA4 := OA3.pure hB4; have hT4 := hT3.trans (hB4.mono hT3.size); have hW4 := Nat.le_trans hW3 hB4.size; clear ct0_3 ct1_3 cx0_3 cx1_3 cx2_3 q0_3 q1_3 q2_3 q3_3 q4_3 q5_3 q6_3; have ct0_4 := t4.at 0 rfl; have ct1_4 := t4.at 1 rfl; have cx0_4 := x4.at 0 rfl; have cx1_4 := x4.at 1 rfl; have cx2_4 := x4.at 2 rfl; obtain ⟨q0_4, q1_4, q2_4, q3_4, q4_4, q5_4, q6_4⟩ := br_cells HR4 hk; simp only [Nat.zero_add] at q0_4 q1_4 q2_4 q3_4 q4_4 q5_4 q6_4) | (go_at_call 57; (with_reducible refine (dno_any _ 9).mono ?_); rintro e w5 ⟨rfl, hB5⟩; have t5 := t4.pure hB5; have x5 := x4.pure hB5; have r5 := r4.pure hB5; have HR5 := HR4.pure hB5; have OR5 := OR4.pure hB5; have OA5 := OA4.pure hB5; have hT5 := hT4.trans (hB5.mono hT4.size); clear ct0_4 ct1_4 cx0_4 cx1_4 cx2_4 q0_4 q1_4 q2_4 q3_4 q4_4 q5_4 q6_4; have ct0_5 := t5.at 0 rfl; have ct1_5 := t5.at 1 rfl; have cx0_5 := x5.at 0 rfl; have cx1_5 := x5.at 1 rfl; have cx2_5 := x5.at 2 rfl; have cr0_5 := r5.at 0 rfl; have cr1_5 := r5.at 1 rfl; have zt0_5 := t5.frozen 0; have zt1_5 := t5.frozen 1; have zr0_5 := r5.frozen 0; have zr1_5 := r5.frozen 1; obtain ⟨q0_5, q1_5, q2_5, q3_5, q4_5, q5_5, q6_5⟩ := br_cells HR5 hk; simp only [Nat.zero_add] at q0_5 q1_5 q2_5 q3_5 q4_5 q5_5 q6_5))
    have rr := (r5.set 0 (.slice none 0 0)).set 1 (.slice none 0 0)
    have k0 := rr.at 0 rfl; have k1 := rr.at 1 rfl
    refine bodyPost_ret (by simp [results, Try.results17, go_sem, k0, k1]; rfl) rfl ?_
    rw [hD.out]
    refine ⟨_, _, rfl, ?_, ?_, Below.setCell (p := ⟨w.heap.size + 1 + 1, 1, none⟩) (Below.setCell (p := ⟨w.heap.size + 1 + 1, 0, none⟩) hT5 (by simp only; omega) _) (by simp only; omega) _⟩
    · exact Own.nil
    · exact Own.nil
  obtain ⟨i, hi, hie0⟩ := hq
  have hie := Lib.hid hie0
  have hid : decide ((i : Int) < 0) = false := decide_eq_false (by omega)
  have hi0 : (0 : Int) ≤ (i : Int) := by omega
  have hi1 : (i : Int) < (A.length : Int) := by omega
  rw [idx_yes hria.out hi hie0] at hF0
  simp only [getA_at hi] at hF0
  obtain ⟨L2, hL2⟩ := end_there hTb.out.2.1 hsz.out hxk.out hi hie0
  have hen := Lib.hid hL2
  rw [if_neg (by simp), if_neg (by simp)] at hF0
  rw [if_neg (by simp), hL2] at hF0
  have hD : Hid (overB 0 (endD R A se (xf, xg, xb) false false) = (R, L2, R[k].why, 0)) := Lib.hid (by unfold overB; rw [if_pos rfl, hF0])
  clear hF0 hie0 hL2
  by_cases hw : R[k].why = 0
  · have hwb : (R[k].why == 0) = true := by rw [hw]; rfl
    clear hw
    go_wp2_with (first | (go_at_call 19; (with_reducible refine (dat_yes _ _ _ R A (xf, xg, xb) k HRs2 HAs2 hris.out hk hkx'.out).mono ?_); rintro e w3 ⟨rfl, hB3⟩; have t3 := ts2.pure hB3; have x3 := xs2.pure hB3; have r3 := rs2.pure hB3; have HR3 := HRs2.pure hB3; have HA3 := HAs2.pure hB3; have OR3 := ORs2.pure hB3; have OA3 := OAs2.pure hB3; have hT3 := hTs2.trans (hB3.mono hTs2.size); have hW3 := Nat.le_trans hWs2 hB3.size; clear ct0_2 ct1_2 cx0_2 cx1_2 cx2_2 cr0_2 cr1_2 zt0_2 zt1_2 zr0_2 zr1_2 ct0_s2 ct1_s2 cx0_s2 cx1_s2 cx2_s2 cr0_s2 cr1_s2 zt0_s2 zt1_s2 zr0_s2 zr1_s2; have ct0_3 := t3.at 0 rfl; have ct1_3 := t3.at 1 rfl; have cx0_3 := x3.at 0 rfl; have cx1_3 := x3.at 1 rfl; have cx2_3 := x3.at 2 rfl; obtain ⟨q0_3, q1_3, q2_3, q3_3, q4_3, q5_3, q6_3⟩ := br_cells HR3 hk; simp only [Nat.zero_add] at q0_3 q1_3 q2_3 q3_3 q4_3 q5_3 q6_3) | (go_at_call 61; (with_reducible refine (rfind_yes _ _ A se (xf, xg, xb) i HA3 hria.out hLA hi hie.out).mono ?_); rintro e w4 ⟨rfl, hB4⟩; have t4 := t3.pure hB4; have x4 := x3.pure hB4; have r4 := r3.pure hB4; have HR4 := HR3.pure hB4; have HA4 := HA3.pure hB4; have OR4 := OR3.pure hB4; have OA4 := OA3.pure hB4; have hT4 := hT3.trans (hB4.mono hT3.size); have hW4 := Nat.le_trans hW3 hB4.size; clear ct0_3 ct1_3 cx0_3 cx1_3 cx2_3 q0_3 q1_3 q2_3 q3_3 q4_3 q5_3 q6_3; have ct0_4 := t4.at 0 rfl; have ct1_4 := t4.at 1 rfl; have cx0_4 := x4.at 0 rfl; have cx1_4 := x4.at 1 rfl; have cx2_4 := x4.at 2 rfl; obtain ⟨q0_4, q1_4, q2_4, q3_4, q4_4, q5_4, q6_4⟩ := br_cells HR4 hk; simp only [Nat.zero_add] at q0_4 q1_4 q2_4 q3_4 q4_4 q5_4 q6_4) | (go_at_call 70; (with_reducible refine (rend2 _ _ A se (xf, xg, xb) L2 HA4 hLA hen.out).mono ?_); rintro e w5 ⟨r5, rfl, hN5, hB5⟩; obtain ⟨sa, sn, sc, rfl⟩ := hN5.shape3; have t5 := t4.pure hB5; have x5 := x4.pure hB5; have r5 := r4.pure hB5; have HR5 := HR4.pure hB5; have OR5 := OR4.pure hB5; have hT5 := hT4.trans (hB5.mono hT4.size); clear ct0_4 ct1_4 cx0_4 cx1_4 cx2_4 q0_4 q1_4 q2_4 q3_4 q4_4 q5_4 q6_4; have ct0_5 := t5.at 0 rfl; have ct1_5 := t5.at 1 rfl; have cx0_5 := x5.at 0 rfl; have cx1_5 := x5.at 1 rfl; have cx2_5 := x5.at 2 rfl; have cr0_5 := r5.at 0 rfl; have cr1_5 := r5.at 1 rfl; have zt0_5 := t5.frozen 0; have zt1_5 := t5.frozen 1; have zr0_5 := r5.frozen 0; have zr1_5 := r5.frozen 1; obtain ⟨q0_5, q1_5, q2_5, q3_5, q4_5, q5_5, q6_5⟩ := br_cells HR5 hk; simp only [Nat.zero_add] at q0_5 q1_5 q2_5 q3_5 q4_5 q5_5 q6_5; have OA5 := hN5.rebase (b' := w.heap.size + 3) (fun i hi => Nat.le_trans hW4 (hN5.ge hi)); have ts5 := (t5.set 1 (.slice sa sn sc)); have xs5 := (x5.other ⟨w.heap.size, 1, none⟩ (.slice sa sn sc) (by simp only; omega)); have rs5 := (r5.other ⟨w.heap.size, 1, none⟩ (.slice sa sn sc) (by simp only; omega)); have ORs5 := (OR5.oth (w.heap.size) 1 (.slice sa sn sc) (by omega)); have OAs5 := (OA5.oth (w.heap.size) 1 (.slice sa sn sc) (by omega)); have hTs5 := (Below.setCell (p := ⟨w.heap.size, 1, none⟩) hT5 (by simp only; omega) (.slice sa sn sc)); have HRs5 := ORs5.slc brEnc_len; have ct0_s5 := ts5.at 0 rfl; have ct1_s5 := ts5.at 1 rfl; have cx0_s5 := xs5.at 0 rfl; have cx1_s5 := xs5.at 1 rfl; have cx2_s5 := xs5.at 2 rfl; have cr0_s5 := rs5.at 0 rfl; have cr1_s5 := rs5.at 1 rfl; have zt0_s5 := ts5.frozen 0; have zt1_s5 := ts5.frozen 1; have zr0_s5 := rs5.frozen 0; have zr1_s5 := rs5.frozen 1; obtain ⟨q0_s5, q1_s5, q2_s5, q3_s5, q4_s5, q5_s5, q6_s5⟩ := br_cells HRs5 hk; simp only [Nat.zero_add] at q0_s5 q1_s5 q2_s5 q3_s5 q4_s5 q5_s5 q6_s5; have hdis := Lib.hid (fun (i : Nat) (hi : Value.ownBlock (.slice sa sn sc) = some i) (e : i = g) => own_apart ORs5 OAs5 (by decide) rfl (by rw [hi, e]))))
    have rr := (rs5.set 0 (.slice (some ⟨g, 0, none⟩) R.length yc)).set 1 (.slice sa sn sc)
    have k0 := rr.at 0 rfl; have k1 := rr.at 1 rfl
    refine bodyPost_ret (by simp [results, Try.results17, go_sem, k0, k1]; rfl) rfl ?_
    rw [hD.out]
    refine ⟨_, _, rfl, ?_, ?_, Below.setCell (p := ⟨w.heap.size + 1 + 1, 1, none⟩) (Below.setCell (p := ⟨w.heap.size + 1 + 1, 0, none⟩) hTs5 (by simp only; omega) _) (by simp only; omega) _⟩
    · exact ((ORs5.oth _ _ _ (by omega)).oth _ _ _ (by omega)).rebase (fun i hi => by have h1 := ORs5.ge hi; omega)
    · exact ((OAs5.oth _ _ _ (by omega)).oth _ _ _ (by omega)).rebase (fun i hi => by have h1 := OAs5.ge hi; omega)
  · have hwb : (R[k].why == 0) = false := beq_eq_false_iff_ne.2 hw
    clear hw
    go_wp2_with (first | (go_at_call 19; (with_reducible refine (dat_yes _ _ _ R A (xf, xg, xb) k HRs2 HAs2 hris.out hk hkx'.out).mono ?_); rintro e w3 ⟨rfl, hB3⟩; have t3 := ts2.pure hB3; have x3 := xs2.pure hB3; have r3 := rs2.pure hB3; have HR3 := HRs2.pure hB3; have HA3 := HAs2.pure hB3; have OR3 := ORs2.pure hB3; have OA3 := OAs2.pure hB3; have hT3 := hTs2.trans (hB3.mono hTs2.size); have hW3 := Nat.le_trans hWs2 hB3.size; clear ct0_2 ct1_2 cx0_2 cx1_2 cx2_2 cr0_2 cr1_2 zt0_2 zt1_2 zr0_2 zr1_2 ct0_s2 ct1_s2 cx0_s2 cx1_s2 cx2_s2 cr0_s2 cr1_s2 zt0_s2 zt1_s2 zr0_s2 zr1_s2; have ct0_3 := t3.at 0 rfl; have ct1_3 := t3.at 1 rfl; have cx0_3 := x3.at 0 rfl; have cx1_3 := x3.at 1 rfl; have cx2_3 := x3.at 2 rfl; obtain ⟨q0_3, q1_3, q2_3, q3_3, q4_3, q5_3, q6_3⟩ := br_cells HR3 hk; simp only [Nat.zero_add] at q0_3 q1_3 q2_3 q3_3 q4_3 q5_3 q6_3) | (go_at_call 61; (with_reducible refine (rfind_yes _ _ A se (xf, xg, xb) i HA3 hria.out hLA hi hie.out).mono ?_); rintro e w4 ⟨rfl, hB4⟩; have t4 := t3.pure hB4; have x4 := x3.pure hB4; have r4 := r3.pure hB4; have HR4 := HR3.pure hB4; have HA4 := HA3.pure hB4; have OR4 := OR3.pure hB4; have OA4 := OA3.pure hB4; have hT4 := hT3.trans (hB4.mono hT3.size); have hW4 := Nat.le_trans hW3 hB4.size; clear ct0_3 ct1_3 cx0_3 cx1_3 cx2_3 q0_3 q1_3 q2_3 q3_3 q4_3 q5_3 q6_3; have ct0_4 := t4.at 0 rfl; have ct1_4 := t4.at 1 rfl; have cx0_4 := x4.at 0 rfl; have cx1_4 := x4.at 1 rfl; have cx2_4 := x4.at 2 rfl; obtain ⟨q0_4, q1_4, q2_4, q3_4, q4_4, q5_4, q6_4⟩ := br_cells HR4 hk; simp only [Nat.zero_add] at q0_4 q1_4 q2_4 q3_4 q4_4 q5_4 q6_4) | (go_at_call 70; (with_reducible refine (rend2 _ _ A se (xf, xg, xb) L2 HA4 hLA hen.out).mono ?_); rintro e w5 ⟨r5, rfl, hN5, hB5⟩; obtain ⟨sa, sn, sc, rfl⟩ := hN5.shape3; have t5 := t4.pure hB5; have x5 := x4.pure hB5; have r5 := r4.pure hB5; have HR5 := HR4.pure hB5; have OR5 := OR4.pure hB5; have hT5 := hT4.trans (hB5.mono hT4.size); clear ct0_4 ct1_4 cx0_4 cx1_4 cx2_4 q0_4 q1_4 q2_4 q3_4 q4_4 q5_4 q6_4; have ct0_5 := t5.at 0 rfl; have ct1_5 := t5.at 1 rfl; have cx0_5 := x5.at 0 rfl; have cx1_5 := x5.at 1 rfl; have cx2_5 := x5.at 2 rfl; have cr0_5 := r5.at 0 rfl; have cr1_5 := r5.at 1 rfl; have zt0_5 := t5.frozen 0; have zt1_5 := t5.frozen 1; have zr0_5 := r5.frozen 0; have zr1_5 := r5.frozen 1; obtain ⟨q0_5, q1_5, q2_5, q3_5, q4_5, q5_5, q6_5⟩ := br_cells HR5 hk; simp only [Nat.zero_add] at q0_5 q1_5 q2_5 q3_5 q4_5 q5_5 q6_5; have OA5 := hN5.rebase (b' := w.heap.size + 3) (fun i hi => Nat.le_trans hW4 (hN5.ge hi)); have ts5 := (t5.set 1 (.slice sa sn sc)); have xs5 := (x5.other ⟨w.heap.size, 1, none⟩ (.slice sa sn sc) (by simp only; omega)); have rs5 := (r5.other ⟨w.heap.size, 1, none⟩ (.slice sa sn sc) (by simp only; omega)); have ORs5 := (OR5.oth (w.heap.size) 1 (.slice sa sn sc) (by omega)); have OAs5 := (OA5.oth (w.heap.size) 1 (.slice sa sn sc) (by omega)); have hTs5 := (Below.setCell (p := ⟨w.heap.size, 1, none⟩) hT5 (by simp only; omega) (.slice sa sn sc)); have HRs5 := ORs5.slc brEnc_len; have ct0_s5 := ts5.at 0 rfl; have ct1_s5 := ts5.at 1 rfl; have cx0_s5 := xs5.at 0 rfl; have cx1_s5 := xs5.at 1 rfl; have cx2_s5 := xs5.at 2 rfl; have cr0_s5 := rs5.at 0 rfl; have cr1_s5 := rs5.at 1 rfl; have zt0_s5 := ts5.frozen 0; have zt1_s5 := ts5.frozen 1; have zr0_s5 := rs5.frozen 0; have zr1_s5 := rs5.frozen 1; obtain ⟨q0_s5, q1_s5, q2_s5, q3_s5, q4_s5, q5_s5, q6_s5⟩ := br_cells HRs5 hk; simp only [Nat.zero_add] at q0_s5 q1_s5 q2_s5 q3_s5 q4_s5 q5_s5 q6_s5; have hdis := Lib.hid (fun (i : Nat) (hi : Value.ownBlock (.slice sa sn sc) = some i) (e : i = g) => own_apart ORs5 OAs5 (by decide) rfl (by rw [hi, e]))))
    have rr := (rs5.set 0 (.slice (some ⟨g, 0, none⟩) R.length yc)).set 1 (.slice sa sn sc)
    have k0 := rr.at 0 rfl; have k1 := rr.at 1 rfl
    refine bodyPost_ret (by simp [results, Try.results17, go_sem, k0, k1]; rfl) rfl ?_
    rw [hD.out]
    refine ⟨_, _, rfl, ?_, ?_, Below.setCell (p := ⟨w.heap.size + 1 + 1, 1, none⟩) (Below.setCell (p := ⟨w.heap.size + 1 + 1, 0, none⟩) hTs5 (by simp only; omega) _) (by simp only; omega) _⟩
    · exact ((ORs5.oth _ _ _ (by omega)).oth _ _ _ (by omega)).rebase (fun i hi => by have h1 := ORs5.ge hi; omega)
    · exact ((OAs5.oth _ _ _ (by omega)).oth _ _ _ (by omega)).rebase (fun i hi => by have h1 := OAs5.ge hi; omega)

set_option maxRecDepth 100000 in
set_option maxHeartbeats 6400000 in
theorem dend_ft (w : World) (rv av : Value) (R : List Brn) (A : List Asc) (x : Xid) (se : Int) (hR : Slc brEnc 7 w rv R) (hA : Slc ascEnc 5 w av A) (hLR : R.length ≤ 1000000) (hLA : A.length ≤ 1000000) (htm : ∀ b ∈ R, 0 ≤ b.tm) (hse : se ≠ 0) (hm0 : mayB R A true x = 0) :
    Calls Try.prog 17 #[.agg #[rv, av], .int .u64 se, .agg #[.int .u32 x.1, .string x.2.1, .string x.2.2], .bool false, .bool true] w (TabPost w (overB 0 (endD R A se x false true))) := by
  obtain ⟨ra, rc, rfl, -⟩ := hR.len
  obtain ⟨aa, ac, rfl, -⟩ := hA.len
  obtain ⟨xf, xg, xb⟩ := x
  have hT0 : Below w.heap.size w (((w.alloc (.cells #[.slice ra R.length rc, .slice aa A.length ac] 25)).alloc (.cells #[.int .u32 xf, .string xg, .string xb] 28)).alloc (.cells #[.slice none 0 0, .slice none 0 0] 25)) := ((((Below.refl w.heap.size w).alloc (Nat.le_refl _) _).alloc (by simp) _).alloc (by simp; omega) _)
  have hW0 : w.heap.size + 3 ≤ (((w.alloc (.cells #[.slice ra R.length rc, .slice aa A.length ac] 25)).alloc (.cells #[.int .u32 xf, .string xg, .string xb] 28)).alloc (.cells #[.slice none 0 0, .slice none 0 0] 25)).heap.size := by simp
  have t0 : Blk (((w.alloc (.cells #[.slice ra R.length rc, .slice aa A.length ac] 25)).alloc (.cells #[.int .u32 xf, .string xg, .string xb] 28)).alloc (.cells #[.slice none 0 0, .slice none 0 0] 25)) (w.heap.size) [.slice ra R.length rc, .slice aa A.length ac] := (((Blk.newAt2 w [.slice ra R.length rc, .slice aa A.length ac] 25 (w.heap.size) (by simp)).alloc (.cells #[.int .u32 xf, .string xg, .string xb] 28)).alloc (.cells #[.slice none 0 0, .slice none 0 0] 25))
  have x0 : Blk (((w.alloc (.cells #[.slice ra R.length rc, .slice aa A.length ac] 25)).alloc (.cells #[.int .u32 xf, .string xg, .string xb] 28)).alloc (.cells #[.slice none 0 0, .slice none 0 0] 25)) (w.heap.size + 1) [.int .u32 xf, .string xg, .string xb] := ((Blk.newAt2 (w.alloc (.cells #[.slice ra R.length rc, .slice aa A.length ac] 25)) [.int .u32 xf, .string xg, .string xb] 28 (w.heap.size + 1) (by simp)).alloc (.cells #[.slice none 0 0, .slice none 0 0] 25))
  have r0 : Blk (((w.alloc (.cells #[.slice ra R.length rc, .slice aa A.length ac] 25)).alloc (.cells #[.int .u32 xf, .string xg, .string xb] 28)).alloc (.cells #[.slice none 0 0, .slice none 0 0] 25)) (w.heap.size + 1 + 1) [.slice none 0 0, .slice none 0 0] := (Blk.newAt2 ((w.alloc (.cells #[.slice ra R.length rc, .slice aa A.length ac] 25)).alloc (.cells #[.int .u32 xf, .string xg, .string xb] 28)) [.slice none 0 0, .slice none 0 0] 25 (w.heap.size + 1 + 1) (by simp))
  have ct0_0 := t0.at 0 rfl
  have ct1_0 := t0.at 1 rfl
  have cx0_0 := x0.at 0 rfl
  have cx1_0 := x0.at 1 rfl
  have cx2_0 := x0.at 2 rfl
  have cr0_0 := r0.at 0 rfl
  have cr1_0 := r0.at 1 rfl
  have zt0_0 := t0.frozen 0
  have zt1_0 := t0.frozen 1
  have zr0_0 := r0.frozen 0
  have zr1_0 := r0.frozen 1
  have HR0 := hR.pure hT0; have HA0 := hA.pure hT0
  have hmay : Hid (mayB R A (!false) (xf, xg, xb) = 0) := Lib.hid hm0
  obtain ⟨hTab, -, hxok⟩ := mayB_zero hm0
  have hTb := Lib.hid hTab
  have hxk := Lib.hid hxok
  have hris := Lib.hid hTab.1.2
  have hria := Lib.hid hTab.2.1.rises
  have hzb : (se == 0) = false := beq_eq_false_iff_ne.2 hse
  have hsz := Lib.hid hse
  clear hm0 hse hTab hxok
  go_enter Try.func17, Try.ntmps17
  go_upto_region 5 with (first | (go_at_call 56; (with_reducible refine (dmay_any _ _ _ R A false (xf, xg, xb) 0 HR0 HA0 hLR hLA htm hmay.out).mono ?_); rintro e w1 ⟨rfl, hB1⟩; have t1 := t0.pure hB1; have x1 := x0.pure hB1; have r1 := r0.pure hB1; have HR1 := HR0.pure hB1; have HA1 := HA0.pure hB1; have hT1 := hT0.trans (hB1.mono hT0.size); have hW1 := Nat.le_trans hW0 hB1.size; clear ct0_0 ct1_0 cx0_0 cx1_0 cx2_0 cr0_0 cr1_0 zt0_0 zt1_0 zr0_0 zr1_0; have ct0_1 := t1.at 0 rfl; have ct1_1 := t1.at 1 rfl; have cx0_1 := x1.at 0 rfl; have cx1_1 := x1.at 1 rfl; have cx2_1 := x1.at 2 rfl) | (go_at_call 12; (with_reducible refine (dcopy_any _ _ _ R A HR1 HA1 hLR hLA).mono ?_); rintro e w2 ⟨rr2, aa2, rfl, hO2, hP2, hB2⟩; obtain ⟨ya, yc, rfl⟩ := own_len hO2; obtain ⟨ua, uc, rfl⟩ := own_len hP2; have OR2 := hO2.rebase (b' := w.heap.size + 3) (fun i hi => Nat.le_trans hW1 (hO2.ge hi)); have OA2 := hP2.rebase (b' := w.heap.size + 3) (fun i hi => Nat.le_trans hW1 (hP2.ge hi)); have t2 := t1.pure hB2; have x2 := x1.pure hB2; have r2 := r1.pure hB2; have hT2 := hT1.trans (hB2.mono hT1.size); have hW2 := Nat.le_trans hW1 hB2.size; clear ct0_1 ct1_1 cx0_1 cx1_1 cx2_1; have ct0_2 := t2.at 0 rfl; have ct1_2 := t2.at 1 rfl; have cx0_2 := x2.at 0 rfl; have cx1_2 := x2.at 1 rfl; have cx2_2 := x2.at 2 rfl; have cr0_2 := r2.at 0 rfl; have cr1_2 := r2.at 1 rfl; have zt0_2 := t2.frozen 0; have zt1_2 := t2.frozen 1; have zr0_2 := r2.frozen 0; have zr1_2 := r2.frozen 1; have ts2 := ((t2.set 0 (.slice ya R.length yc)).set 1 (.slice ua A.length uc)); have xs2 := ((x2.other ⟨w.heap.size, 0, none⟩ (.slice ya R.length yc) (by simp only; omega)).other ⟨w.heap.size, 1, none⟩ (.slice ua A.length uc) (by simp only; omega)); have rs2 := ((r2.other ⟨w.heap.size, 0, none⟩ (.slice ya R.length yc) (by simp only; omega)).other ⟨w.heap.size, 1, none⟩ (.slice ua A.length uc) (by simp only; omega)); have ORs2 := ((OR2.oth (w.heap.size) 0 (.slice ya R.length yc) (by omega)).oth (w.heap.size) 1 (.slice ua A.length uc) (by omega)); have OAs2 := ((OA2.oth (w.heap.size) 0 (.slice ya R.length yc) (by omega)).oth (w.heap.size) 1 (.slice ua A.length uc) (by omega)); have hTs2 := (Below.setCell (p := ⟨w.heap.size, 1, none⟩) (Below.setCell (p := ⟨w.heap.size, 0, none⟩) hT2 (by simp only; omega) (.slice ya R.length yc)) (by simp only; omega) (.slice ua A.length uc)); have hWs2 := (Nat.le_trans (Nat.le_trans hW2 (Upd.set (S := fun _ => True) (p := ⟨w.heap.size, 0, none⟩) trivial (.slice ya R.length yc)).size) (Upd.set (S := fun _ => True) (p := ⟨w.heap.size, 1, none⟩) trivial (.slice ua A.length uc)).size); have HRs2 := ORs2.slc brEnc_len; have HAs2 := OAs2.slc ascEnc_len; have ct0_s2 := ts2.at 0 rfl; have ct1_s2 := ts2.at 1 rfl; have cx0_s2 := xs2.at 0 rfl; have cx1_s2 := xs2.at 1 rfl; have cx2_s2 := xs2.at 2 rfl; have cr0_s2 := rs2.at 0 rfl; have cr1_s2 := rs2.at 1 rfl; have zt0_s2 := ts2.frozen 0; have zt1_s2 := ts2.frozen 1; have zr0_s2 := rs2.frozen 0; have zr1_s2 := rs2.frozen 1))
  have hF0 : endD R A se (xf, xg, xb) false true = endD R A se (xf, xg, xb) false true := rfl
  conv at hF0 => rhs; unfold endD
  rcases Classical.em (MemB R (xf, xg, xb)) with hm | hm
  rotate_left 1
  · have hn := Lib.hid hm
    rw [idxB_no hm] at hF0
    have hD : Hid (overB 0 (endD R A se (xf, xg, xb) false true) = errR 7) := Lib.hid (by unfold overB; rw [if_pos rfl, hF0])
    clear hF0 hm
    go_wp2_with (first | (go_at_call 19; (with_reducible refine (dat_no _ _ _ R A (xf, xg, xb) HRs2 HAs2 hn.out).mono ?_); rintro e w3 ⟨rfl, hB3⟩; have t3 := ts2.pure hB3; have x3 := xs2.pure hB3; have r3 := rs2.pure hB3; have HR3 := HRs2.pure hB3; have HA3 := HAs2.pure hB3; have OR3 := ORs2.pure hB3; have OA3 := OAs2.pure hB3; have hT3 := hTs2.trans (hB3.mono hTs2.size); have hW3 := Nat.le_trans hWs2 hB3.size; clear ct0_2 ct1_2 cx0_2 cx1_2 cx2_2 cr0_2 cr1_2 zt0_2 zt1_2 zr0_2 zr1_2 ct0_s2 ct1_s2 cx0_s2 cx1_s2 cx2_s2 cr0_s2 cr1_s2 zt0_s2 zt1_s2 zr0_s2 zr1_s2; have ct0_3 := t3.at 0 rfl; have ct1_3 := t3.at 1 rfl; have cx0_3 := x3.at 0 rfl; have cx1_3 := x3.at 1 rfl; have cx2_3 := x3.at 2 rfl) | (go_at_call 57; (with_reducible refine (dno_any _ 7).mono ?_); rintro e w4 ⟨rfl, hB4⟩; have t4 := t3.pure hB4; have x4 := x3.pure hB4; have r4 := r3.pure hB4; have HR4 := HR3.pure hB4; have HA4 := HA3.pure hB4; have OR4 := OR3.pure hB4; have OA4 := OA3.pure hB4; have hT4 := hT3.trans (hB4.mono hT3.size); have hW4 := Nat.le_trans hW3 hB4.size; clear ct0_3 ct1_3 cx0_3 cx1_3 cx2_3; have ct0_4 := t4.at 0 rfl; have ct1_4 := t4.at 1 rfl; have cx0_4 := x4.at 0 rfl; have cx1_4 := x4.at 1 rfl; have cx2_4 := x4.at 2 rfl; have cr0_4 := r4.at 0 rfl; have cr1_4 := r4.at 1 rfl; have zt0_4 := t4.frozen 0; have zt1_4 := t4.frozen 1; have zr0_4 := r4.frozen 0; have zr1_4 := r4.frozen 1))
    have rr := (r4.set 0 (.slice none 0 0)).set 1 (.slice none 0 0)
    have k0 := rr.at 0 rfl; have k1 := rr.at 1 rfl
    refine bodyPost_ret (by simp [results, Try.results17, go_sem, k0, k1]; rfl) rfl ?_
    rw [hD.out]
    refine ⟨_, _, rfl, ?_, ?_, Below.setCell (p := ⟨w.heap.size + 1 + 1, 1, none⟩) (Below.setCell (p := ⟨w.heap.size + 1 + 1, 0, none⟩) hT4 (by simp only; omega) _) (by simp only; omega) _⟩
    · exact Own.nil
    · exact Own.nil
  obtain ⟨k, hk, hkx⟩ := hm
  have hkx' := Lib.hid hkx
  have hk0 : (0 : Int) ≤ (k : Int) := by omega
  have hk1 : (k : Int) < (R.length : Int) := by omega
  have hkd : decide ((k : Int) < 0) = false := decide_eq_false (by omega)
  have hrok := Lib.hid (hTb.out.1.1 _ (List.getElem_mem hk))
  rw [idxB_yes hris.out hk hkx] at hF0
  simp only [getD_at hk] at hF0
  clear hkx
  obtain ⟨g, rfl, hg⟩ := own_at7 ORs2 hk
  have hdis := Lib.hid (fun (i : Nat) (hi : Value.ownBlock (.slice ua A.length uc) = some i) (e : i = g) => own_apart ORs2 OAs2 (by decide) rfl (by rw [hi, e]))
  rcases Classical.em (Mem A se (xf, xg, xb)) with hq | hq
  rotate_left 1
  · have hqn := Lib.hid hq
    rw [idx_no hq] at hF0
    have hD : Hid (overB 0 (endD R A se (xf, xg, xb) false true) = errR 9) := Lib.hid (by unfold overB; rw [if_pos rfl, hF0])
    clear hF0 hq
    go_wp2_with (first | (go_at_call 19; (with_reducible refine (dat_yes _ _ _ R A (xf, xg, xb) k HRs2 HAs2 hris.out hk hkx'.out).mono ?_); rintro e w3 ⟨rfl, hB3⟩; have t3 := ts2.pure hB3; have x3 := xs2.pure hB3; have r3 := rs2.pure hB3; have HR3 := HRs2.pure hB3; have HA3 := HAs2.pure hB3; have OR3 := ORs2.pure hB3; have OA3 := OAs2.pure hB3; have hT3 := hTs2.trans (hB3.mono hTs2.size); have hW3 := Nat.le_trans hWs2 hB3.size; clear ct0_2 ct1_2 cx0_2 cx1_2 cx2_2 cr0_2 cr1_2 zt0_2 zt1_2 zr0_2 zr1_2 ct0_s2 ct1_s2 cx0_s2 cx1_s2 cx2_s2 cr0_s2 cr1_s2 zt0_s2 zt1_s2 zr0_s2 zr1_s2; have ct0_3 := t3.at 0 rfl; have ct1_3 := t3.at 1 rfl; have cx0_3 := x3.at 0 rfl; have cx1_3 := x3.at 1 rfl; have cx2_3 := x3.at 2 rfl; obtain ⟨q0_3, q1_3, q2_3, q3_3, q4_3, q5_3, q6_3⟩ := br_cells HR3 hk; simp only [Nat.zero_add] at q0_3 q1_3 q2_3 q3_3 q4_3 q5_3 q6_3) | (go_at_call 61; (with_reducible refine (rfind_no _ _ A se (xf, xg, xb) HA3 hLA hqn.out).mono ?_); rintro e w4 ⟨rfl, hB4⟩; have t4 := t3.pure hB4; have x4 := x3.pure hB4; have r4 := r3.pure hB4; have HR4 := HR3.pure hB4; have HA4 := HA3.pure hB4; have OR4 := OR3.pure hB4; have OA4 := OA3.pure hB4; have hT4 := hT3.trans (hB4.mono hT3.size); have hW4 := Nat.le_trans hW3 hB4.size; clear ct0_3 ct1_3 cx0_3 cx1_3 cx2_3 q0_3 q1_3 q2_3 q3_3 q4_3 q5_3 q6_3; have ct0_4 := t4.at 0 rfl; have ct1_4 := t4.at 1 rfl; have cx0_4 := x4.at 0 rfl; have cx1_4 := x4.at 1 rfl; have cx2_4 := x4.at 2 rfl; obtain ⟨q0_4, q1_4, q2_4, q3_4, q4_4, q5_4, q6_4⟩ := br_cells HR4 hk; simp only [Nat.zero_add] at q0_4 q1_4 q2_4 q3_4 q4_4 q5_4 q6_4) | (go_at_call 57; (with_reducible refine (dno_any _ 9).mono ?_); rintro e w5 ⟨rfl, hB5⟩; have t5 := t4.pure hB5; have x5 := x4.pure hB5; have r5 := r4.pure hB5; have HR5 := HR4.pure hB5; have OR5 := OR4.pure hB5; have OA5 := OA4.pure hB5; have hT5 := hT4.trans (hB5.mono hT4.size); clear ct0_4 ct1_4 cx0_4 cx1_4 cx2_4 q0_4 q1_4 q2_4 q3_4 q4_4 q5_4 q6_4; have ct0_5 := t5.at 0 rfl; have ct1_5 := t5.at 1 rfl; have cx0_5 := x5.at 0 rfl; have cx1_5 := x5.at 1 rfl; have cx2_5 := x5.at 2 rfl; have cr0_5 := r5.at 0 rfl; have cr1_5 := r5.at 1 rfl; have zt0_5 := t5.frozen 0; have zt1_5 := t5.frozen 1; have zr0_5 := r5.frozen 0; have zr1_5 := r5.frozen 1; obtain ⟨q0_5, q1_5, q2_5, q3_5, q4_5, q5_5, q6_5⟩ := br_cells HR5 hk; simp only [Nat.zero_add] at q0_5 q1_5 q2_5 q3_5 q4_5 q5_5 q6_5))
    have rr := (r5.set 0 (.slice none 0 0)).set 1 (.slice none 0 0)
    have k0 := rr.at 0 rfl; have k1 := rr.at 1 rfl
    refine bodyPost_ret (by simp [results, Try.results17, go_sem, k0, k1]; rfl) rfl ?_
    rw [hD.out]
    refine ⟨_, _, rfl, ?_, ?_, Below.setCell (p := ⟨w.heap.size + 1 + 1, 1, none⟩) (Below.setCell (p := ⟨w.heap.size + 1 + 1, 0, none⟩) hT5 (by simp only; omega) _) (by simp only; omega) _⟩
    · exact Own.nil
    · exact Own.nil
  obtain ⟨i, hi, hie0⟩ := hq
  have hie := Lib.hid hie0
  have hid : decide ((i : Int) < 0) = false := decide_eq_false (by omega)
  have hi0 : (0 : Int) ≤ (i : Int) := by omega
  have hi1 : (i : Int) < (A.length : Int) := by omega
  rw [idx_yes hria.out hi hie0] at hF0
  simp only [getA_at hi] at hF0
  obtain ⟨L2, hL2⟩ := end_there hTb.out.2.1 hsz.out hxk.out hi hie0
  have hen := Lib.hid hL2
  obtain ⟨ug, rfl, hug⟩ := ownz_at OAs2 hi
  obtain ⟨z, hz⟩ : ∃ z, A[i].2.2 = z := ⟨_, rfl⟩
  have hzz := Lib.hid hz
  cases z
  rotate_left 1
  · have hdum := True.intro
    rw [if_pos ⟨trivial, hz⟩] at hF0
    have hD : Hid (overB 0 (endD R A se (xf, xg, xb) false true) = errR 9) := Lib.hid (by unfold overB; rw [if_pos rfl, hF0])
    clear hF0 hz hie0 hL2
    go_wp2_with (first | (go_at_call 19; (with_reducible refine (dat_yes _ _ _ R A (xf, xg, xb) k HRs2 HAs2 hris.out hk hkx'.out).mono ?_); rintro e w3 ⟨rfl, hB3⟩; have t3 := ts2.pure hB3; have x3 := xs2.pure hB3; have r3 := rs2.pure hB3; have HR3 := HRs2.pure hB3; have HA3 := HAs2.pure hB3; have OR3 := ORs2.pure hB3; have OA3 := OAs2.pure hB3; have hT3 := hTs2.trans (hB3.mono hTs2.size); have hW3 := Nat.le_trans hWs2 hB3.size; clear ct0_2 ct1_2 cx0_2 cx1_2 cx2_2 cr0_2 cr1_2 zt0_2 zt1_2 zr0_2 zr1_2 ct0_s2 ct1_s2 cx0_s2 cx1_s2 cx2_s2 cr0_s2 cr1_s2 zt0_s2 zt1_s2 zr0_s2 zr1_s2; have ct0_3 := t3.at 0 rfl; have ct1_3 := t3.at 1 rfl; have cx0_3 := x3.at 0 rfl; have cx1_3 := x3.at 1 rfl; have cx2_3 := x3.at 2 rfl; obtain ⟨q0_3, q1_3, q2_3, q3_3, q4_3, q5_3, q6_3⟩ := br_cells HR3 hk; simp only [Nat.zero_add] at q0_3 q1_3 q2_3 q3_3 q4_3 q5_3 q6_3) | (go_at_call 61; (with_reducible refine (rfind_yes _ _ A se (xf, xg, xb) i HA3 hria.out hLA hi hie.out).mono ?_); rintro e w4 ⟨rfl, hB4⟩; have t4 := t3.pure hB4; have x4 := x3.pure hB4; have r4 := r3.pure hB4; have HR4 := HR3.pure hB4; have HA4 := HA3.pure hB4; have OR4 := OR3.pure hB4; have OA4 := OA3.pure hB4; have hT4 := hT3.trans (hB4.mono hT3.size); have hW4 := Nat.le_trans hW3 hB4.size; clear ct0_3 ct1_3 cx0_3 cx1_3 cx2_3 q0_3 q1_3 q2_3 q3_3 q4_3 q5_3 q6_3; have ct0_4 := t4.at 0 rfl; have ct1_4 := t4.at 1 rfl; have cx0_4 := x4.at 0 rfl; have cx1_4 := x4.at 1 rfl; have cx2_4 := x4.at 2 rfl; obtain ⟨q0_4, q1_4, q2_4, q3_4, q4_4, q5_4, q6_4⟩ := br_cells HR4 hk; simp only [Nat.zero_add] at q0_4 q1_4 q2_4 q3_4 q4_4 q5_4 q6_4; obtain ⟨-, -, -, -, s4⟩ := asc_cells HA4 hi; simp only [Nat.zero_add] at s4; rw [hzz.out] at s4) | (go_at_call 57; (with_reducible refine (dno_any _ 9).mono ?_); rintro e w5 ⟨rfl, hB5⟩; have t5 := t4.pure hB5; have x5 := x4.pure hB5; have r5 := r4.pure hB5; have HR5 := HR4.pure hB5; have OR5 := OR4.pure hB5; have OA5 := OA4.pure hB5; have hT5 := hT4.trans (hB5.mono hT4.size); clear ct0_4 ct1_4 cx0_4 cx1_4 cx2_4 q0_4 q1_4 q2_4 q3_4 q4_4 q5_4 q6_4; have ct0_5 := t5.at 0 rfl; have ct1_5 := t5.at 1 rfl; have cx0_5 := x5.at 0 rfl; have cx1_5 := x5.at 1 rfl; have cx2_5 := x5.at 2 rfl; have cr0_5 := r5.at 0 rfl; have cr1_5 := r5.at 1 rfl; have zt0_5 := t5.frozen 0; have zt1_5 := t5.frozen 1; have zr0_5 := r5.frozen 0; have zr1_5 := r5.frozen 1; obtain ⟨q0_5, q1_5, q2_5, q3_5, q4_5, q5_5, q6_5⟩ := br_cells HR5 hk; simp only [Nat.zero_add] at q0_5 q1_5 q2_5 q3_5 q4_5 q5_5 q6_5))
    have rr := (r5.set 0 (.slice none 0 0)).set 1 (.slice none 0 0)
    have k0 := rr.at 0 rfl; have k1 := rr.at 1 rfl
    refine bodyPost_ret (by simp [results, Try.results17, go_sem, k0, k1]; rfl) rfl ?_
    rw [hD.out]
    refine ⟨_, _, rfl, ?_, ?_, Below.setCell (p := ⟨w.heap.size + 1 + 1, 1, none⟩) (Below.setCell (p := ⟨w.heap.size + 1 + 1, 0, none⟩) hT5 (by simp only; omega) _) (by simp only; omega) _⟩
    · exact Own.nil
    · exact Own.nil
  rw [if_neg (by rw [hz]; simp)] at hF0
  obtain ⟨L3, hL3⟩ := susp_there hTb.out.2.1 hsz.out hxk.out hi hie0 hz
  have hsu := Lib.hid hL3
  by_cases hw : R[k].why = 0
  · have hwb : (R[k].why == 0) = true := by rw [hw]; rfl
    rw [if_pos ⟨trivial, hw⟩, hL3] at hF0
    have hD : Hid (overB 0 (endD R A se (xf, xg, xb) false true) = (R, L3, 0, 0)) := Lib.hid (by unfold overB; rw [if_pos rfl, hF0])
    clear hF0 hz hie0 hL2 hL3 hw
    go_wp2_with (first | (go_at_call 19; (with_reducible refine (dat_yes _ _ _ R A (xf, xg, xb) k HRs2 HAs2 hris.out hk hkx'.out).mono ?_); rintro e w3 ⟨rfl, hB3⟩; have t3 := ts2.pure hB3; have x3 := xs2.pure hB3; have r3 := rs2.pure hB3; have HR3 := HRs2.pure hB3; have HA3 := HAs2.pure hB3; have OR3 := ORs2.pure hB3; have OA3 := OAs2.pure hB3; have hT3 := hTs2.trans (hB3.mono hTs2.size); have hW3 := Nat.le_trans hWs2 hB3.size; clear ct0_2 ct1_2 cx0_2 cx1_2 cx2_2 cr0_2 cr1_2 zt0_2 zt1_2 zr0_2 zr1_2 ct0_s2 ct1_s2 cx0_s2 cx1_s2 cx2_s2 cr0_s2 cr1_s2 zt0_s2 zt1_s2 zr0_s2 zr1_s2; have ct0_3 := t3.at 0 rfl; have ct1_3 := t3.at 1 rfl; have cx0_3 := x3.at 0 rfl; have cx1_3 := x3.at 1 rfl; have cx2_3 := x3.at 2 rfl; obtain ⟨q0_3, q1_3, q2_3, q3_3, q4_3, q5_3, q6_3⟩ := br_cells HR3 hk; simp only [Nat.zero_add] at q0_3 q1_3 q2_3 q3_3 q4_3 q5_3 q6_3) | (go_at_call 61; (with_reducible refine (rfind_yes _ _ A se (xf, xg, xb) i HA3 hria.out hLA hi hie.out).mono ?_); rintro e w4 ⟨rfl, hB4⟩; have t4 := t3.pure hB4; have x4 := x3.pure hB4; have r4 := r3.pure hB4; have HR4 := HR3.pure hB4; have HA4 := HA3.pure hB4; have OR4 := OR3.pure hB4; have OA4 := OA3.pure hB4; have hT4 := hT3.trans (hB4.mono hT3.size); have hW4 := Nat.le_trans hW3 hB4.size; clear ct0_3 ct1_3 cx0_3 cx1_3 cx2_3 q0_3 q1_3 q2_3 q3_3 q4_3 q5_3 q6_3; have ct0_4 := t4.at 0 rfl; have ct1_4 := t4.at 1 rfl; have cx0_4 := x4.at 0 rfl; have cx1_4 := x4.at 1 rfl; have cx2_4 := x4.at 2 rfl; obtain ⟨q0_4, q1_4, q2_4, q3_4, q4_4, q5_4, q6_4⟩ := br_cells HR4 hk; simp only [Nat.zero_add] at q0_4 q1_4 q2_4 q3_4 q4_4 q5_4 q6_4; obtain ⟨-, -, -, -, s4⟩ := asc_cells HA4 hi; simp only [Nat.zero_add] at s4; rw [hzz.out] at s4) | (go_at_call 69; (with_reducible refine (rsuspend2 _ _ A se (xf, xg, xb) L3 HA4 hLA hsu.out).mono ?_); rintro e w5 ⟨r5, rfl, hN5, hB5⟩; obtain ⟨sa, sn, sc, rfl⟩ := hN5.shape3; have t5 := t4.pure hB5; have x5 := x4.pure hB5; have r5 := r4.pure hB5; have HR5 := HR4.pure hB5; have OR5 := OR4.pure hB5; have hT5 := hT4.trans (hB5.mono hT4.size); clear ct0_4 ct1_4 cx0_4 cx1_4 cx2_4 q0_4 q1_4 q2_4 q3_4 q4_4 q5_4 q6_4; have ct0_5 := t5.at 0 rfl; have ct1_5 := t5.at 1 rfl; have cx0_5 := x5.at 0 rfl; have cx1_5 := x5.at 1 rfl; have cx2_5 := x5.at 2 rfl; have cr0_5 := r5.at 0 rfl; have cr1_5 := r5.at 1 rfl; have zt0_5 := t5.frozen 0; have zt1_5 := t5.frozen 1; have zr0_5 := r5.frozen 0; have zr1_5 := r5.frozen 1; obtain ⟨q0_5, q1_5, q2_5, q3_5, q4_5, q5_5, q6_5⟩ := br_cells HR5 hk; simp only [Nat.zero_add] at q0_5 q1_5 q2_5 q3_5 q4_5 q5_5 q6_5; have OA5 := hN5.rebase (b' := w.heap.size + 3) (fun i hi => Nat.le_trans hW4 (hN5.ge hi)); have ts5 := (t5.set 1 (.slice sa sn sc)); have xs5 := (x5.other ⟨w.heap.size, 1, none⟩ (.slice sa sn sc) (by simp only; omega)); have rs5 := (r5.other ⟨w.heap.size, 1, none⟩ (.slice sa sn sc) (by simp only; omega)); have ORs5 := (OR5.oth (w.heap.size) 1 (.slice sa sn sc) (by omega)); have OAs5 := (OA5.oth (w.heap.size) 1 (.slice sa sn sc) (by omega)); have hTs5 := (Below.setCell (p := ⟨w.heap.size, 1, none⟩) hT5 (by simp only; omega) (.slice sa sn sc)); have HRs5 := ORs5.slc brEnc_len; have ct0_s5 := ts5.at 0 rfl; have ct1_s5 := ts5.at 1 rfl; have cx0_s5 := xs5.at 0 rfl; have cx1_s5 := xs5.at 1 rfl; have cx2_s5 := xs5.at 2 rfl; have cr0_s5 := rs5.at 0 rfl; have cr1_s5 := rs5.at 1 rfl; have zt0_s5 := ts5.frozen 0; have zt1_s5 := ts5.frozen 1; have zr0_s5 := rs5.frozen 0; have zr1_s5 := rs5.frozen 1; obtain ⟨q0_s5, q1_s5, q2_s5, q3_s5, q4_s5, q5_s5, q6_s5⟩ := br_cells HRs5 hk; simp only [Nat.zero_add] at q0_s5 q1_s5 q2_s5 q3_s5 q4_s5 q5_s5 q6_s5))
    have rr := (rs5.set 0 (.slice (some ⟨g, 0, none⟩) R.length yc)).set 1 (.slice sa sn sc)
    have k0 := rr.at 0 rfl; have k1 := rr.at 1 rfl
    refine bodyPost_ret (by simp [results, Try.results17, go_sem, k0, k1]; rfl) rfl ?_
    rw [hD.out]
    refine ⟨_, _, rfl, ?_, ?_, Below.setCell (p := ⟨w.heap.size + 1 + 1, 1, none⟩) (Below.setCell (p := ⟨w.heap.size + 1 + 1, 0, none⟩) hTs5 (by simp only; omega) _) (by simp only; omega) _⟩
    · exact ((ORs5.oth _ _ _ (by omega)).oth _ _ _ (by omega)).rebase (fun i hi => by have h1 := ORs5.ge hi; omega)
    · exact ((OAs5.oth _ _ _ (by omega)).oth _ _ _ (by omega)).rebase (fun i hi => by have h1 := OAs5.ge hi; omega)
  have hwb : (R[k].why == 0) = false := beq_eq_false_iff_ne.2 hw
  rw [if_neg (fun h => hw h.2), if_neg (by simp), hL2] at hF0
  have hD : Hid (overB 0 (endD R A se (xf, xg, xb) false true) = (R, L2, R[k].why, 0)) := Lib.hid (by unfold overB; rw [if_pos rfl, hF0])
  clear hF0 hz hie0 hL2 hL3 hw
  go_wp2_with (first | (go_at_call 19; (with_reducible refine (dat_yes _ _ _ R A (xf, xg, xb) k HRs2 HAs2 hris.out hk hkx'.out).mono ?_); rintro e w3 ⟨rfl, hB3⟩; have t3 := ts2.pure hB3; have x3 := xs2.pure hB3; have r3 := rs2.pure hB3; have HR3 := HRs2.pure hB3; have HA3 := HAs2.pure hB3; have OR3 := ORs2.pure hB3; have OA3 := OAs2.pure hB3; have hT3 := hTs2.trans (hB3.mono hTs2.size); have hW3 := Nat.le_trans hWs2 hB3.size; clear ct0_2 ct1_2 cx0_2 cx1_2 cx2_2 cr0_2 cr1_2 zt0_2 zt1_2 zr0_2 zr1_2 ct0_s2 ct1_s2 cx0_s2 cx1_s2 cx2_s2 cr0_s2 cr1_s2 zt0_s2 zt1_s2 zr0_s2 zr1_s2; have ct0_3 := t3.at 0 rfl; have ct1_3 := t3.at 1 rfl; have cx0_3 := x3.at 0 rfl; have cx1_3 := x3.at 1 rfl; have cx2_3 := x3.at 2 rfl; obtain ⟨q0_3, q1_3, q2_3, q3_3, q4_3, q5_3, q6_3⟩ := br_cells HR3 hk; simp only [Nat.zero_add] at q0_3 q1_3 q2_3 q3_3 q4_3 q5_3 q6_3) | (go_at_call 61; (with_reducible refine (rfind_yes _ _ A se (xf, xg, xb) i HA3 hria.out hLA hi hie.out).mono ?_); rintro e w4 ⟨rfl, hB4⟩; have t4 := t3.pure hB4; have x4 := x3.pure hB4; have r4 := r3.pure hB4; have HR4 := HR3.pure hB4; have HA4 := HA3.pure hB4; have OR4 := OR3.pure hB4; have OA4 := OA3.pure hB4; have hT4 := hT3.trans (hB4.mono hT3.size); have hW4 := Nat.le_trans hW3 hB4.size; clear ct0_3 ct1_3 cx0_3 cx1_3 cx2_3 q0_3 q1_3 q2_3 q3_3 q4_3 q5_3 q6_3; have ct0_4 := t4.at 0 rfl; have ct1_4 := t4.at 1 rfl; have cx0_4 := x4.at 0 rfl; have cx1_4 := x4.at 1 rfl; have cx2_4 := x4.at 2 rfl; obtain ⟨q0_4, q1_4, q2_4, q3_4, q4_4, q5_4, q6_4⟩ := br_cells HR4 hk; simp only [Nat.zero_add] at q0_4 q1_4 q2_4 q3_4 q4_4 q5_4 q6_4; obtain ⟨-, -, -, -, s4⟩ := asc_cells HA4 hi; simp only [Nat.zero_add] at s4; rw [hzz.out] at s4) | (go_at_call 70; (with_reducible refine (rend2 _ _ A se (xf, xg, xb) L2 HA4 hLA hen.out).mono ?_); rintro e w5 ⟨r5, rfl, hN5, hB5⟩; obtain ⟨sa, sn, sc, rfl⟩ := hN5.shape3; have t5 := t4.pure hB5; have x5 := x4.pure hB5; have r5 := r4.pure hB5; have HR5 := HR4.pure hB5; have OR5 := OR4.pure hB5; have hT5 := hT4.trans (hB5.mono hT4.size); clear ct0_4 ct1_4 cx0_4 cx1_4 cx2_4 q0_4 q1_4 q2_4 q3_4 q4_4 q5_4 q6_4; have ct0_5 := t5.at 0 rfl; have ct1_5 := t5.at 1 rfl; have cx0_5 := x5.at 0 rfl; have cx1_5 := x5.at 1 rfl; have cx2_5 := x5.at 2 rfl; have cr0_5 := r5.at 0 rfl; have cr1_5 := r5.at 1 rfl; have zt0_5 := t5.frozen 0; have zt1_5 := t5.frozen 1; have zr0_5 := r5.frozen 0; have zr1_5 := r5.frozen 1; obtain ⟨q0_5, q1_5, q2_5, q3_5, q4_5, q5_5, q6_5⟩ := br_cells HR5 hk; simp only [Nat.zero_add] at q0_5 q1_5 q2_5 q3_5 q4_5 q5_5 q6_5; have OA5 := hN5.rebase (b' := w.heap.size + 3) (fun i hi => Nat.le_trans hW4 (hN5.ge hi)); have ts5 := (t5.set 1 (.slice sa sn sc)); have xs5 := (x5.other ⟨w.heap.size, 1, none⟩ (.slice sa sn sc) (by simp only; omega)); have rs5 := (r5.other ⟨w.heap.size, 1, none⟩ (.slice sa sn sc) (by simp only; omega)); have ORs5 := (OR5.oth (w.heap.size) 1 (.slice sa sn sc) (by omega)); have OAs5 := (OA5.oth (w.heap.size) 1 (.slice sa sn sc) (by omega)); have hTs5 := (Below.setCell (p := ⟨w.heap.size, 1, none⟩) hT5 (by simp only; omega) (.slice sa sn sc)); have HRs5 := ORs5.slc brEnc_len; have ct0_s5 := ts5.at 0 rfl; have ct1_s5 := ts5.at 1 rfl; have cx0_s5 := xs5.at 0 rfl; have cx1_s5 := xs5.at 1 rfl; have cx2_s5 := xs5.at 2 rfl; have cr0_s5 := rs5.at 0 rfl; have cr1_s5 := rs5.at 1 rfl; have zt0_s5 := ts5.frozen 0; have zt1_s5 := ts5.frozen 1; have zr0_s5 := rs5.frozen 0; have zr1_s5 := rs5.frozen 1; obtain ⟨q0_s5, q1_s5, q2_s5, q3_s5, q4_s5, q5_s5, q6_s5⟩ := br_cells HRs5 hk; simp only [Nat.zero_add] at q0_s5 q1_s5 q2_s5 q3_s5 q4_s5 q5_s5 q6_s5; have hdis := Lib.hid (fun (i : Nat) (hi : Value.ownBlock (.slice sa sn sc) = some i) (e : i = g) => own_apart ORs5 OAs5 (by decide) rfl (by rw [hi, e]))))
  have rr := (rs5.set 0 (.slice (some ⟨g, 0, none⟩) R.length yc)).set 1 (.slice sa sn sc)
  have k0 := rr.at 0 rfl; have k1 := rr.at 1 rfl
  refine bodyPost_ret (by simp [results, Try.results17, go_sem, k0, k1]; rfl) rfl ?_
  rw [hD.out]
  refine ⟨_, _, rfl, ?_, ?_, Below.setCell (p := ⟨w.heap.size + 1 + 1, 1, none⟩) (Below.setCell (p := ⟨w.heap.size + 1 + 1, 0, none⟩) hTs5 (by simp only; omega) _) (by simp only; omega) _⟩
  · exact ((ORs5.oth _ _ _ (by omega)).oth _ _ _ (by omega)).rebase (fun i hi => by have h1 := ORs5.ge hi; omega)
  · exact ((OAs5.oth _ _ _ (by omega)).oth _ _ _ (by omega)).rebase (fun i hi => by have h1 := OAs5.ge hi; omega)

set_option maxRecDepth 100000 in
set_option maxHeartbeats 6400000 in
theorem dend_tf (w : World) (rv av : Value) (R : List Brn) (A : List Asc) (x : Xid) (se : Int) (hR : Slc brEnc 7 w rv R) (hA : Slc ascEnc 5 w av A) (hLR : R.length ≤ 1000000) (hLA : A.length ≤ 1000000) (htm : ∀ b ∈ R, 0 ≤ b.tm) (hse : se ≠ 0) (hm0 : mayB R A true x = 0) :
    Calls Try.prog 17 #[.agg #[rv, av], .int .u64 se, .agg #[.int .u32 x.1, .string x.2.1, .string x.2.2], .bool true, .bool false] w (TabPost w (overB 0 (endD R A se x true false))) := by
  obtain ⟨ra, rc, rfl, -⟩ := hR.len
  obtain ⟨aa, ac, rfl, -⟩ := hA.len
  obtain ⟨xf, xg, xb⟩ := x
  have hT0 : Below w.heap.size w (((w.alloc (.cells #[.slice ra R.length rc, .slice aa A.length ac] 25)).alloc (.cells #[.int .u32 xf, .string xg, .string xb] 28)).alloc (.cells #[.slice none 0 0, .slice none 0 0] 25)) := ((((Below.refl w.heap.size w).alloc (Nat.le_refl _) _).alloc (by simp) _).alloc (by simp; omega) _)
  have hW0 : w.heap.size + 3 ≤ (((w.alloc (.cells #[.slice ra R.length rc, .slice aa A.length ac] 25)).alloc (.cells #[.int .u32 xf, .string xg, .string xb] 28)).alloc (.cells #[.slice none 0 0, .slice none 0 0] 25)).heap.size := by simp
  have t0 : Blk (((w.alloc (.cells #[.slice ra R.length rc, .slice aa A.length ac] 25)).alloc (.cells #[.int .u32 xf, .string xg, .string xb] 28)).alloc (.cells #[.slice none 0 0, .slice none 0 0] 25)) (w.heap.size) [.slice ra R.length rc, .slice aa A.length ac] := (((Blk.newAt2 w [.slice ra R.length rc, .slice aa A.length ac] 25 (w.heap.size) (by simp)).alloc (.cells #[.int .u32 xf, .string xg, .string xb] 28)).alloc (.cells #[.slice none 0 0, .slice none 0 0] 25))
  have x0 : Blk (((w.alloc (.cells #[.slice ra R.length rc, .slice aa A.length ac] 25)).alloc (.cells #[.int .u32 xf, .string xg, .string xb] 28)).alloc (.cells #[.slice none 0 0, .slice none 0 0] 25)) (w.heap.size + 1) [.int .u32 xf, .string xg, .string xb] := ((Blk.newAt2 (w.alloc (.cells #[.slice ra R.length rc, .slice aa A.length ac] 25)) [.int .u32 xf, .string xg, .string xb] 28 (w.heap.size + 1) (by simp)).alloc (.cells #[.slice none 0 0, .slice none 0 0] 25))
  have r0 : Blk (((w.alloc (.cells #[.slice ra R.length rc, .slice aa A.length ac] 25)).alloc (.cells #[.int .u32 xf, .string xg, .string xb] 28)).alloc (.cells #[.slice none 0 0, .slice none 0 0] 25)) (w.heap.size + 1 + 1) [.slice none 0 0, .slice none 0 0] := (Blk.newAt2 ((w.alloc (.cells #[.slice ra R.length rc, .slice aa A.length ac] 25)).alloc (.cells #[.int .u32 xf, .string xg, .string xb] 28)) [.slice none 0 0, .slice none 0 0] 25 (w.heap.size + 1 + 1) (by simp))
  have ct0_0 := t0.at 0 rfl
  have ct1_0 := t0.at 1 rfl
  have cx0_0 := x0.at 0 rfl
  have cx1_0 := x0.at 1 rfl
  have cx2_0 := x0.at 2 rfl
  have cr0_0 := r0.at 0 rfl
  have cr1_0 := r0.at 1 rfl
  have zt0_0 := t0.frozen 0
  have zt1_0 := t0.frozen 1
  have zr0_0 := r0.frozen 0
  have zr1_0 := r0.frozen 1
  have HR0 := hR.pure hT0; have HA0 := hA.pure hT0
  have hmay : Hid (mayB R A (!false) (xf, xg, xb) = 0) := Lib.hid hm0
  obtain ⟨hTab, -, hxok⟩ := mayB_zero hm0
  have hTb := Lib.hid hTab
  have hxk := Lib.hid hxok
  have hris := Lib.hid hTab.1.2
  have hria := Lib.hid hTab.2.1.rises
  have hzb : (se == 0) = false := beq_eq_false_iff_ne.2 hse
  have hsz := Lib.hid hse
  clear hm0 hse hTab hxok
  go_enter Try.func17, Try.ntmps17
  go_upto_region 5 with (first | (go_at_call 56; (with_reducible refine (dmay_any _ _ _ R A false (xf, xg, xb) 0 HR0 HA0 hLR hLA htm hmay.out).mono ?_); rintro e w1 ⟨rfl, hB1⟩; have t1 := t0.pure hB1; have x1 := x0.pure hB1; have r1 := r0.pure hB1; have HR1 := HR0.pure hB1; have HA1 := HA0.pure hB1; have hT1 := hT0.trans (hB1.mono hT0.size); have hW1 := Nat.le_trans hW0 hB1.size; clear ct0_0 ct1_0 cx0_0 cx1_0 cx2_0 cr0_0 cr1_0 zt0_0 zt1_0 zr0_0 zr1_0; have ct0_1 := t1.at 0 rfl; have ct1_1 := t1.at 1 rfl; have cx0_1 := x1.at 0 rfl; have cx1_1 := x1.at 1 rfl; have cx2_1 := x1.at 2 rfl) | (go_at_call 12; (with_reducible refine (dcopy_any _ _ _ R A HR1 HA1 hLR hLA).mono ?_); rintro e w2 ⟨rr2, aa2, rfl, hO2, hP2, hB2⟩; obtain ⟨ya, yc, rfl⟩ := own_len hO2; obtain ⟨ua, uc, rfl⟩ := own_len hP2; have OR2 := hO2.rebase (b' := w.heap.size + 3) (fun i hi => Nat.le_trans hW1 (hO2.ge hi)); have OA2 := hP2.rebase (b' := w.heap.size + 3) (fun i hi => Nat.le_trans hW1 (hP2.ge hi)); have t2 := t1.pure hB2; have x2 := x1.pure hB2; have r2 := r1.pure hB2; have hT2 := hT1.trans (hB2.mono hT1.size); have hW2 := Nat.le_trans hW1 hB2.size; clear ct0_1 ct1_1 cx0_1 cx1_1 cx2_1; have ct0_2 := t2.at 0 rfl; have ct1_2 := t2.at 1 rfl; have cx0_2 := x2.at 0 rfl; have cx1_2 := x2.at 1 rfl; have cx2_2 := x2.at 2 rfl; have cr0_2 := r2.at 0 rfl; have cr1_2 := r2.at 1 rfl; have zt0_2 := t2.frozen 0; have zt1_2 := t2.frozen 1; have zr0_2 := r2.frozen 0; have zr1_2 := r2.frozen 1; have ts2 := ((t2.set 0 (.slice ya R.length yc)).set 1 (.slice ua A.length uc)); have xs2 := ((x2.other ⟨w.heap.size, 0, none⟩ (.slice ya R.length yc) (by simp only; omega)).other ⟨w.heap.size, 1, none⟩ (.slice ua A.length uc) (by simp only; omega)); have rs2 := ((r2.other ⟨w.heap.size, 0, none⟩ (.slice ya R.length yc) (by simp only; omega)).other ⟨w.heap.size, 1, none⟩ (.slice ua A.length uc) (by simp only; omega)); have ORs2 := ((OR2.oth (w.heap.size) 0 (.slice ya R.length yc) (by omega)).oth (w.heap.size) 1 (.slice ua A.length uc) (by omega)); have OAs2 := ((OA2.oth (w.heap.size) 0 (.slice ya R.length yc) (by omega)).oth (w.heap.size) 1 (.slice ua A.length uc) (by omega)); have hTs2 := (Below.setCell (p := ⟨w.heap.size, 1, none⟩) (Below.setCell (p := ⟨w.heap.size, 0, none⟩) hT2 (by simp only; omega) (.slice ya R.length yc)) (by simp only; omega) (.slice ua A.length uc)); have hWs2 := (Nat.le_trans (Nat.le_trans hW2 (Upd.set (S := fun _ => True) (p := ⟨w.heap.size, 0, none⟩) trivial (.slice ya R.length yc)).size) (Upd.set (S := fun _ => True) (p := ⟨w.heap.size, 1, none⟩) trivial (.slice ua A.length uc)).size); have HRs2 := ORs2.slc brEnc_len; have HAs2 := OAs2.slc ascEnc_len; have ct0_s2 := ts2.at 0 rfl; have ct1_s2 := ts2.at 1 rfl; have cx0_s2 := xs2.at 0 rfl; have cx1_s2 := xs2.at 1 rfl; have cx2_s2 := xs2.at 2 rfl; have cr0_s2 := rs2.at 0 rfl; have cr1_s2 := rs2.at 1 rfl; have zt0_s2 := ts2.frozen 0; have zt1_s2 := ts2.frozen 1; have zr0_s2 := rs2.frozen 0; have zr1_s2 := rs2.frozen 1))
  have hF0 : endD R A se (xf, xg, xb) true false = endD R A se (xf, xg, xb) true false := rfl
  conv at hF0 => rhs; unfold endD
  rcases Classical.em (MemB R (xf, xg, xb)) with hm | hm
  rotate_left 1
  · have hn := Lib.hid hm
    rw [idxB_no hm] at hF0
    have hD : Hid (overB 0 (endD R A se (xf, xg, xb) true false) = errR 7) := Lib.hid (by unfold overB; rw [if_pos rfl, hF0])
    clear hF0 hm
    go_wp2_with (first | (go_at_call 19; (with_reducible refine (dat_no _ _ _ R A (xf, xg, xb) HRs2 HAs2 hn.out).mono ?_); rintro e w3 ⟨rfl, hB3⟩; have t3 := ts2.pure hB3; have x3 := xs2.pure hB3; have r3 := rs2.pure hB3; have HR3 := HRs2.pure hB3; have HA3 := HAs2.pure hB3; have OR3 := ORs2.pure hB3; have OA3 := OAs2.pure hB3; have hT3 := hTs2.trans (hB3.mono hTs2.size); have hW3 := Nat.le_trans hWs2 hB3.size; clear ct0_2 ct1_2 cx0_2 cx1_2 cx2_2 cr0_2 cr1_2 zt0_2 zt1_2 zr0_2 zr1_2 ct0_s2 ct1_s2 cx0_s2 cx1_s2 cx2_s2 cr0_s2 cr1_s2 zt0_s2 zt1_s2 zr0_s2 zr1_s2; have ct0_3 := t3.at 0 rfl; have ct1_3 := t3.at 1 rfl; have cx0_3 := x3.at 0 rfl; have cx1_3 := x3.at 1 rfl; have cx2_3 := x3.at 2 rfl) | (go_at_call 57; (with_reducible refine (dno_any _ 7).mono ?_); rintro e w4 ⟨rfl, hB4⟩; have t4 := t3.pure hB4; have x4 := x3.pure hB4; have r4 := r3.pure hB4; have HR4 := HR3.pure hB4; have HA4 := HA3.pure hB4; have OR4 := OR3.pure hB4; have OA4 := OA3.pure hB4; have hT4 := hT3.trans (hB4.mono hT3.size); have hW4 := Nat.le_trans hW3 hB4.size; clear ct0_3 ct1_3 cx0_3 cx1_3 cx2_3; have ct0_4 := t4.at 0 rfl; have ct1_4 := t4.at 1 rfl; have cx0_4 := x4.at 0 rfl; have cx1_4 := x4.at 1 rfl; have cx2_4 := x4.at 2 rfl; have cr0_4 := r4.at 0 rfl; have cr1_4 := r4.at 1 rfl; have zt0_4 := t4.frozen 0; have zt1_4 := t4.frozen 1; have zr0_4 := r4.frozen 0; have zr1_4 := r4.frozen 1))
    have rr := (r4.set 0 (.slice none 0 0)).set 1 (.slice none 0 0)
    have k0 := rr.at 0 rfl; have k1 := rr.at 1 rfl
    refine bodyPost_ret (by simp [results, Try.results17, go_sem, k0, k1]; rfl) rfl ?_
    rw [hD.out]
    refine ⟨_, _, rfl, ?_, ?_, Below.setCell (p := ⟨w.heap.size + 1 + 1, 1, none⟩) (Below.setCell (p := ⟨w.heap.size + 1 + 1, 0, none⟩) hT4 (by simp only; omega) _) (by simp only; omega) _⟩
    · exact Own.nil
    · exact Own.nil
  obtain ⟨k, hk, hkx⟩ := hm
  have hkx' := Lib.hid hkx
  have hk0 : (0 : Int) ≤ (k : Int) := by omega
  have hk1 : (k : Int) < (R.length : Int) := by omega
  have hkd : decide ((k : Int) < 0) = false := decide_eq_false (by omega)
  have hrok := Lib.hid (hTb.out.1.1 _ (List.getElem_mem hk))
  rw [idxB_yes hris.out hk hkx] at hF0
  simp only [getD_at hk] at hF0
  clear hkx
  obtain ⟨g, rfl, hg⟩ := own_at7 ORs2 hk
  have hdis := Lib.hid (fun (i : Nat) (hi : Value.ownBlock (.slice ua A.length uc) = some i) (e : i = g) => own_apart ORs2 OAs2 (by decide) rfl (by rw [hi, e]))
  rcases Classical.em (Mem A se (xf, xg, xb)) with hq | hq
  rotate_left 1
  · have hqn := Lib.hid hq
    rw [idx_no hq] at hF0
    have hD : Hid (overB 0 (endD R A se (xf, xg, xb) true false) = errR 9) := Lib.hid (by unfold overB; rw [if_pos rfl, hF0])
    clear hF0 hq
    go_wp2_with (first | (go_at_call 19; (with_reducible refine (dat_yes _ _ _ R A (xf, xg, xb) k HRs2 HAs2 hris.out hk hkx'.out).mono ?_); rintro e w3 ⟨rfl, hB3⟩; have t3 := ts2.pure hB3; have x3 := xs2.pure hB3; have r3 := rs2.pure hB3; have HR3 := HRs2.pure hB3; have HA3 := HAs2.pure hB3; have OR3 := ORs2.pure hB3; have OA3 := OAs2.pure hB3; have hT3 := hTs2.trans (hB3.mono hTs2.size); have hW3 := Nat.le_trans hWs2 hB3.size; clear ct0_2 ct1_2 cx0_2 cx1_2 cx2_2 cr0_2 cr1_2 zt0_2 zt1_2 zr0_2 zr1_2 ct0_s2 ct1_s2 cx0_s2 cx1_s2 cx2_s2 cr0_s2 cr1_s2 zt0_s2 zt1_s2 zr0_s2 zr1_s2; have ct0_3 := t3.at 0 rfl; have ct1_3 := t3.at 1 rfl; have cx0_3 := x3.at 0 rfl; have cx1_3 := x3.at 1 rfl; have cx2_3 := x3.at 2 rfl; obtain ⟨q0_3, q1_3, q2_3, q3_3, q4_3, q5_3, q6_3⟩ := br_cells HR3 hk; simp only [Nat.zero_add] at q0_3 q1_3 q2_3 q3_3 q4_3 q5_3 q6_3) | (go_at_call 61; (with_reducible refine (rfind_no _ _ A se (xf, xg, xb) HA3 hLA hqn.out).mono ?_); rintro e w4 ⟨rfl, hB4⟩; have t4 := t3.pure hB4; have x4 := x3.pure hB4; have r4 := r3.pure hB4; have HR4 := HR3.pure hB4; have HA4 := HA3.pure hB4; have OR4 := OR3.pure hB4; have OA4 := OA3.pure hB4; have hT4 := hT3.trans (hB4.mono hT3.size); have hW4 := Nat.le_trans hW3 hB4.size; clear ct0_3 ct1_3 cx0_3 cx1_3 cx2_3 q0_3 q1_3 q2_3 q3_3 q4_3 q5_3 q6_3; have ct0_4 := t4.at 0 rfl; have ct1_4 := t4.at 1 rfl; have cx0_4 := x4.at 0 rfl; have cx1_4 := x4.at 1 rfl; have cx2_4 := x4.at 2 rfl; obtain ⟨q0_4, q1_4, q2_4, q3_4, q4_4, q5_4, q6_4⟩ := br_cells HR4 hk; simp only [Nat.zero_add] at q0_4 q1_4 q2_4 q3_4 q4_4 q5_4 q6_4) | (go_at_call 57; (with_reducible refine (dno_any _ 9).mono ?_); rintro e w5 ⟨rfl, hB5⟩; have t5 := t4.pure hB5; have x5 := x4.pure hB5; have r5 := r4.pure hB5; have HR5 := HR4.pure hB5; have OR5 := OR4.pure hB5; have OA5 := OA4.pure hB5; have hT5 := hT4.trans (hB5.mono hT4.size); clear ct0_4 ct1_4 cx0_4 cx1_4 cx2_4 q0_4 q1_4 q2_4 q3_4 q4_4 q5_4 q6_4; have ct0_5 := t5.at 0 rfl; have ct1_5 := t5.at 1 rfl; have cx0_5 := x5.at 0 rfl; have cx1_5 := x5.at 1 rfl; have cx2_5 := x5.at 2 rfl; have cr0_5 := r5.at 0 rfl; have cr1_5 := r5.at 1 rfl; have zt0_5 := t5.frozen 0; have zt1_5 := t5.frozen 1; have zr0_5 := r5.frozen 0; have zr1_5 := r5.frozen 1; obtain ⟨q0_5, q1_5, q2_5, q3_5, q4_5, q5_5, q6_5⟩ := br_cells HR5 hk; simp only [Nat.zero_add] at q0_5 q1_5 q2_5 q3_5 q4_5 q5_5 q6_5))
    have rr := (r5.set 0 (.slice none 0 0)).set 1 (.slice none 0 0)
    have k0 := rr.at 0 rfl; have k1 := rr.at 1 rfl
    refine bodyPost_ret (by simp [results, Try.results17, go_sem, k0, k1]; rfl) rfl ?_
    rw [hD.out]
    refine ⟨_, _, rfl, ?_, ?_, Below.setCell (p := ⟨w.heap.size + 1 + 1, 1, none⟩) (Below.setCell (p := ⟨w.heap.size + 1 + 1, 0, none⟩) hT5 (by simp only; omega) _) (by simp only; omega) _⟩
    · exact Own.nil
    · exact Own.nil
  obtain ⟨i, hi, hie0⟩ := hq
  have hie := Lib.hid hie0
  have hid : decide ((i : Int) < 0) = false := decide_eq_false (by omega)
  have hi0 : (0 : Int) ≤ (i : Int) := by omega
  have hi1 : (i : Int) < (A.length : Int) := by omega
  rw [idx_yes hria.out hi hie0] at hF0
  simp only [getA_at hi] at hF0
  obtain ⟨L2, hL2⟩ := end_there hTb.out.2.1 hsz.out hxk.out hi hie0
  have hen := Lib.hid hL2
  rw [if_neg (by simp), if_neg (by simp)] at hF0
  rw [if_pos (by trivial), hL2] at hF0
  by_cases hw : R[k].why = 0
  · have hwb : (R[k].why == 0) = true := by rw [hw]; rfl
    have hspy := Lib.hid (spoil_one hw)
    rw [spoil_one hw] at hF0
    have hD : Hid (overB 0 (endD R A se (xf, xg, xb) true false) = (R.set k (R[k].spoil 1), L2, 1, 0)) := Lib.hid (by unfold overB; rw [if_pos rfl, hF0])
    clear hF0 hie0 hL2 hw
    go_wp2_with (first | (go_at_call 19; (with_reducible refine (dat_yes _ _ _ R A (xf, xg, xb) k HRs2 HAs2 hris.out hk hkx'.out).mono ?_); rintro e w3 ⟨rfl, hB3⟩; have t3 := ts2.pure hB3; have x3 := xs2.pure hB3; have r3 := rs2.pure hB3; have HR3 := HRs2.pure hB3; have HA3 := HAs2.pure hB3; have OR3 := ORs2.pure hB3; have OA3 := OAs2.pure hB3; have hT3 := hTs2.trans (hB3.mono hTs2.size); have hW3 := Nat.le_trans hWs2 hB3.size; clear ct0_2 ct1_2 cx0_2 cx1_2 cx2_2 cr0_2 cr1_2 zt0_2 zt1_2 zr0_2 zr1_2 ct0_s2 ct1_s2 cx0_s2 cx1_s2 cx2_s2 cr0_s2 cr1_s2 zt0_s2 zt1_s2 zr0_s2 zr1_s2; have ct0_3 := t3.at 0 rfl; have ct1_3 := t3.at 1 rfl; have cx0_3 := x3.at 0 rfl; have cx1_3 := x3.at 1 rfl; have cx2_3 := x3.at 2 rfl; obtain ⟨q0_3, q1_3, q2_3, q3_3, q4_3, q5_3, q6_3⟩ := br_cells HR3 hk; simp only [Nat.zero_add] at q0_3 q1_3 q2_3 q3_3 q4_3 q5_3 q6_3) | (go_at_call 61; (with_reducible refine (rfind_yes _ _ A se (xf, xg, xb) i HA3 hria.out hLA hi hie.out).mono ?_); rintro e w4 ⟨rfl, hB4⟩; have t4 := t3.pure hB4; have x4 := x3.pure hB4; have r4 := r3.pure hB4; have HR4 := HR3.pure hB4; have HA4 := HA3.pure hB4; have OR4 := OR3.pure hB4; have OA4 := OA3.pure hB4; have hT4 := hT3.trans (hB4.mono hT3.size); have hW4 := Nat.le_trans hW3 hB4.size; clear ct0_3 ct1_3 cx0_3 cx1_3 cx2_3 q0_3 q1_3 q2_3 q3_3 q4_3 q5_3 q6_3; have ct0_4 := t4.at 0 rfl; have ct1_4 := t4.at 1 rfl; have cx0_4 := x4.at 0 rfl; have cx1_4 := x4.at 1 rfl; have cx2_4 := x4.at 2 rfl; obtain ⟨q0_4, q1_4, q2_4, q3_4, q4_4, q5_4, q6_4⟩ := br_cells HR4 hk; simp only [Nat.zero_add] at q0_4 q1_4 q2_4 q3_4 q4_4 q5_4 q6_4) | (go_at_call 70; (with_reducible refine (rend2 _ _ A se (xf, xg, xb) L2 HA4 hLA hen.out).mono ?_); rintro e w5 ⟨r5, rfl, hN5, hB5⟩; obtain ⟨sa, sn, sc, rfl⟩ := hN5.shape3; have t5 := t4.pure hB5; have x5 := x4.pure hB5; have r5 := r4.pure hB5; have HR5 := HR4.pure hB5; have OR5 := OR4.pure hB5; have hT5 := hT4.trans (hB5.mono hT4.size); clear ct0_4 ct1_4 cx0_4 cx1_4 cx2_4 q0_4 q1_4 q2_4 q3_4 q4_4 q5_4 q6_4; have ct0_5 := t5.at 0 rfl; have ct1_5 := t5.at 1 rfl; have cx0_5 := x5.at 0 rfl; have cx1_5 := x5.at 1 rfl; have cx2_5 := x5.at 2 rfl; have cr0_5 := r5.at 0 rfl; have cr1_5 := r5.at 1 rfl; have zt0_5 := t5.frozen 0; have zt1_5 := t5.frozen 1; have zr0_5 := r5.frozen 0; have zr1_5 := r5.frozen 1; obtain ⟨q0_5, q1_5, q2_5, q3_5, q4_5, q5_5, q6_5⟩ := br_cells HR5 hk; simp only [Nat.zero_add] at q0_5 q1_5 q2_5 q3_5 q4_5 q5_5 q6_5; have OA5 := hN5.rebase (b' := w.heap.size + 3) (fun i hi => Nat.le_trans hW4 (hN5.ge hi)); have ts5 := (t5.set 1 (.slice sa sn sc)); have xs5 := (x5.other ⟨w.heap.size, 1, none⟩ (.slice sa sn sc) (by simp only; omega)); have rs5 := (r5.other ⟨w.heap.size, 1, none⟩ (.slice sa sn sc) (by simp only; omega)); have ORs5 := (OR5.oth (w.heap.size) 1 (.slice sa sn sc) (by omega)); have OAs5 := (OA5.oth (w.heap.size) 1 (.slice sa sn sc) (by omega)); have hTs5 := (Below.setCell (p := ⟨w.heap.size, 1, none⟩) hT5 (by simp only; omega) (.slice sa sn sc)); have HRs5 := ORs5.slc brEnc_len; have ct0_s5 := ts5.at 0 rfl; have ct1_s5 := ts5.at 1 rfl; have cx0_s5 := xs5.at 0 rfl; have cx1_s5 := xs5.at 1 rfl; have cx2_s5 := xs5.at 2 rfl; have cr0_s5 := rs5.at 0 rfl; have cr1_s5 := rs5.at 1 rfl; have zt0_s5 := ts5.frozen 0; have zt1_s5 := ts5.frozen 1; have zr0_s5 := rs5.frozen 0; have zr1_s5 := rs5.frozen 1; obtain ⟨q0_s5, q1_s5, q2_s5, q3_s5, q4_s5, q5_s5, q6_s5⟩ := br_cells HRs5 hk; simp only [Nat.zero_add] at q0_s5 q1_s5 q2_s5 q3_s5 q4_s5 q5_s5 q6_s5; have hdis := Lib.hid (fun (i : Nat) (hi : Value.ownBlock (.slice sa sn sc) = some i) (e : i = g) => own_apart ORs5 OAs5 (by decide) rfl (by rw [hi, e]))))
    refine wp_region_held_drew (S := (fun w' => w'.cell? ⟨w.heap.size, 0, none⟩ = some (.slice (some ⟨g, 0, none⟩) R.length yc) ∧ w'.cell? ⟨w.heap.size, 1, none⟩ = some (.slice sa sn sc))) (by kernel_rfl) ?_ (fun hHeld => ?_)
    · (first | with_reducible exact ⟨p0, p1⟩ | with_reducible exact ⟨m0, m1⟩ | exact ⟨ct0_s5, ct1_s5⟩)
    refine takeY 0 103 rfl rfl (v := ?_) ?_ hHeld ?_
    rotate_left 1
    · (intro w hSw; (try dsimp only at hSw); go_simp; (try with_reducible rfl))
    try simp only [Act.put, lsT, lsZ, lsS]
    refine takeY 1 104 rfl rfl (v := ?_) ?_ hHeld ?_
    rotate_left 1
    · (intro w hSw; (try dsimp only at hSw); go_simp; (try with_reducible rfl))
    try simp only [Act.put, lsT, lsZ, lsS]
    refine takeY 2 105 rfl rfl (v := ?_) ?_ hHeld ?_
    rotate_left 1
    · (intro w hSw; (try dsimp only at hSw); go_simp; (try with_reducible rfl))
    try simp only [Act.put, lsT, lsZ, lsS]
    refine takeY 3 106 rfl rfl (v := ?_) ?_ hHeld ?_
    rotate_left 1
    · (intro w hSw; (try dsimp only at hSw); go_simp; (try with_reducible rfl))
    try simp only [Act.put, lsT, lsZ, lsS]
    refine takeY 4 107 rfl rfl (v := ?_) ?_ hHeld ?_
    rotate_left 1
    · (intro w hSw; (try dsimp only at hSw); go_simp; (try with_reducible rfl))
    try simp only [Act.put, lsT, lsZ, lsS]
    refine takeY 5 108 rfl rfl (v := ?_) ?_ hHeld ?_
    rotate_left 1
    · (intro w hSw; (try dsimp only at hSw); go_simp; (try with_reducible rfl))
    try simp only [Act.put, lsT, lsZ, lsS]
    refine takeY 6 109 rfl rfl (v := ?_) ?_ hHeld ?_
    rotate_left 1
    · (intro w hSw; (try dsimp only at hSw); go_simp; (try with_reducible rfl))
    try simp only [Act.put, lsT, lsZ, lsS]
    refine wpAnyH_ready (rs := [7]) (by kernel_rfl) (by simp) ?_
    refine AllReadyH.cons rfl (fun K hK => ?_) AllReadyH.nil
    go_simp
    skip
    refine hK.out _ _ ?_ (fun hHeld => ?_)
    · (first | with_reducible exact ⟨p0, p1⟩ | with_reducible exact ⟨m0, m1⟩ | exact ⟨ct0_s5, ct1_s5⟩)
    clear hK K
    try simp only [Act.put, lsT, lsZ, lsS]
    refine wpAnyH_ready (rs := [8]) (by kernel_rfl) (by simp) ?_
    refine AllReadyH.cons rfl (fun K hK => ?_) AllReadyH.nil
    go_simp
    (go_at_call 71; refine (dspoilt3 _ R[k] 1 hspy.out).mono ?_; rintro e w6 ⟨rfl, hB6⟩; have t6 := ts5.drew.pure hB6; have r6 := rs5.drew.pure hB6; have HR6 := HRs5.drew.pure hB6; have OR6 := ORs5.drew.pure hB6; have OA6 := OAs5.drew.pure hB6; have hT6 := (below_dr hTs5).trans (hB6.mono hTs5.size); have m0 := t6.at 0 rfl; have m1 := t6.at 1 rfl; obtain ⟨qm0, qm1, qm2, qm3, qm4, qm5, qm6⟩ := br_cells HR6 hk; simp only [Nat.zero_add] at qm0 qm1 qm2 qm3 qm4 qm5 qm6; have ym0 := OR6.frozen (k * 7); have ym1 := OR6.frozen (k * 7 + 1); have ym2 := OR6.frozen (k * 7 + 2); have ym3 := OR6.frozen (k * 7 + 3); have ym4 := OR6.frozen (k * 7 + 4); have ym5 := OR6.frozen (k * 7 + 5); have ym6 := OR6.frozen (k * 7 + 6); have t6r := (((((((t6.other ⟨g, k * 7, none⟩ (.int .u32 R[k].x.1) (by simp only; omega)).other ⟨g, k * 7 + 1, none⟩ (.string R[k].x.2.1) (by simp only; omega)).other ⟨g, k * 7 + 2, none⟩ (.string R[k].x.2.2) (by simp only; omega)).other ⟨g, k * 7 + 3, none⟩ (.int .u8 R[k].st) (by simp only; omega)).other ⟨g, k * 7 + 4, none⟩ (.int .u8 1) (by simp only; omega)).other ⟨g, k * 7 + 5, none⟩ (.int .u32 R[k].tm) (by simp only; omega)).other ⟨g, k * 7 + 6, none⟩ (.int .u32 0) (by simp only; omega)); have r6r := (((((((r6.other ⟨g, k * 7, none⟩ (.int .u32 R[k].x.1) (by simp only; omega)).other ⟨g, k * 7 + 1, none⟩ (.string R[k].x.2.1) (by simp only; omega)).other ⟨g, k * 7 + 2, none⟩ (.string R[k].x.2.2) (by simp only; omega)).other ⟨g, k * 7 + 3, none⟩ (.int .u8 R[k].st) (by simp only; omega)).other ⟨g, k * 7 + 4, none⟩ (.int .u8 1) (by simp only; omega)).other ⟨g, k * 7 + 5, none⟩ (.int .u32 R[k].tm) (by simp only; omega)).other ⟨g, k * 7 + 6, none⟩ (.int .u32 0) (by simp only; omega)); have OR6r := OR6.row7 brEnc_len k hk (R[k].spoil 1) (.int .u32 R[k].x.1) (.string R[k].x.2.1) (.string R[k].x.2.2) (.int .u8 R[k].st) (.int .u8 1) (.int .u32 R[k].tm) (.int .u32 0) (by unfold brEnc; rw [hspy.out]; rfl); have OA6r := (((((((OA6.other ⟨g, k * 7, none⟩ (.int .u32 R[k].x.1) (fun i hi e => hdis.out i hi e)).other ⟨g, k * 7 + 1, none⟩ (.string R[k].x.2.1) (fun i hi e => hdis.out i hi e)).other ⟨g, k * 7 + 2, none⟩ (.string R[k].x.2.2) (fun i hi e => hdis.out i hi e)).other ⟨g, k * 7 + 3, none⟩ (.int .u8 R[k].st) (fun i hi e => hdis.out i hi e)).other ⟨g, k * 7 + 4, none⟩ (.int .u8 1) (fun i hi e => hdis.out i hi e)).other ⟨g, k * 7 + 5, none⟩ (.int .u32 R[k].tm) (fun i hi e => hdis.out i hi e)).other ⟨g, k * 7 + 6, none⟩ (.int .u32 0) (fun i hi e => hdis.out i hi e)); have hT6r := (Below.setCell (p := ⟨g, k * 7 + 6, none⟩) (Below.setCell (p := ⟨g, k * 7 + 5, none⟩) (Below.setCell (p := ⟨g, k * 7 + 4, none⟩) (Below.setCell (p := ⟨g, k * 7 + 3, none⟩) (Below.setCell (p := ⟨g, k * 7 + 2, none⟩) (Below.setCell (p := ⟨g, k * 7 + 1, none⟩) (Below.setCell (p := ⟨g, k * 7, none⟩) hT6 (by simp only; omega) (.int .u32 R[k].x.1)) (by simp only; omega) (.string R[k].x.2.1)) (by simp only; omega) (.string R[k].x.2.2)) (by simp only; omega) (.int .u8 R[k].st)) (by simp only; omega) (.int .u8 1)) (by simp only; omega) (.int .u32 R[k].tm)) (by simp only; omega) (.int .u32 0)); have p0 := t6r.at 0 rfl; have p1 := t6r.at 1 rfl)
    refine hK.out _ _ ?_ (fun hHeld => ?_)
    · (first | with_reducible exact ⟨p0, p1⟩ | with_reducible exact ⟨m0, m1⟩ | exact ⟨ct0_s5, ct1_s5⟩)
    clear hK K
    try simp only [Act.put, lsT, lsZ, lsS]
    refine takeY 9 112 rfl rfl (v := ?_) ?_ hHeld ?_
    rotate_left 1
    · (intro w hSw; (try dsimp only at hSw); go_simp; (try with_reducible rfl))
    try simp only [Act.put, lsT, lsZ, lsS]
    refine wpAnyH_ready (rs := [10]) (by kernel_rfl) (by simp) ?_
    refine AllReadyH.cons rfl (fun K hK => ?_) AllReadyH.nil
    go_simp
    skip
    refine hK.out _ _ ?_ (fun hHeld => ?_)
    · (first | with_reducible exact ⟨p0, p1⟩ | with_reducible exact ⟨m0, m1⟩ | exact ⟨ct0_s5, ct1_s5⟩)
    clear hK K
    try simp only [Act.put, lsT, lsZ, lsS]
    refine wpAnyH_done (by kernel_rfl) ?_ _
    have e0 := r6r.frozen 0
    have e1 := r6r.frozen 1
    have e2 := r6r.at 0 rfl
    have e3 := r6r.at 1 rfl
    go_wp2
    have rr := (r6r.set 0 (.slice (some ⟨g, 0, none⟩) R.length yc)).set 1 (.slice sa sn sc)
    have k0 := rr.at 0 rfl; have k1 := rr.at 1 rfl
    refine bodyPost_ret (by simp [results, Try.results17, go_sem, k0, k1]; rfl) rfl ?_
    rw [hD.out]
    refine ⟨_, _, rfl, ?_, ?_, Below.setCell (p := ⟨w.heap.size + 1 + 1, 1, none⟩) (Below.setCell (p := ⟨w.heap.size + 1 + 1, 0, none⟩) hT6r (by simp only; omega) _) (by simp only; omega) _⟩
    · exact ((OR6r.oth _ _ _ (by omega)).oth _ _ _ (by omega)).rebase (fun i hi => by have h1 := OR6r.ge hi; omega)
    · exact ((OA6r.oth _ _ _ (by omega)).oth _ _ _ (by omega)).rebase (fun i hi => by have h1 := OA6r.ge hi; omega)
  have hwb : (R[k].why == 0) = false := beq_eq_false_iff_ne.2 hw
  rw [spoil_same hrok.out hw, List.set_getElem_self] at hF0
  have hD : Hid (overB 0 (endD R A se (xf, xg, xb) true false) = (R, L2, R[k].why, 0)) := Lib.hid (by unfold overB; rw [if_pos rfl, hF0])
  clear hF0 hie0 hL2 hw
  go_wp2_with (first | (go_at_call 19; (with_reducible refine (dat_yes _ _ _ R A (xf, xg, xb) k HRs2 HAs2 hris.out hk hkx'.out).mono ?_); rintro e w3 ⟨rfl, hB3⟩; have t3 := ts2.pure hB3; have x3 := xs2.pure hB3; have r3 := rs2.pure hB3; have HR3 := HRs2.pure hB3; have HA3 := HAs2.pure hB3; have OR3 := ORs2.pure hB3; have OA3 := OAs2.pure hB3; have hT3 := hTs2.trans (hB3.mono hTs2.size); have hW3 := Nat.le_trans hWs2 hB3.size; clear ct0_2 ct1_2 cx0_2 cx1_2 cx2_2 cr0_2 cr1_2 zt0_2 zt1_2 zr0_2 zr1_2 ct0_s2 ct1_s2 cx0_s2 cx1_s2 cx2_s2 cr0_s2 cr1_s2 zt0_s2 zt1_s2 zr0_s2 zr1_s2; have ct0_3 := t3.at 0 rfl; have ct1_3 := t3.at 1 rfl; have cx0_3 := x3.at 0 rfl; have cx1_3 := x3.at 1 rfl; have cx2_3 := x3.at 2 rfl; obtain ⟨q0_3, q1_3, q2_3, q3_3, q4_3, q5_3, q6_3⟩ := br_cells HR3 hk; simp only [Nat.zero_add] at q0_3 q1_3 q2_3 q3_3 q4_3 q5_3 q6_3) | (go_at_call 61; (with_reducible refine (rfind_yes _ _ A se (xf, xg, xb) i HA3 hria.out hLA hi hie.out).mono ?_); rintro e w4 ⟨rfl, hB4⟩; have t4 := t3.pure hB4; have x4 := x3.pure hB4; have r4 := r3.pure hB4; have HR4 := HR3.pure hB4; have HA4 := HA3.pure hB4; have OR4 := OR3.pure hB4; have OA4 := OA3.pure hB4; have hT4 := hT3.trans (hB4.mono hT3.size); have hW4 := Nat.le_trans hW3 hB4.size; clear ct0_3 ct1_3 cx0_3 cx1_3 cx2_3 q0_3 q1_3 q2_3 q3_3 q4_3 q5_3 q6_3; have ct0_4 := t4.at 0 rfl; have ct1_4 := t4.at 1 rfl; have cx0_4 := x4.at 0 rfl; have cx1_4 := x4.at 1 rfl; have cx2_4 := x4.at 2 rfl; obtain ⟨q0_4, q1_4, q2_4, q3_4, q4_4, q5_4, q6_4⟩ := br_cells HR4 hk; simp only [Nat.zero_add] at q0_4 q1_4 q2_4 q3_4 q4_4 q5_4 q6_4) | (go_at_call 70; (with_reducible refine (rend2 _ _ A se (xf, xg, xb) L2 HA4 hLA hen.out).mono ?_); rintro e w5 ⟨r5, rfl, hN5, hB5⟩; obtain ⟨sa, sn, sc, rfl⟩ := hN5.shape3; have t5 := t4.pure hB5; have x5 := x4.pure hB5; have r5 := r4.pure hB5; have HR5 := HR4.pure hB5; have OR5 := OR4.pure hB5; have hT5 := hT4.trans (hB5.mono hT4.size); clear ct0_4 ct1_4 cx0_4 cx1_4 cx2_4 q0_4 q1_4 q2_4 q3_4 q4_4 q5_4 q6_4; have ct0_5 := t5.at 0 rfl; have ct1_5 := t5.at 1 rfl; have cx0_5 := x5.at 0 rfl; have cx1_5 := x5.at 1 rfl; have cx2_5 := x5.at 2 rfl; have cr0_5 := r5.at 0 rfl; have cr1_5 := r5.at 1 rfl; have zt0_5 := t5.frozen 0; have zt1_5 := t5.frozen 1; have zr0_5 := r5.frozen 0; have zr1_5 := r5.frozen 1; obtain ⟨q0_5, q1_5, q2_5, q3_5, q4_5, q5_5, q6_5⟩ := br_cells HR5 hk; simp only [Nat.zero_add] at q0_5 q1_5 q2_5 q3_5 q4_5 q5_5 q6_5; have OA5 := hN5.rebase (b' := w.heap.size + 3) (fun i hi => Nat.le_trans hW4 (hN5.ge hi)); have ts5 := (t5.set 1 (.slice sa sn sc)); have xs5 := (x5.other ⟨w.heap.size, 1, none⟩ (.slice sa sn sc) (by simp only; omega)); have rs5 := (r5.other ⟨w.heap.size, 1, none⟩ (.slice sa sn sc) (by simp only; omega)); have ORs5 := (OR5.oth (w.heap.size) 1 (.slice sa sn sc) (by omega)); have OAs5 := (OA5.oth (w.heap.size) 1 (.slice sa sn sc) (by omega)); have hTs5 := (Below.setCell (p := ⟨w.heap.size, 1, none⟩) hT5 (by simp only; omega) (.slice sa sn sc)); have HRs5 := ORs5.slc brEnc_len; have ct0_s5 := ts5.at 0 rfl; have ct1_s5 := ts5.at 1 rfl; have cx0_s5 := xs5.at 0 rfl; have cx1_s5 := xs5.at 1 rfl; have cx2_s5 := xs5.at 2 rfl; have cr0_s5 := rs5.at 0 rfl; have cr1_s5 := rs5.at 1 rfl; have zt0_s5 := ts5.frozen 0; have zt1_s5 := ts5.frozen 1; have zr0_s5 := rs5.frozen 0; have zr1_s5 := rs5.frozen 1; obtain ⟨q0_s5, q1_s5, q2_s5, q3_s5, q4_s5, q5_s5, q6_s5⟩ := br_cells HRs5 hk; simp only [Nat.zero_add] at q0_s5 q1_s5 q2_s5 q3_s5 q4_s5 q5_s5 q6_s5; have hdis := Lib.hid (fun (i : Nat) (hi : Value.ownBlock (.slice sa sn sc) = some i) (e : i = g) => own_apart ORs5 OAs5 (by decide) rfl (by rw [hi, e]))))
  have rr := (rs5.set 0 (.slice (some ⟨g, 0, none⟩) R.length yc)).set 1 (.slice sa sn sc)
  have k0 := rr.at 0 rfl; have k1 := rr.at 1 rfl
  refine bodyPost_ret (by simp [results, Try.results17, go_sem, k0, k1]; rfl) rfl ?_
  rw [hD.out]
  refine ⟨_, _, rfl, ?_, ?_, Below.setCell (p := ⟨w.heap.size + 1 + 1, 1, none⟩) (Below.setCell (p := ⟨w.heap.size + 1 + 1, 0, none⟩) hTs5 (by simp only; omega) _) (by simp only; omega) _⟩
  · exact ((ORs5.oth _ _ _ (by omega)).oth _ _ _ (by omega)).rebase (fun i hi => by have h1 := ORs5.ge hi; omega)
  · exact ((OAs5.oth _ _ _ (by omega)).oth _ _ _ (by omega)).rebase (fun i hi => by have h1 := OAs5.ge hi; omega)
theorem dend_any (w : World) (rv av : Value) (R : List Brn) (A : List Asc) (x : Xid) (se : Int) (ja rb : Bool) (hR : Slc brEnc 7 w rv R) (hA : Slc ascEnc 5 w av A) (hLR : R.length ≤ 1000000) (hLA : A.length ≤ 1000000) (htm : ∀ b ∈ R, 0 ≤ b.tm) :
    Calls Try.prog 17 #[.agg #[rv, av], .int .u64 se, .agg #[.int .u32 x.1, .string x.2.1, .string x.2.2], .bool ja, .bool rb] w (TabPost w (overB (mayB R A (okS se ja rb) x) (endD R A se x ja rb))) := by
  by_cases hm : mayB R A (okS se ja rb) x = 0
  rotate_left 1
  · exact dend_no w rv av R A x se ja rb hR hA hLR hLA htm hm
  have hok := (mayB_zero hm).2.1
  have hse : se ≠ 0 := by intro e; rw [e] at hok; simp [okS] at hok
  have hm2 := hm
  rw [hok] at hm2
  rw [hm]
  cases ja <;> cases rb
  · exact dend_ff w rv av R A x se hR hA hLR hLA htm hse hm2
  · exact dend_ft w rv av R A x se hR hA hLR hLA htm hse hm2
  · exact dend_tf w rv av R A x se hR hA hLR hLA htm hse hm2
  · simp [okS] at hok
end Go.Proofs.Ytcelpincmpjhkaa
