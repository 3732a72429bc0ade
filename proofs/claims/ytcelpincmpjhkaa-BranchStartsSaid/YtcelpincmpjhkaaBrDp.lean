/- Chapter 19, the document's side: Start. Conditions: rows and associations read; no timeout is negative; at most a million of each. Written by gen_brDp.py. -/
import Derived.Test.YtcelpincmpjhkaaBrDi
import Derived.Test.YtcelpincmpjhkaaHN
import Derived.Test.YtcelpincmpjhkaaBrU
import Derived.Test.YtcelpincmpjhkaaAssocU
namespace Go.Proofs.Ytcelpincmpjhkaa
set_option linter.unusedSimpArgs false
set_option linter.unusedVariables false
open Go.RowKit
theorem own_at7 {base : Nat} {e : TypeId} {w : World} {a : Option Addr} {n c : Nat} {R : List Brn} (h : Own base e 7 brEnc w (.slice a n c) R) {k : Nat} (hk : k < R.length) : ∃ g, a = some ⟨g, 0, none⟩ ∧ base ≤ g := by
  rcases h.cases with ⟨_, h2⟩ | ⟨g, cap, h1, h2, _⟩
  · rw [h2] at hk; simp at hk
  · simp only [Value.slice.injEq] at h1; exact ⟨g, h1.1, h2⟩
theorem ractive2 (w : World) (v : Value) (L : List Asc) (s : Int) (b : Bool) (hs : Slc ascEnc 5 w v L) (hL : L.length ≤ 1000000) (hb : (actA L s).isSome = b) :
    Calls Try.prog 58 #[v, .int .u64 s] w fun e w' => ∃ y : Xid, e = .returned (.tuple #[.agg #[.int .u32 y.1, .string y.2.1, .string y.2.2], .bool b]) ∧ Below w.heap.size w w' :=
  (ractive_any w v L s hs hL).mono (fun e w' h => ⟨_, by rw [← hb]; exact h.1, h.2⟩)
theorem rstart2 (w : World) (v : Value) (L : List Asc) (s : Int) (y : Xid) (L2 : List Asc) (hs : Slc ascEnc 5 w v L) (hL : L.length ≤ 1000000) (h : startF L s y = (L2, 0)) :
    Calls Try.prog 60 #[v, .int .u64 s, .agg #[.int .u32 y.1, .string y.2.1, .string y.2.2]] w fun e w' => ∃ r, e = .returned (.tuple #[r, .int .i64 0]) ∧ Own w.heap.size 57 5 ascEnc w' r L2 ∧ Below w.heap.size w w' := by
  have := rstart_any w v L s y hs hL; rw [h] at this; exact this
theorem rresume2 (w : World) (v : Value) (L : List Asc) (s : Int) (y : Xid) (L2 : List Asc) (hs : Slc ascEnc 5 w v L) (hL : L.length ≤ 1000000) (h : resumeF L s y = (L2, 0)) :
    Calls Try.prog 62 #[v, .int .u64 s, .agg #[.int .u32 y.1, .string y.2.1, .string y.2.2]] w fun e w' => ∃ r, e = .returned (.tuple #[r, .int .i64 0]) ∧ Own w.heap.size 57 5 ascEnc w' r L2 ∧ Below w.heap.size w w' := by
  have := rresume_any w v L s y hs hL; rw [h] at this; exact this
theorem start_fresh {L : List Asc} {s : Int} {x : Xid} (h : RowA L) (hs : s ≠ 0) (hx : XidOk x) (ha : (actA L s).isSome = false) (hm : ¬ Mem L s x) : ∃ L2, startF L s x = (L2, 0) := by
  unfold startF; rw [if_pos (mayz_yes h hs hx), if_neg (by rw [ha]; simp), idx_no hm]; exact ⟨_, rfl⟩
theorem start_there {L : List Asc} {s : Int} {x : Xid} {j : Nat} (h : RowA L) (hs : s ≠ 0) (hx : XidOk x) (ha : (actA L s).isSome = false) (hj : j < L.length) (he : keyA L[j] = (s, x)) : startF L s x = ([], 8) := by
  unfold startF; rw [if_pos (mayz_yes h hs hx), if_neg (by rw [ha]; simp), idx_yes h.rises hj he]
theorem resume_fresh {L : List Asc} {s : Int} {x : Xid} (h : RowA L) (hs : s ≠ 0) (hx : XidOk x) (ha : (actA L s).isSome = false) (hm : ¬ Mem L s x) : resumeF L s x = ([], 7) := by
  unfold resumeF; rw [if_pos (mayz_yes h hs hx), if_neg (by rw [ha]; simp), idx_no hm]
theorem resume_there {L : List Asc} {s : Int} {x : Xid} {j : Nat} (h : RowA L) (hs : s ≠ 0) (hx : XidOk x) (ha : (actA L s).isSome = false) (hj : j < L.length) (he : keyA L[j] = (s, x)) : ∃ L2, resumeF L s x = (L2, 0) := by
  unfold resumeF; rw [if_pos (mayz_yes h hs hx), if_neg (by rw [ha]; simp), idx_yes h.rises hj he]; exact ⟨_, rfl⟩
theorem mem_row {R : List Brn} {A : List Asc} {s : Int} {x : Xid} (hT : TabOk R A) (hm : Mem A s x) : MemB R x := by
  obtain ⟨j, hj, he⟩ := hm
  obtain ⟨c, hc, h1, _⟩ := hT.2.2 _ (List.getElem_mem hj)
  obtain ⟨i, hi, rfl⟩ := List.getElem_of_mem hc
  exact ⟨i, hi, h1.trans (congrArg Prod.snd he)⟩


set_option maxRecDepth 100000 in
set_option maxHeartbeats 6400000 in
theorem dstart_no (w : World) (rv av : Value) (R : List Brn) (A : List Asc) (x : Xid) (se : Int) (ja rb : Bool) (hR : Slc brEnc 7 w rv R) (hA : Slc ascEnc 5 w av A) (hLR : R.length ≤ 1000000) (hLA : A.length ≤ 1000000) (htm : ∀ b ∈ R, 0 ≤ b.tm) (hno : mayB R A (okS se ja rb) x ≠ 0) :
    Calls Try.prog 14 #[.agg #[rv, av], .int .u64 se, .agg #[.int .u32 x.1, .string x.2.1, .string x.2.2], .bool ja, .bool rb] w (TabPost w (overB (mayB R A (okS se ja rb) x) (startD R A se x ja rb))) := by
  obtain ⟨ra, rc, rfl, -⟩ := hR.len
  obtain ⟨aa, ac, rfl, -⟩ := hA.len
  obtain ⟨xf, xg, xb⟩ := x
  have hT0 : Below w.heap.size w (((w.alloc (.cells #[.slice ra R.length rc, .slice aa A.length ac] 25)).alloc (.cells #[.int .u32 xf, .string xg, .string xb] 28)).alloc (.cells #[.slice none 0 0, .slice none 0 0] 25)) := ((((Below.refl w.heap.size w).alloc (Nat.le_refl _) _).alloc (by simp) _).alloc (by simp; omega) _)
  have hW0 : w.heap.size + 3 ≤ (((w.alloc (.cells #[.slice ra R.length rc, .slice aa A.length ac] 25)).alloc (.cells #[.int .u32 xf, .string xg, .string xb] 28)).alloc (.cells #[.slice none 0 0, .slice none 0 0] 25)).heap.size := by simp
  have t0 : Blk (((w.alloc (.cells #[.slice ra R.length rc, .slice aa A.length ac] 25)).alloc (.cells #[.int .u32 xf, .string xg, .string xb] 28)).alloc (.cells #[.slice none 0 0, .slice none 0 0] 25)) (w.heap.size) [.slice ra R.length rc, .slice aa A.length ac] := (((Blk.newAt2 w [.slice ra R.length rc, .slice aa A.length ac] 25 (w.heap.size) (by simp)).alloc (.cells #[.int .u32 xf, .string xg, .string xb] 28)).alloc (.cells #[.slice none 0 0, .slice none 0 0] 25))
  have x0 : Blk (((w.alloc (.cells #[.slice ra R.length rc, .slice aa A.length ac] 25)).alloc (.cells #[.int .u32 xf, .string xg, .string xb] 28)).alloc (.cells #[.slice none 0 0, .slice none 0 0] 25)) (w.heap.size + 1) [.int .u32 xf, .string xg, .string xb] := ((Blk.newAt2 (w.alloc (.cells #[.slice ra R.length rc, .slice aa A.length ac] 25)) [.int .u32 xf, .string xg, .string xb] 28 (w.heap.size + 1) (by simp)).alloc (.cells #[.slice none 0 0, .slice none 0 0] 25))
  have r0 : Blk (((w.alloc (.cells #[.slice ra R.length rc, .slice aa A.length ac] 25)).alloc (.cells #[.int .u32 xf, .string xg, .string xb] 28)).alloc (.cells #[.slice none 0 0, .slice none 0 0] 25)) (w.heap.size + 1 + 1) [.slice none 0 0, .slice none 0 0] := (Blk.newAt2 ((w.alloc (.cells #[.slice ra R.length rc, .slice aa A.length ac] 25)).alloc (.cells #[.int .u32 xf, .string xg, .string xb] 28)) [.slice none 0 0, .slice none 0 0] 25 (w.heap.size + 1 + 1) (by simp))
  have ct0_0 := t0.at 0 rfl
  have ct1_0 := t0.at 1 rfl
  have cx0_0 := x0.at 0 rfl
  have cx1_0 := x0.at 1 rfl
  have cx2_0 := x0.at 2 rfl
  have cr0_0 := r0.at 0 rfl
  have cr1_0 := r0.at 1 rfl
  have zt0_0 := t0.frozen 0
  have zt1_0 := t0.frozen 1
  have zr0_0 := r0.frozen 0
  have zr1_0 := r0.frozen 1
  have HR0 := hR.pure hT0; have HA0 := hA.pure hT0
  obtain ⟨m, hm⟩ : ∃ m, mayB R A (okS se ja rb) (xf, xg, xb) = m := ⟨_, rfl⟩
  have hmb : (m != 0) = true := bne_iff_ne.2 (by rw [← hm]; exact hno)
  have hD : Hid (overB (mayB R A (okS se ja rb) (xf, xg, xb)) (startD R A se (xf, xg, xb) ja rb) = errR m) := Lib.hid (by unfold overB; rw [if_neg hno, hm])
  clear hno
  by_cases hz : se = 0
  · have hzb : (se == 0) = true := by rw [hz]; rfl
    have hok : okS se ja rb = false := by unfold okS; rw [hz]; rfl
    have hmay : Hid (mayB R A (!true) (xf, xg, xb) = m) := Lib.hid (by rw [← hm, hok]; rfl)
    clear hz hok hm
    go_enter Try.func14, Try.ntmps14
    go_wp2_with (first | (go_at_call 56; (with_reducible refine (dmay_any _ _ _ R A true (xf, xg, xb) m HR0 HA0 hLR hLA htm hmay.out).mono ?_); rintro e w1 ⟨rfl, hB1⟩; have t1 := t0.pure hB1; have x1 := x0.pure hB1; have r1 := r0.pure hB1; have hT1 := hT0.trans (hB1.mono hT0.size); clear ct0_0 ct1_0 cx0_0 cx1_0 cx2_0 cr0_0 cr1_0 zt0_0 zt1_0 zr0_0 zr1_0; have ct0_1 := t1.at 0 rfl; have ct1_1 := t1.at 1 rfl; have cx0_1 := x1.at 0 rfl; have cx1_1 := x1.at 1 rfl; have cx2_1 := x1.at 2 rfl) | (go_at_call 57; (with_reducible refine (dno_any _ m).mono ?_); rintro e w2 ⟨rfl, hB2⟩; have t2 := t1.pure hB2; have x2 := x1.pure hB2; have r2 := r1.pure hB2; have hT2 := hT1.trans (hB2.mono hT1.size); clear ct0_1 ct1_1 cx0_1 cx1_1 cx2_1; have ct0_2 := t2.at 0 rfl; have ct1_2 := t2.at 1 rfl; have cx0_2 := x2.at 0 rfl; have cx1_2 := x2.at 1 rfl; have cx2_2 := x2.at 2 rfl; have cr0_2 := r2.at 0 rfl; have cr1_2 := r2.at 1 rfl; have zt0_2 := t2.frozen 0; have zt1_2 := t2.frozen 1; have zr0_2 := r2.frozen 0; have zr1_2 := r2.frozen 1))
    have rr := (r2.set 0 (.slice none 0 0)).set 1 (.slice none 0 0)
    have k0 := rr.at 0 rfl; have k1 := rr.at 1 rfl
    refine bodyPost_ret (by simp [results, Try.results14, go_sem, k0, k1]; rfl) rfl ?_
    rw [hD.out]
    refine ⟨_, _, rfl, ?_, ?_, Below.setCell (p := ⟨w.heap.size + 1 + 1, 1, none⟩) (Below.setCell (p := ⟨w.heap.size + 1 + 1, 0, none⟩) hT2 (by simp only; omega) _) (by simp only; omega) _⟩
    · exact Own.nil
    · exact Own.nil
  have hzb : (se == 0) = false := beq_eq_false_iff_ne.2 hz
  have hok : okS se ja rb = !(ja && rb) := by unfold okS; rw [decide_eq_true hz]; simp
  cases ja
  · have hmay : Hid (mayB R A (!false) (xf, xg, xb) = m) := Lib.hid (by rw [← hm, hok]; rfl)
    clear hz hok hm
    go_enter Try.func14, Try.ntmps14
    go_wp2_with (first | (go_at_call 56; (with_reducible refine (dmay_any _ _ _ R A false (xf, xg, xb) m HR0 HA0 hLR hLA htm hmay.out).mono ?_); rintro e w1 ⟨rfl, hB1⟩; have t1 := t0.pure hB1; have x1 := x0.pure hB1; have r1 := r0.pure hB1; have hT1 := hT0.trans (hB1.mono hT0.size); clear ct0_0 ct1_0 cx0_0 cx1_0 cx2_0 cr0_0 cr1_0 zt0_0 zt1_0 zr0_0 zr1_0; have ct0_1 := t1.at 0 rfl; have ct1_1 := t1.at 1 rfl; have cx0_1 := x1.at 0 rfl; have cx1_1 := x1.at 1 rfl; have cx2_1 := x1.at 2 rfl) | (go_at_call 57; (with_reducible refine (dno_any _ m).mono ?_); rintro e w2 ⟨rfl, hB2⟩; have t2 := t1.pure hB2; have x2 := x1.pure hB2; have r2 := r1.pure hB2; have hT2 := hT1.trans (hB2.mono hT1.size); clear ct0_1 ct1_1 cx0_1 cx1_1 cx2_1; have ct0_2 := t2.at 0 rfl; have ct1_2 := t2.at 1 rfl; have cx0_2 := x2.at 0 rfl; have cx1_2 := x2.at 1 rfl; have cx2_2 := x2.at 2 rfl; have cr0_2 := r2.at 0 rfl; have cr1_2 := r2.at 1 rfl; have zt0_2 := t2.frozen 0; have zt1_2 := t2.frozen 1; have zr0_2 := r2.frozen 0; have zr1_2 := r2.frozen 1))
    have rr := (r2.set 0 (.slice none 0 0)).set 1 (.slice none 0 0)
    have k0 := rr.at 0 rfl; have k1 := rr.at 1 rfl
    refine bodyPost_ret (by simp [results, Try.results14, go_sem, k0, k1]; rfl) rfl ?_
    rw [hD.out]
    refine ⟨_, _, rfl, ?_, ?_, Below.setCell (p := ⟨w.heap.size + 1 + 1, 1, none⟩) (Below.setCell (p := ⟨w.heap.size + 1 + 1, 0, none⟩) hT2 (by simp only; omega) _) (by simp only; omega) _⟩
    · exact Own.nil
    · exact Own.nil
  · have hmay : Hid (mayB R A (!rb) (xf, xg, xb) = m) := Lib.hid (by rw [← hm, hok]; cases rb <;> rfl)
    clear hz hok hm
    go_enter Try.func14, Try.ntmps14
    go_wp2_with (first | (go_at_call 56; (with_reducible refine (dmay_any _ _ _ R A rb (xf, xg, xb) m HR0 HA0 hLR hLA htm hmay.out).mono ?_); rintro e w1 ⟨rfl, hB1⟩; have t1 := t0.pure hB1; have x1 := x0.pure hB1; have r1 := r0.pure hB1; have hT1 := hT0.trans (hB1.mono hT0.size); clear ct0_0 ct1_0 cx0_0 cx1_0 cx2_0 cr0_0 cr1_0 zt0_0 zt1_0 zr0_0 zr1_0; have ct0_1 := t1.at 0 rfl; have ct1_1 := t1.at 1 rfl; have cx0_1 := x1.at 0 rfl; have cx1_1 := x1.at 1 rfl; have cx2_1 := x1.at 2 rfl) | (go_at_call 57; (with_reducible refine (dno_any _ m).mono ?_); rintro e w2 ⟨rfl, hB2⟩; have t2 := t1.pure hB2; have x2 := x1.pure hB2; have r2 := r1.pure hB2; have hT2 := hT1.trans (hB2.mono hT1.size); clear ct0_1 ct1_1 cx0_1 cx1_1 cx2_1; have ct0_2 := t2.at 0 rfl; have ct1_2 := t2.at 1 rfl; have cx0_2 := x2.at 0 rfl; have cx1_2 := x2.at 1 rfl; have cx2_2 := x2.at 2 rfl; have cr0_2 := r2.at 0 rfl; have cr1_2 := r2.at 1 rfl; have zt0_2 := t2.frozen 0; have zt1_2 := t2.frozen 1; have zr0_2 := r2.frozen 0; have zr1_2 := r2.frozen 1))
    have rr := (r2.set 0 (.slice none 0 0)).set 1 (.slice none 0 0)
    have k0 := rr.at 0 rfl; have k1 := rr.at 1 rfl
    refine bodyPost_ret (by simp [results, Try.results14, go_sem, k0, k1]; rfl) rfl ?_
    rw [hD.out]
    refine ⟨_, _, rfl, ?_, ?_, Below.setCell (p := ⟨w.heap.size + 1 + 1, 1, none⟩) (Below.setCell (p := ⟨w.heap.size + 1 + 1, 0, none⟩) hT2 (by simp only; omega) _) (by simp only; omega) _⟩
    · exact Own.nil
    · exact Own.nil

set_option maxRecDepth 100000 in
set_option maxHeartbeats 6400000 in
theorem dstart_ff (w : World) (rv av : Value) (R : List Brn) (A : List Asc) (x : Xid) (se : Int) (hR : Slc brEnc 7 w rv R) (hA : Slc ascEnc 5 w av A) (hLR : R.length ≤ 1000000) (hLA : A.length ≤ 1000000) (htm : ∀ b ∈ R, 0 ≤ b.tm) (hse : se ≠ 0) (hm0 : mayB R A true x = 0) :
    Calls Try.prog 14 #[.agg #[rv, av], .int .u64 se, .agg #[.int .u32 x.1, .string x.2.1, .string x.2.2], .bool false, .bool false] w (TabPost w (overB 0 (startD R A se x false false))) := by
  obtain ⟨ra, rc, rfl, -⟩ := hR.len
  obtain ⟨aa, ac, rfl, -⟩ := hA.len
  obtain ⟨xf, xg, xb⟩ := x
  have hT0 : Below w.heap.size w (((w.alloc (.cells #[.slice ra R.length rc, .slice aa A.length ac] 25)).alloc (.cells #[.int .u32 xf, .string xg, .string xb] 28)).alloc (.cells #[.slice none 0 0, .slice none 0 0] 25)) := ((((Below.refl w.heap.size w).alloc (Nat.le_refl _) _).alloc (by simp) _).alloc (by simp; omega) _)
  have hW0 : w.heap.size + 3 ≤ (((w.alloc (.cells #[.slice ra R.length rc, .slice aa A.length ac] 25)).alloc (.cells #[.int .u32 xf, .string xg, .string xb] 28)).alloc (.cells #[.slice none 0 0, .slice none 0 0] 25)).heap.size := by simp
  have t0 : Blk (((w.alloc (.cells #[.slice ra R.length rc, .slice aa A.length ac] 25)).alloc (.cells #[.int .u32 xf, .string xg, .string xb] 28)).alloc (.cells #[.slice none 0 0, .slice none 0 0] 25)) (w.heap.size) [.slice ra R.length rc, .slice aa A.length ac] := (((Blk.newAt2 w [.slice ra R.length rc, .slice aa A.length ac] 25 (w.heap.size) (by simp)).alloc (.cells #[.int .u32 xf, .string xg, .string xb] 28)).alloc (.cells #[.slice none 0 0, .slice none 0 0] 25))
  have x0 : Blk (((w.alloc (.cells #[.slice ra R.length rc, .slice aa A.length ac] 25)).alloc (.cells #[.int .u32 xf, .string xg, .string xb] 28)).alloc (.cells #[.slice none 0 0, .slice none 0 0] 25)) (w.heap.size + 1) [.int .u32 xf, .string xg, .string xb] := ((Blk.newAt2 (w.alloc (.cells #[.slice ra R.length rc, .slice aa A.length ac] 25)) [.int .u32 xf, .string xg, .string xb] 28 (w.heap.size + 1) (by simp)).alloc (.cells #[.slice none 0 0, .slice none 0 0] 25))
  have r0 : Blk (((w.alloc (.cells #[.slice ra R.length rc, .slice aa A.length ac] 25)).alloc (.cells #[.int .u32 xf, .string xg, .string xb] 28)).alloc (.cells #[.slice none 0 0, .slice none 0 0] 25)) (w.heap.size + 1 + 1) [.slice none 0 0, .slice none 0 0] := (Blk.newAt2 ((w.alloc (.cells #[.slice ra R.length rc, .slice aa A.length ac] 25)).alloc (.cells #[.int .u32 xf, .string xg, .string xb] 28)) [.slice none 0 0, .slice none 0 0] 25 (w.heap.size + 1 + 1) (by simp))
  have ct0_0 := t0.at 0 rfl
  have ct1_0 := t0.at 1 rfl
  have cx0_0 := x0.at 0 rfl
  have cx1_0 := x0.at 1 rfl
  have cx2_0 := x0.at 2 rfl
  have cr0_0 := r0.at 0 rfl
  have cr1_0 := r0.at 1 rfl
  have zt0_0 := t0.frozen 0
  have zt1_0 := t0.frozen 1
  have zr0_0 := r0.frozen 0
  have zr1_0 := r0.frozen 1
  have HR0 := hR.pure hT0; have HA0 := hA.pure hT0
  have hmay : Hid (mayB R A (!false) (xf, xg, xb) = 0) := Lib.hid hm0
  obtain ⟨hTab, -, hxok⟩ := mayB_zero hm0
  have hTb := Lib.hid hTab
  have hxk := Lib.hid hxok
  have hris := Lib.hid hTab.1.2
  have hria := Lib.hid hTab.2.1.rises
  have hzb : (se == 0) = false := beq_eq_false_iff_ne.2 hse
  have hsz := Lib.hid hse
  clear hm0 hse hTab hxok
  go_enter Try.func14, Try.ntmps14
  go_upto_region 5 with (first | (go_at_call 56; (with_reducible refine (dmay_any _ _ _ R A false (xf, xg, xb) 0 HR0 HA0 hLR hLA htm hmay.out).mono ?_); rintro e w1 ⟨rfl, hB1⟩; have t1 := t0.pure hB1; have x1 := x0.pure hB1; have r1 := r0.pure hB1; have HR1 := HR0.pure hB1; have HA1 := HA0.pure hB1; have hT1 := hT0.trans (hB1.mono hT0.size); have hW1 := Nat.le_trans hW0 hB1.size; clear ct0_0 ct1_0 cx0_0 cx1_0 cx2_0 cr0_0 cr1_0 zt0_0 zt1_0 zr0_0 zr1_0; have ct0_1 := t1.at 0 rfl; have ct1_1 := t1.at 1 rfl; have cx0_1 := x1.at 0 rfl; have cx1_1 := x1.at 1 rfl; have cx2_1 := x1.at 2 rfl) | (go_at_call 12; (with_reducible refine (dcopy_any _ _ _ R A HR1 HA1 hLR hLA).mono ?_); rintro e w2 ⟨rr2, aa2, rfl, hO2, hP2, hB2⟩; obtain ⟨ya, yc, rfl⟩ := own_len hO2; obtain ⟨ua, uc, rfl⟩ := own_len hP2; have OR2 := hO2.rebase (b' := w.heap.size + 3) (fun i hi => Nat.le_trans hW1 (hO2.ge hi)); have OA2 := hP2.rebase (b' := w.heap.size + 3) (fun i hi => Nat.le_trans hW1 (hP2.ge hi)); have t2 := t1.pure hB2; have x2 := x1.pure hB2; have r2 := r1.pure hB2; have hT2 := hT1.trans (hB2.mono hT1.size); have hW2 := Nat.le_trans hW1 hB2.size; clear ct0_1 ct1_1 cx0_1 cx1_1 cx2_1; have ct0_2 := t2.at 0 rfl; have ct1_2 := t2.at 1 rfl; have cx0_2 := x2.at 0 rfl; have cx1_2 := x2.at 1 rfl; have cx2_2 := x2.at 2 rfl; have cr0_2 := r2.at 0 rfl; have cr1_2 := r2.at 1 rfl; have zt0_2 := t2.frozen 0; have zt1_2 := t2.frozen 1; have zr0_2 := r2.frozen 0; have zr1_2 := r2.frozen 1; have ts2 := ((t2.set 0 (.slice ya R.length yc)).set 1 (.slice ua A.length uc)); have xs2 := ((x2.other ⟨w.heap.size, 0, none⟩ (.slice ya R.length yc) (by simp only; omega)).other ⟨w.heap.size, 1, none⟩ (.slice ua A.length uc) (by simp only; omega)); have rs2 := ((r2.other ⟨w.heap.size, 0, none⟩ (.slice ya R.length yc) (by simp only; omega)).other ⟨w.heap.size, 1, none⟩ (.slice ua A.length uc) (by simp only; omega)); have ORs2 := ((OR2.oth (w.heap.size) 0 (.slice ya R.length yc) (by omega)).oth (w.heap.size) 1 (.slice ua A.length uc) (by omega)); have OAs2 := ((OA2.oth (w.heap.size) 0 (.slice ya R.length yc) (by omega)).oth (w.heap.size) 1 (.slice ua A.length uc) (by omega)); have hTs2 := (Below.setCell (p := ⟨w.heap.size, 1, none⟩) (Below.setCell (p := ⟨w.heap.size, 0, none⟩) hT2 (by simp only; omega) (.slice ya R.length yc)) (by simp only; omega) (.slice ua A.length uc)); have hWs2 := (Nat.le_trans (Nat.le_trans hW2 (Upd.set (S := fun _ => True) (p := ⟨w.heap.size, 0, none⟩) trivial (.slice ya R.length yc)).size) (Upd.set (S := fun _ => True) (p := ⟨w.heap.size, 1, none⟩) trivial (.slice ua A.length uc)).size); have HRs2 := ORs2.slc brEnc_len; have HAs2 := OAs2.slc ascEnc_len; have ct0_s2 := ts2.at 0 rfl; have ct1_s2 := ts2.at 1 rfl; have cx0_s2 := xs2.at 0 rfl; have cx1_s2 := xs2.at 1 rfl; have cx2_s2 := xs2.at 2 rfl; have cr0_s2 := rs2.at 0 rfl; have cr1_s2 := rs2.at 1 rfl; have zt0_s2 := ts2.frozen 0; have zt1_s2 := ts2.frozen 1; have zr0_s2 := rs2.frozen 0; have zr1_s2 := rs2.frozen 1))
  obtain ⟨ab, hab⟩ : ∃ ab, (actA A se).isSome = ab := ⟨_, rfl⟩
  have hact := Lib.hid hab
  cases ab
  rotate_left 1
  · have hdum := True.intro
    have hD : Hid (overB 0 (startD R A se (xf, xg, xb) false false) = errR 9) := Lib.hid (by unfold overB startD; rw [if_pos rfl, if_pos hab])
    clear hab
    go_wp2_with (first | (go_at_call 58; (with_reducible refine (ractive2 _ _ A se true HAs2 hLA hact.out).mono ?_); rintro e w3 ⟨yy, rfl, hB3⟩; have t3 := ts2.pure hB3; have x3 := xs2.pure hB3; have r3 := rs2.pure hB3; have HR3 := HRs2.pure hB3; have HA3 := HAs2.pure hB3; have OR3 := ORs2.pure hB3; have OA3 := OAs2.pure hB3; have hT3 := hTs2.trans (hB3.mono hTs2.size); have hW3 := Nat.le_trans hWs2 hB3.size; clear ct0_2 ct1_2 cx0_2 cx1_2 cx2_2 cr0_2 cr1_2 zt0_2 zt1_2 zr0_2 zr1_2 ct0_s2 ct1_s2 cx0_s2 cx1_s2 cx2_s2 cr0_s2 cr1_s2 zt0_s2 zt1_s2 zr0_s2 zr1_s2; have ct0_3 := t3.at 0 rfl; have ct1_3 := t3.at 1 rfl; have cx0_3 := x3.at 0 rfl; have cx1_3 := x3.at 1 rfl; have cx2_3 := x3.at 2 rfl; have hBb3 := (Below.refl w3.heap.size w3).alloc (Nat.le_refl _) (.cells #[.int .u32 yy.1, .string yy.2.1, .string yy.2.2] 28); have yb3 := Blk.new w3 [.int .u32 yy.1, .string yy.2.1, .string yy.2.2] 28; have tb3 := t3.pure hBb3; have xb3 := x3.pure hBb3; have rb3 := r3.pure hBb3; have HRb3 := HR3.pure hBb3; have HAb3 := HA3.pure hBb3; have ORb3 := OR3.pure hBb3; have OAb3 := OA3.pure hBb3; have hTb3 := hT3.trans (hBb3.mono hT3.size); have hWb3 := Nat.le_trans hW3 hBb3.size; have ct0_b3 := tb3.at 0 rfl; have ct1_b3 := tb3.at 1 rfl; have cx0_b3 := xb3.at 0 rfl; have cx1_b3 := xb3.at 1 rfl; have cx2_b3 := xb3.at 2 rfl; have cy0_b3 := yb3.at 0 rfl; have cy1_b3 := yb3.at 1 rfl; have cy2_b3 := yb3.at 2 rfl) | (go_at_call 57; (with_reducible refine (dno_any _ 9).mono ?_); rintro e w4 ⟨rfl, hB4⟩; have t4 := tb3.pure hB4; have x4 := xb3.pure hB4; have r4 := rb3.pure hB4; have y4 := yb3.pure hB4; have HR4 := HRb3.pure hB4; have HA4 := HAb3.pure hB4; have OR4 := ORb3.pure hB4; have OA4 := OAb3.pure hB4; have hT4 := hTb3.trans (hB4.mono hTb3.size); have hW4 := Nat.le_trans hWb3 hB4.size; clear ct0_3 ct1_3 cx0_3 cx1_3 cx2_3 ct0_b3 ct1_b3 cx0_b3 cx1_b3 cx2_b3 cy0_b3 cy1_b3 cy2_b3; have ct0_4 := t4.at 0 rfl; have ct1_4 := t4.at 1 rfl; have cx0_4 := x4.at 0 rfl; have cx1_4 := x4.at 1 rfl; have cx2_4 := x4.at 2 rfl; have cr0_4 := r4.at 0 rfl; have cr1_4 := r4.at 1 rfl; have cy0_4 := y4.at 0 rfl; have cy1_4 := y4.at 1 rfl; have cy2_4 := y4.at 2 rfl; have zt0_4 := t4.frozen 0; have zt1_4 := t4.frozen 1; have zr0_4 := r4.frozen 0; have zr1_4 := r4.frozen 1))
    have rr := (r4.set 0 (.slice none 0 0)).set 1 (.slice none 0 0)
    have k0 := rr.at 0 rfl; have k1 := rr.at 1 rfl
    refine bodyPost_ret (by simp [results, Try.results14, go_sem, k0, k1]; rfl) rfl ?_
    rw [hD.out]
    refine ⟨_, _, rfl, ?_, ?_, Below.setCell (p := ⟨w.heap.size + 1 + 1, 1, none⟩) (Below.setCell (p := ⟨w.heap.size + 1 + 1, 0, none⟩) hT4 (by simp only; omega) _) (by simp only; omega) _⟩
    · exact Own.nil
    · exact Own.nil
  have hF0 : startD R A se (xf, xg, xb) false false = startD R A se (xf, xg, xb) false false := rfl
  conv at hF0 => rhs; unfold startD
  rw [if_neg (by rw [hab]; simp)] at hF0
  clear hab
  rw [if_pos ⟨rfl, rfl⟩] at hF0
  rcases Classical.em (MemB R (xf, xg, xb)) with hm | hm
  · obtain ⟨k, hk, hkx⟩ := hm
    have hkx' := Lib.hid hkx
    have hkd : decide ((0 : Int) ≤ (k : Int)) = true := decide_eq_true (by omega)
    rw [idxB_yes hris.out hk hkx] at hF0
    have hD : Hid (overB 0 (startD R A se (xf, xg, xb) false false) = errR 8) := Lib.hid (by unfold overB; rw [if_pos rfl, hF0])
    clear hF0 hkx
    go_wp2_with (first | (go_at_call 58; (with_reducible refine (ractive2 _ _ A se false HAs2 hLA hact.out).mono ?_); rintro e w3 ⟨yy, rfl, hB3⟩; have t3 := ts2.pure hB3; have x3 := xs2.pure hB3; have r3 := rs2.pure hB3; have HR3 := HRs2.pure hB3; have HA3 := HAs2.pure hB3; have OR3 := ORs2.pure hB3; have OA3 := OAs2.pure hB3; have hT3 := hTs2.trans (hB3.mono hTs2.size); have hW3 := Nat.le_trans hWs2 hB3.size; clear ct0_2 ct1_2 cx0_2 cx1_2 cx2_2 cr0_2 cr1_2 zt0_2 zt1_2 zr0_2 zr1_2 ct0_s2 ct1_s2 cx0_s2 cx1_s2 cx2_s2 cr0_s2 cr1_s2 zt0_s2 zt1_s2 zr0_s2 zr1_s2; have ct0_3 := t3.at 0 rfl; have ct1_3 := t3.at 1 rfl; have cx0_3 := x3.at 0 rfl; have cx1_3 := x3.at 1 rfl; have cx2_3 := x3.at 2 rfl; have hBb3 := (Below.refl w3.heap.size w3).alloc (Nat.le_refl _) (.cells #[.int .u32 yy.1, .string yy.2.1, .string yy.2.2] 28); have yb3 := Blk.new w3 [.int .u32 yy.1, .string yy.2.1, .string yy.2.2] 28; have tb3 := t3.pure hBb3; have xb3 := x3.pure hBb3; have rb3 := r3.pure hBb3; have HRb3 := HR3.pure hBb3; have HAb3 := HA3.pure hBb3; have ORb3 := OR3.pure hBb3; have OAb3 := OA3.pure hBb3; have hTb3 := hT3.trans (hBb3.mono hT3.size); have hWb3 := Nat.le_trans hW3 hBb3.size; have ct0_b3 := tb3.at 0 rfl; have ct1_b3 := tb3.at 1 rfl; have cx0_b3 := xb3.at 0 rfl; have cx1_b3 := xb3.at 1 rfl; have cx2_b3 := xb3.at 2 rfl; have cy0_b3 := yb3.at 0 rfl; have cy1_b3 := yb3.at 1 rfl; have cy2_b3 := yb3.at 2 rfl) | (go_at_call 19; (with_reducible refine (dat_yes _ _ _ R A (xf, xg, xb) k HRb3 HAb3 hris.out hk hkx'.out).mono ?_); rintro e w4 ⟨rfl, hB4⟩; have t4 := tb3.pure hB4; have x4 := xb3.pure hB4; have r4 := rb3.pure hB4; have y4 := yb3.pure hB4; have HR4 := HRb3.pure hB4; have HA4 := HAb3.pure hB4; have OR4 := ORb3.pure hB4; have OA4 := OAb3.pure hB4; have hT4 := hTb3.trans (hB4.mono hTb3.size); have hW4 := Nat.le_trans hWb3 hB4.size; clear ct0_3 ct1_3 cx0_3 cx1_3 cx2_3 ct0_b3 ct1_b3 cx0_b3 cx1_b3 cx2_b3 cy0_b3 cy1_b3 cy2_b3; have ct0_4 := t4.at 0 rfl; have ct1_4 := t4.at 1 rfl; have cx0_4 := x4.at 0 rfl; have cx1_4 := x4.at 1 rfl; have cx2_4 := x4.at 2 rfl; have cy0_4 := y4.at 0 rfl; have cy1_4 := y4.at 1 rfl; have cy2_4 := y4.at 2 rfl) | (go_at_call 57; (with_reducible refine (dno_any _ 8).mono ?_); rintro e w5 ⟨rfl, hB5⟩; have t5 := t4.pure hB5; have x5 := x4.pure hB5; have r5 := r4.pure hB5; have y5 := y4.pure hB5; have OR5 := OR4.pure hB5; have OA5 := OA4.pure hB5; have hT5 := hT4.trans (hB5.mono hT4.size); have hW5 := Nat.le_trans hW4 hB5.size; clear ct0_4 ct1_4 cx0_4 cx1_4 cx2_4 cy0_4 cy1_4 cy2_4; have ct0_5 := t5.at 0 rfl; have ct1_5 := t5.at 1 rfl; have cx0_5 := x5.at 0 rfl; have cx1_5 := x5.at 1 rfl; have cx2_5 := x5.at 2 rfl; have cr0_5 := r5.at 0 rfl; have cr1_5 := r5.at 1 rfl; have cy0_5 := y5.at 0 rfl; have cy1_5 := y5.at 1 rfl; have cy2_5 := y5.at 2 rfl; have zt0_5 := t5.frozen 0; have zt1_5 := t5.frozen 1; have zr0_5 := r5.frozen 0; have zr1_5 := r5.frozen 1))
    have rr := (r5.set 0 (.slice none 0 0)).set 1 (.slice none 0 0)
    have k0 := rr.at 0 rfl; have k1 := rr.at 1 rfl
    refine bodyPost_ret (by simp [results, Try.results14, go_sem, k0, k1]; rfl) rfl ?_
    rw [hD.out]
    refine ⟨_, _, rfl, ?_, ?_, Below.setCell (p := ⟨w.heap.size + 1 + 1, 1, none⟩) (Below.setCell (p := ⟨w.heap.size + 1 + 1, 0, none⟩) hT5 (by simp only; omega) _) (by simp only; omega) _⟩
    · exact Own.nil
    · exact Own.nil
  have hn := Lib.hid hm
  obtain ⟨A2, hA2⟩ := start_fresh hTb.out.2.1 hsz.out hxk.out hact.out (fun h => hm (mem_row hTb.out h))
  have hst := Lib.hid hA2
  rw [idxB_no hm] at hF0
  simp only [hA2, if_true] at hF0
  have hD : Hid (overB 0 (startD R A se (xf, xg, xb) false false) = (insB R (placeM R (xf, xg, xb)) (newB (xf, xg, xb) 1), A2, 0, 0)) := Lib.hid (by unfold overB; rw [if_pos rfl, hF0])
  clear hF0 hA2 hm
  go_wp2_with (first | (go_at_call 58; (with_reducible refine (ractive2 _ _ A se false HAs2 hLA hact.out).mono ?_); rintro e w3 ⟨yy, rfl, hB3⟩; have t3 := ts2.pure hB3; have x3 := xs2.pure hB3; have r3 := rs2.pure hB3; have HR3 := HRs2.pure hB3; have HA3 := HAs2.pure hB3; have OR3 := ORs2.pure hB3; have OA3 := OAs2.pure hB3; have hT3 := hTs2.trans (hB3.mono hTs2.size); have hW3 := Nat.le_trans hWs2 hB3.size; clear ct0_2 ct1_2 cx0_2 cx1_2 cx2_2 cr0_2 cr1_2 zt0_2 zt1_2 zr0_2 zr1_2 ct0_s2 ct1_s2 cx0_s2 cx1_s2 cx2_s2 cr0_s2 cr1_s2 zt0_s2 zt1_s2 zr0_s2 zr1_s2; have ct0_3 := t3.at 0 rfl; have ct1_3 := t3.at 1 rfl; have cx0_3 := x3.at 0 rfl; have cx1_3 := x3.at 1 rfl; have cx2_3 := x3.at 2 rfl; have hBb3 := (Below.refl w3.heap.size w3).alloc (Nat.le_refl _) (.cells #[.int .u32 yy.1, .string yy.2.1, .string yy.2.2] 28); have yb3 := Blk.new w3 [.int .u32 yy.1, .string yy.2.1, .string yy.2.2] 28; have tb3 := t3.pure hBb3; have xb3 := x3.pure hBb3; have rb3 := r3.pure hBb3; have HRb3 := HR3.pure hBb3; have HAb3 := HA3.pure hBb3; have ORb3 := OR3.pure hBb3; have OAb3 := OA3.pure hBb3; have hTb3 := hT3.trans (hBb3.mono hT3.size); have hWb3 := Nat.le_trans hW3 hBb3.size; have ct0_b3 := tb3.at 0 rfl; have ct1_b3 := tb3.at 1 rfl; have cx0_b3 := xb3.at 0 rfl; have cx1_b3 := xb3.at 1 rfl; have cx2_b3 := xb3.at 2 rfl; have cy0_b3 := yb3.at 0 rfl; have cy1_b3 := yb3.at 1 rfl; have cy2_b3 := yb3.at 2 rfl) | (go_at_call 19; (with_reducible refine (dat_no _ _ _ R A (xf, xg, xb) HRb3 HAb3 hn.out).mono ?_); rintro e w4 ⟨rfl, hB4⟩; have t4 := tb3.pure hB4; have x4 := xb3.pure hB4; have r4 := rb3.pure hB4; have y4 := yb3.pure hB4; have HR4 := HRb3.pure hB4; have HA4 := HAb3.pure hB4; have OR4 := ORb3.pure hB4; have OA4 := OAb3.pure hB4; have hT4 := hTb3.trans (hB4.mono hTb3.size); have hW4 := Nat.le_trans hWb3 hB4.size; clear ct0_3 ct1_3 cx0_3 cx1_3 cx2_3 ct0_b3 ct1_b3 cx0_b3 cx1_b3 cx2_b3 cy0_b3 cy1_b3 cy2_b3; have ct0_4 := t4.at 0 rfl; have ct1_4 := t4.at 1 rfl; have cx0_4 := x4.at 0 rfl; have cx1_4 := x4.at 1 rfl; have cx2_4 := x4.at 2 rfl; have cy0_4 := y4.at 0 rfl; have cy1_4 := y4.at 1 rfl; have cy2_4 := y4.at 2 rfl) | (go_at_call 59; (with_reducible refine (dwith_new _ _ _ R A (xf, xg, xb) 1 HR4 HA4 hLR hTb.out hxk.out).mono ?_); rintro e w5 ⟨rw, rfl, hQ5, hB5⟩; obtain ⟨va, vn, vc, rfl⟩ := hQ5.shape3; have t5 := t4.pure hB5; have x5 := x4.pure hB5; have r5 := r4.pure hB5; have y5 := y4.pure hB5; have OA5 := OA4.pure hB5; have hT5 := hT4.trans (hB5.mono hT4.size); have hW5 := Nat.le_trans hW4 hB5.size; clear ct0_4 ct1_4 cx0_4 cx1_4 cx2_4 cy0_4 cy1_4 cy2_4; have ct0_5 := t5.at 0 rfl; have ct1_5 := t5.at 1 rfl; have cx0_5 := x5.at 0 rfl; have cx1_5 := x5.at 1 rfl; have cx2_5 := x5.at 2 rfl; have cy0_5 := y5.at 0 rfl; have cy1_5 := y5.at 1 rfl; have cy2_5 := y5.at 2 rfl; have zt0_5 := t5.frozen 0; have zt1_5 := t5.frozen 1; have OR5 := hQ5.rebase (b' := w.heap.size + 3) (fun i hi => Nat.le_trans hW4 (hQ5.ge hi)); have ts5 := ((t5.set 0 (.slice va vn vc)).set 1 (.slice ua A.length uc)); have xs5 := ((x5.other ⟨w.heap.size, 0, none⟩ (.slice va vn vc) (by simp only; omega)).other ⟨w.heap.size, 1, none⟩ (.slice ua A.length uc) (by simp only; omega)); have rs5 := ((r5.other ⟨w.heap.size, 0, none⟩ (.slice va vn vc) (by simp only; omega)).other ⟨w.heap.size, 1, none⟩ (.slice ua A.length uc) (by simp only; omega)); have ys5 := ((y5.other ⟨w.heap.size, 0, none⟩ (.slice va vn vc) (by simp only; omega)).other ⟨w.heap.size, 1, none⟩ (.slice ua A.length uc) (by simp only; omega)); have ORs5 := ((OR5.oth (w.heap.size) 0 (.slice va vn vc) (by omega)).oth (w.heap.size) 1 (.slice ua A.length uc) (by omega)); have OAs5 := ((OA5.oth (w.heap.size) 0 (.slice va vn vc) (by omega)).oth (w.heap.size) 1 (.slice ua A.length uc) (by omega)); have hTs5 := (Below.setCell (p := ⟨w.heap.size, 1, none⟩) (Below.setCell (p := ⟨w.heap.size, 0, none⟩) hT5 (by simp only; omega) (.slice va vn vc)) (by simp only; omega) (.slice ua A.length uc)); have hWs5 := (Nat.le_trans (Nat.le_trans hW5 (Upd.set (S := fun _ => True) (p := ⟨w.heap.size, 0, none⟩) trivial (.slice va vn vc)).size) (Upd.set (S := fun _ => True) (p := ⟨w.heap.size, 1, none⟩) trivial (.slice ua A.length uc)).size); have HAs5 := OAs5.slc ascEnc_len; have ct0_s5 := ts5.at 0 rfl; have ct1_s5 := ts5.at 1 rfl; have cx0_s5 := xs5.at 0 rfl; have cx1_s5 := xs5.at 1 rfl; have cx2_s5 := xs5.at 2 rfl; have cy0_s5 := ys5.at 0 rfl; have cy1_s5 := ys5.at 1 rfl; have cy2_s5 := ys5.at 2 rfl; have zt0_s5 := ts5.frozen 0; have zt1_s5 := ts5.frozen 1) | (go_at_call 60; (with_reducible refine (rstart2 _ _ A se (xf, xg, xb) A2 HAs5 hLA hst.out).mono ?_); rintro e w6 ⟨r6, rfl, hN6, hB6⟩; obtain ⟨sa, sn, sc, rfl⟩ := hN6.shape3; have t6 := ts5.pure hB6; have x6 := xs5.pure hB6; have r6 := rs5.pure hB6; have y6 := ys5.pure hB6; have OR6 := ORs5.pure hB6; have hT6 := hTs5.trans (hB6.mono hTs5.size); clear ct0_5 ct1_5 cx0_5 cx1_5 cx2_5 cy0_5 cy1_5 cy2_5 zt0_5 zt1_5 ct0_s5 ct1_s5 cx0_s5 cx1_s5 cx2_s5 cy0_s5 cy1_s5 cy2_s5 zt0_s5 zt1_s5; have ct0_6 := t6.at 0 rfl; have ct1_6 := t6.at 1 rfl; have cx0_6 := x6.at 0 rfl; have cx1_6 := x6.at 1 rfl; have cx2_6 := x6.at 2 rfl; have cr0_6 := r6.at 0 rfl; have cr1_6 := r6.at 1 rfl; have cy0_6 := y6.at 0 rfl; have cy1_6 := y6.at 1 rfl; have cy2_6 := y6.at 2 rfl; have zt0_6 := t6.frozen 0; have zt1_6 := t6.frozen 1; have zr0_6 := r6.frozen 0; have zr1_6 := r6.frozen 1; have OA6 := hN6.rebase (b' := w.heap.size + 3) (fun i hi => Nat.le_trans hWs5 (hN6.ge hi)); have ts6 := (t6.set 1 (.slice sa sn sc)); have xs6 := (x6.other ⟨w.heap.size, 1, none⟩ (.slice sa sn sc) (by simp only; omega)); have rs6 := (r6.other ⟨w.heap.size, 1, none⟩ (.slice sa sn sc) (by simp only; omega)); have ys6 := (y6.other ⟨w.heap.size, 1, none⟩ (.slice sa sn sc) (by simp only; omega)); have ORs6 := (OR6.oth (w.heap.size) 1 (.slice sa sn sc) (by omega)); have OAs6 := (OA6.oth (w.heap.size) 1 (.slice sa sn sc) (by omega)); have hTs6 := (Below.setCell (p := ⟨w.heap.size, 1, none⟩) hT6 (by simp only; omega) (.slice sa sn sc)); have ct0_s6 := ts6.at 0 rfl; have ct1_s6 := ts6.at 1 rfl; have cx0_s6 := xs6.at 0 rfl; have cx1_s6 := xs6.at 1 rfl; have cx2_s6 := xs6.at 2 rfl; have cr0_s6 := rs6.at 0 rfl; have cr1_s6 := rs6.at 1 rfl; have cy0_s6 := ys6.at 0 rfl; have cy1_s6 := ys6.at 1 rfl; have cy2_s6 := ys6.at 2 rfl; have zt0_s6 := ts6.frozen 0; have zt1_s6 := ts6.frozen 1; have zr0_s6 := rs6.frozen 0; have zr1_s6 := rs6.frozen 1))
  have rr := (rs6.set 0 (.slice va vn vc)).set 1 (.slice sa sn sc)
  have k0 := rr.at 0 rfl; have k1 := rr.at 1 rfl
  refine bodyPost_ret (by simp [results, Try.results14, go_sem, k0, k1]; rfl) rfl ?_
  rw [hD.out]
  refine ⟨_, _, rfl, ?_, ?_, Below.setCell (p := ⟨w.heap.size + 1 + 1, 1, none⟩) (Below.setCell (p := ⟨w.heap.size + 1 + 1, 0, none⟩) hTs6 (by simp only; omega) _) (by simp only; omega) _⟩
  · exact ((ORs6.oth _ _ _ (by omega)).oth _ _ _ (by omega)).rebase (fun i hi => by have h1 := ORs6.ge hi; omega)
  · exact ((OAs6.oth _ _ _ (by omega)).oth _ _ _ (by omega)).rebase (fun i hi => by have h1 := OAs6.ge hi; omega)

set_option maxRecDepth 100000 in
set_option maxHeartbeats 6400000 in
theorem dstart_ft (w : World) (rv av : Value) (R : List Brn) (A : List Asc) (x : Xid) (se : Int) (hR : Slc brEnc 7 w rv R) (hA : Slc ascEnc 5 w av A) (hLR : R.length ≤ 1000000) (hLA : A.length ≤ 1000000) (htm : ∀ b ∈ R, 0 ≤ b.tm) (hse : se ≠ 0) (hm0 : mayB R A true x = 0) :
    Calls Try.prog 14 #[.agg #[rv, av], .int .u64 se, .agg #[.int .u32 x.1, .string x.2.1, .string x.2.2], .bool false, .bool true] w (TabPost w (overB 0 (startD R A se x false true))) := by
  obtain ⟨ra, rc, rfl, -⟩ := hR.len
  obtain ⟨aa, ac, rfl, -⟩ := hA.len
  obtain ⟨xf, xg, xb⟩ := x
  have hT0 : Below w.heap.size w (((w.alloc (.cells #[.slice ra R.length rc, .slice aa A.length ac] 25)).alloc (.cells #[.int .u32 xf, .string xg, .string xb] 28)).alloc (.cells #[.slice none 0 0, .slice none 0 0] 25)) := ((((Below.refl w.heap.size w).alloc (Nat.le_refl _) _).alloc (by simp) _).alloc (by simp; omega) _)
  have hW0 : w.heap.size + 3 ≤ (((w.alloc (.cells #[.slice ra R.length rc, .slice aa A.length ac] 25)).alloc (.cells #[.int .u32 xf, .string xg, .string xb] 28)).alloc (.cells #[.slice none 0 0, .slice none 0 0] 25)).heap.size := by simp
  have t0 : Blk (((w.alloc (.cells #[.slice ra R.length rc, .slice aa A.length ac] 25)).alloc (.cells #[.int .u32 xf, .string xg, .string xb] 28)).alloc (.cells #[.slice none 0 0, .slice none 0 0] 25)) (w.heap.size) [.slice ra R.length rc, .slice aa A.length ac] := (((Blk.newAt2 w [.slice ra R.length rc, .slice aa A.length ac] 25 (w.heap.size) (by simp)).alloc (.cells #[.int .u32 xf, .string xg, .string xb] 28)).alloc (.cells #[.slice none 0 0, .slice none 0 0] 25))
  have x0 : Blk (((w.alloc (.cells #[.slice ra R.length rc, .slice aa A.length ac] 25)).alloc (.cells #[.int .u32 xf, .string xg, .string xb] 28)).alloc (.cells #[.slice none 0 0, .slice none 0 0] 25)) (w.heap.size + 1) [.int .u32 xf, .string xg, .string xb] := ((Blk.newAt2 (w.alloc (.cells #[.slice ra R.length rc, .slice aa A.length ac] 25)) [.int .u32 xf, .string xg, .string xb] 28 (w.heap.size + 1) (by simp)).alloc (.cells #[.slice none 0 0, .slice none 0 0] 25))
  have r0 : Blk (((w.alloc (.cells #[.slice ra R.length rc, .slice aa A.length ac] 25)).alloc (.cells #[.int .u32 xf, .string xg, .string xb] 28)).alloc (.cells #[.slice none 0 0, .slice none 0 0] 25)) (w.heap.size + 1 + 1) [.slice none 0 0, .slice none 0 0] := (Blk.newAt2 ((w.alloc (.cells #[.slice ra R.length rc, .slice aa A.length ac] 25)).alloc (.cells #[.int .u32 xf, .string xg, .string xb] 28)) [.slice none 0 0, .slice none 0 0] 25 (w.heap.size + 1 + 1) (by simp))
  have ct0_0 := t0.at 0 rfl
  have ct1_0 := t0.at 1 rfl
  have cx0_0 := x0.at 0 rfl
  have cx1_0 := x0.at 1 rfl
  have cx2_0 := x0.at 2 rfl
  have cr0_0 := r0.at 0 rfl
  have cr1_0 := r0.at 1 rfl
  have zt0_0 := t0.frozen 0
  have zt1_0 := t0.frozen 1
  have zr0_0 := r0.frozen 0
  have zr1_0 := r0.frozen 1
  have HR0 := hR.pure hT0; have HA0 := hA.pure hT0
  have hmay : Hid (mayB R A (!false) (xf, xg, xb) = 0) := Lib.hid hm0
  obtain ⟨hTab, -, hxok⟩ := mayB_zero hm0
  have hTb := Lib.hid hTab
  have hxk := Lib.hid hxok
  have hris := Lib.hid hTab.1.2
  have hria := Lib.hid hTab.2.1.rises
  have hzb : (se == 0) = false := beq_eq_false_iff_ne.2 hse
  have hsz := Lib.hid hse
  clear hm0 hse hTab hxok
  go_enter Try.func14, Try.ntmps14
  go_upto_region 5 with (first | (go_at_call 56; (with_reducible refine (dmay_any _ _ _ R A false (xf, xg, xb) 0 HR0 HA0 hLR hLA htm hmay.out).mono ?_); rintro e w1 ⟨rfl, hB1⟩; have t1 := t0.pure hB1; have x1 := x0.pure hB1; have r1 := r0.pure hB1; have HR1 := HR0.pure hB1; have HA1 := HA0.pure hB1; have hT1 := hT0.trans (hB1.mono hT0.size); have hW1 := Nat.le_trans hW0 hB1.size; clear ct0_0 ct1_0 cx0_0 cx1_0 cx2_0 cr0_0 cr1_0 zt0_0 zt1_0 zr0_0 zr1_0; have ct0_1 := t1.at 0 rfl; have ct1_1 := t1.at 1 rfl; have cx0_1 := x1.at 0 rfl; have cx1_1 := x1.at 1 rfl; have cx2_1 := x1.at 2 rfl) | (go_at_call 12; (with_reducible refine (dcopy_any _ _ _ R A HR1 HA1 hLR hLA).mono ?_); rintro e w2 ⟨rr2, aa2, rfl, hO2, hP2, hB2⟩; obtain ⟨ya, yc, rfl⟩ := own_len hO2; obtain ⟨ua, uc, rfl⟩ := own_len hP2; have OR2 := hO2.rebase (b' := w.heap.size + 3) (fun i hi => Nat.le_trans hW1 (hO2.ge hi)); have OA2 := hP2.rebase (b' := w.heap.size + 3) (fun i hi => Nat.le_trans hW1 (hP2.ge hi)); have t2 := t1.pure hB2; have x2 := x1.pure hB2; have r2 := r1.pure hB2; have hT2 := hT1.trans (hB2.mono hT1.size); have hW2 := Nat.le_trans hW1 hB2.size; clear ct0_1 ct1_1 cx0_1 cx1_1 cx2_1; have ct0_2 := t2.at 0 rfl; have ct1_2 := t2.at 1 rfl; have cx0_2 := x2.at 0 rfl; have cx1_2 := x2.at 1 rfl; have cx2_2 := x2.at 2 rfl; have cr0_2 := r2.at 0 rfl; have cr1_2 := r2.at 1 rfl; have zt0_2 := t2.frozen 0; have zt1_2 := t2.frozen 1; have zr0_2 := r2.frozen 0; have zr1_2 := r2.frozen 1; have ts2 := ((t2.set 0 (.slice ya R.length yc)).set 1 (.slice ua A.length uc)); have xs2 := ((x2.other ⟨w.heap.size, 0, none⟩ (.slice ya R.length yc) (by simp only; omega)).other ⟨w.heap.size, 1, none⟩ (.slice ua A.length uc) (by simp only; omega)); have rs2 := ((r2.other ⟨w.heap.size, 0, none⟩ (.slice ya R.length yc) (by simp only; omega)).other ⟨w.heap.size, 1, none⟩ (.slice ua A.length uc) (by simp only; omega)); have ORs2 := ((OR2.oth (w.heap.size) 0 (.slice ya R.length yc) (by omega)).oth (w.heap.size) 1 (.slice ua A.length uc) (by omega)); have OAs2 := ((OA2.oth (w.heap.size) 0 (.slice ya R.length yc) (by omega)).oth (w.heap.size) 1 (.slice ua A.length uc) (by omega)); have hTs2 := (Below.setCell (p := ⟨w.heap.size, 1, none⟩) (Below.setCell (p := ⟨w.heap.size, 0, none⟩) hT2 (by simp only; omega) (.slice ya R.length yc)) (by simp only; omega) (.slice ua A.length uc)); have hWs2 := (Nat.le_trans (Nat.le_trans hW2 (Upd.set (S := fun _ => True) (p := ⟨w.heap.size, 0, none⟩) trivial (.slice ya R.length yc)).size) (Upd.set (S := fun _ => True) (p := ⟨w.heap.size, 1, none⟩) trivial (.slice ua A.length uc)).size); have HRs2 := ORs2.slc brEnc_len; have HAs2 := OAs2.slc ascEnc_len; have ct0_s2 := ts2.at 0 rfl; have ct1_s2 := ts2.at 1 rfl; have cx0_s2 := xs2.at 0 rfl; have cx1_s2 := xs2.at 1 rfl; have cx2_s2 := xs2.at 2 rfl; have cr0_s2 := rs2.at 0 rfl; have cr1_s2 := rs2.at 1 rfl; have zt0_s2 := ts2.frozen 0; have zt1_s2 := ts2.frozen 1; have zr0_s2 := rs2.frozen 0; have zr1_s2 := rs2.frozen 1))
  obtain ⟨ab, hab⟩ : ∃ ab, (actA A se).isSome = ab := ⟨_, rfl⟩
  have hact := Lib.hid hab
  cases ab
  rotate_left 1
  · have hdum := True.intro
    have hD : Hid (overB 0 (startD R A se (xf, xg, xb) false true) = errR 9) := Lib.hid (by unfold overB startD; rw [if_pos rfl, if_pos hab])
    clear hab
    go_wp2_with (first | (go_at_call 58; (with_reducible refine (ractive2 _ _ A se true HAs2 hLA hact.out).mono ?_); rintro e w3 ⟨yy, rfl, hB3⟩; have t3 := ts2.pure hB3; have x3 := xs2.pure hB3; have r3 := rs2.pure hB3; have HR3 := HRs2.pure hB3; have HA3 := HAs2.pure hB3; have OR3 := ORs2.pure hB3; have OA3 := OAs2.pure hB3; have hT3 := hTs2.trans (hB3.mono hTs2.size); have hW3 := Nat.le_trans hWs2 hB3.size; clear ct0_2 ct1_2 cx0_2 cx1_2 cx2_2 cr0_2 cr1_2 zt0_2 zt1_2 zr0_2 zr1_2 ct0_s2 ct1_s2 cx0_s2 cx1_s2 cx2_s2 cr0_s2 cr1_s2 zt0_s2 zt1_s2 zr0_s2 zr1_s2; have ct0_3 := t3.at 0 rfl; have ct1_3 := t3.at 1 rfl; have cx0_3 := x3.at 0 rfl; have cx1_3 := x3.at 1 rfl; have cx2_3 := x3.at 2 rfl; have hBb3 := (Below.refl w3.heap.size w3).alloc (Nat.le_refl _) (.cells #[.int .u32 yy.1, .string yy.2.1, .string yy.2.2] 28); have yb3 := Blk.new w3 [.int .u32 yy.1, .string yy.2.1, .string yy.2.2] 28; have tb3 := t3.pure hBb3; have xb3 := x3.pure hBb3; have rb3 := r3.pure hBb3; have HRb3 := HR3.pure hBb3; have HAb3 := HA3.pure hBb3; have ORb3 := OR3.pure hBb3; have OAb3 := OA3.pure hBb3; have hTb3 := hT3.trans (hBb3.mono hT3.size); have hWb3 := Nat.le_trans hW3 hBb3.size; have ct0_b3 := tb3.at 0 rfl; have ct1_b3 := tb3.at 1 rfl; have cx0_b3 := xb3.at 0 rfl; have cx1_b3 := xb3.at 1 rfl; have cx2_b3 := xb3.at 2 rfl; have cy0_b3 := yb3.at 0 rfl; have cy1_b3 := yb3.at 1 rfl; have cy2_b3 := yb3.at 2 rfl) | (go_at_call 57; (with_reducible refine (dno_any _ 9).mono ?_); rintro e w4 ⟨rfl, hB4⟩; have t4 := tb3.pure hB4; have x4 := xb3.pure hB4; have r4 := rb3.pure hB4; have y4 := yb3.pure hB4; have HR4 := HRb3.pure hB4; have HA4 := HAb3.pure hB4; have OR4 := ORb3.pure hB4; have OA4 := OAb3.pure hB4; have hT4 := hTb3.trans (hB4.mono hTb3.size); have hW4 := Nat.le_trans hWb3 hB4.size; clear ct0_3 ct1_3 cx0_3 cx1_3 cx2_3 ct0_b3 ct1_b3 cx0_b3 cx1_b3 cx2_b3 cy0_b3 cy1_b3 cy2_b3; have ct0_4 := t4.at 0 rfl; have ct1_4 := t4.at 1 rfl; have cx0_4 := x4.at 0 rfl; have cx1_4 := x4.at 1 rfl; have cx2_4 := x4.at 2 rfl; have cr0_4 := r4.at 0 rfl; have cr1_4 := r4.at 1 rfl; have cy0_4 := y4.at 0 rfl; have cy1_4 := y4.at 1 rfl; have cy2_4 := y4.at 2 rfl; have zt0_4 := t4.frozen 0; have zt1_4 := t4.frozen 1; have zr0_4 := r4.frozen 0; have zr1_4 := r4.frozen 1))
    have rr := (r4.set 0 (.slice none 0 0)).set 1 (.slice none 0 0)
    have k0 := rr.at 0 rfl; have k1 := rr.at 1 rfl
    refine bodyPost_ret (by simp [results, Try.results14, go_sem, k0, k1]; rfl) rfl ?_
    rw [hD.out]
    refine ⟨_, _, rfl, ?_, ?_, Below.setCell (p := ⟨w.heap.size + 1 + 1, 1, none⟩) (Below.setCell (p := ⟨w.heap.size + 1 + 1, 0, none⟩) hT4 (by simp only; omega) _) (by simp only; omega) _⟩
    · exact Own.nil
    · exact Own.nil
  have hF0 : startD R A se (xf, xg, xb) false true = startD R A se (xf, xg, xb) false true := rfl
  conv at hF0 => rhs; unfold startD
  rw [if_neg (by rw [hab]; simp)] at hF0
  clear hab
  rw [if_neg (by simp)] at hF0
  rcases Classical.em (MemB R (xf, xg, xb)) with hm | hm
  rotate_left 1
  · have hn := Lib.hid hm
    rw [idxB_no hm] at hF0
    have hD : Hid (overB 0 (startD R A se (xf, xg, xb) false true) = errR 7) := Lib.hid (by unfold overB; rw [if_pos rfl, hF0])
    clear hF0 hm
    go_wp2_with (first | (go_at_call 58; (with_reducible refine (ractive2 _ _ A se false HAs2 hLA hact.out).mono ?_); rintro e w3 ⟨yy, rfl, hB3⟩; have t3 := ts2.pure hB3; have x3 := xs2.pure hB3; have r3 := rs2.pure hB3; have HR3 := HRs2.pure hB3; have HA3 := HAs2.pure hB3; have OR3 := ORs2.pure hB3; have OA3 := OAs2.pure hB3; have hT3 := hTs2.trans (hB3.mono hTs2.size); have hW3 := Nat.le_trans hWs2 hB3.size; clear ct0_2 ct1_2 cx0_2 cx1_2 cx2_2 cr0_2 cr1_2 zt0_2 zt1_2 zr0_2 zr1_2 ct0_s2 ct1_s2 cx0_s2 cx1_s2 cx2_s2 cr0_s2 cr1_s2 zt0_s2 zt1_s2 zr0_s2 zr1_s2; have ct0_3 := t3.at 0 rfl; have ct1_3 := t3.at 1 rfl; have cx0_3 := x3.at 0 rfl; have cx1_3 := x3.at 1 rfl; have cx2_3 := x3.at 2 rfl; have hBb3 := (Below.refl w3.heap.size w3).alloc (Nat.le_refl _) (.cells #[.int .u32 yy.1, .string yy.2.1, .string yy.2.2] 28); have yb3 := Blk.new w3 [.int .u32 yy.1, .string yy.2.1, .string yy.2.2] 28; have tb3 := t3.pure hBb3; have xb3 := x3.pure hBb3; have rb3 := r3.pure hBb3; have HRb3 := HR3.pure hBb3; have HAb3 := HA3.pure hBb3; have ORb3 := OR3.pure hBb3; have OAb3 := OA3.pure hBb3; have hTb3 := hT3.trans (hBb3.mono hT3.size); have hWb3 := Nat.le_trans hW3 hBb3.size; have ct0_b3 := tb3.at 0 rfl; have ct1_b3 := tb3.at 1 rfl; have cx0_b3 := xb3.at 0 rfl; have cx1_b3 := xb3.at 1 rfl; have cx2_b3 := xb3.at 2 rfl; have cy0_b3 := yb3.at 0 rfl; have cy1_b3 := yb3.at 1 rfl; have cy2_b3 := yb3.at 2 rfl) | (go_at_call 19; (with_reducible refine (dat_no _ _ _ R A (xf, xg, xb) HRb3 HAb3 hn.out).mono ?_); rintro e w4 ⟨rfl, hB4⟩; have t4 := tb3.pure hB4; have x4 := xb3.pure hB4; have r4 := rb3.pure hB4; have y4 := yb3.pure hB4; have HR4 := HRb3.pure hB4; have HA4 := HAb3.pure hB4; have OR4 := ORb3.pure hB4; have OA4 := OAb3.pure hB4; have hT4 := hTb3.trans (hB4.mono hTb3.size); have hW4 := Nat.le_trans hWb3 hB4.size; clear ct0_3 ct1_3 cx0_3 cx1_3 cx2_3 ct0_b3 ct1_b3 cx0_b3 cx1_b3 cx2_b3 cy0_b3 cy1_b3 cy2_b3; have ct0_4 := t4.at 0 rfl; have ct1_4 := t4.at 1 rfl; have cx0_4 := x4.at 0 rfl; have cx1_4 := x4.at 1 rfl; have cx2_4 := x4.at 2 rfl; have cy0_4 := y4.at 0 rfl; have cy1_4 := y4.at 1 rfl; have cy2_4 := y4.at 2 rfl) | (go_at_call 57; (with_reducible refine (dno_any _ 7).mono ?_); rintro e w5 ⟨rfl, hB5⟩; have t5 := t4.pure hB5; have x5 := x4.pure hB5; have r5 := r4.pure hB5; have y5 := y4.pure hB5; have HR5 := HR4.pure hB5; have HA5 := HA4.pure hB5; have OR5 := OR4.pure hB5; have OA5 := OA4.pure hB5; have hT5 := hT4.trans (hB5.mono hT4.size); have hW5 := Nat.le_trans hW4 hB5.size; clear ct0_4 ct1_4 cx0_4 cx1_4 cx2_4 cy0_4 cy1_4 cy2_4; have ct0_5 := t5.at 0 rfl; have ct1_5 := t5.at 1 rfl; have cx0_5 := x5.at 0 rfl; have cx1_5 := x5.at 1 rfl; have cx2_5 := x5.at 2 rfl; have cr0_5 := r5.at 0 rfl; have cr1_5 := r5.at 1 rfl; have cy0_5 := y5.at 0 rfl; have cy1_5 := y5.at 1 rfl; have cy2_5 := y5.at 2 rfl; have zt0_5 := t5.frozen 0; have zt1_5 := t5.frozen 1; have zr0_5 := r5.frozen 0; have zr1_5 := r5.frozen 1))
    have rr := (r5.set 0 (.slice none 0 0)).set 1 (.slice none 0 0)
    have k0 := rr.at 0 rfl; have k1 := rr.at 1 rfl
    refine bodyPost_ret (by simp [results, Try.results14, go_sem, k0, k1]; rfl) rfl ?_
    rw [hD.out]
    refine ⟨_, _, rfl, ?_, ?_, Below.setCell (p := ⟨w.heap.size + 1 + 1, 1, none⟩) (Below.setCell (p := ⟨w.heap.size + 1 + 1, 0, none⟩) hT5 (by simp only; omega) _) (by simp only; omega) _⟩
    · exact Own.nil
    · exact Own.nil
  obtain ⟨k, hk, hkx⟩ := hm
  have hkx' := Lib.hid hkx
  have hk0 : (0 : Int) ≤ (k : Int) := by omega
  have hk1 : (k : Int) < (R.length : Int) := by omega
  have hkd : decide ((k : Int) < 0) = false := decide_eq_false (by omega)
  rw [idxB_yes hris.out hk hkx] at hF0
  simp only [getD_at hk] at hF0
  clear hkx
  obtain ⟨g, rfl, hg⟩ := own_at7 ORs2 hk
  have hdis := Lib.hid (fun (i : Nat) (hi : Value.ownBlock (.slice ua A.length uc) = some i) (e : i = g) => own_apart ORs2 OAs2 (by decide) rfl (by rw [hi, e]))
  by_cases h1 : R[k].st = 1
  rotate_left 1
  · have hsb : (R[k].st != 1) = true := bne_iff_ne.2 h1
    rw [if_pos h1] at hF0
    have hD : Hid (overB 0 (startD R A se (xf, xg, xb) false true) = errR 9) := Lib.hid (by unfold overB; rw [if_pos rfl, hF0])
    clear hF0 h1
    go_wp2_with (first | (go_at_call 58; (with_reducible refine (ractive2 _ _ A se false HAs2 hLA hact.out).mono ?_); rintro e w3 ⟨yy, rfl, hB3⟩; have t3 := ts2.pure hB3; have x3 := xs2.pure hB3; have r3 := rs2.pure hB3; have HR3 := HRs2.pure hB3; have HA3 := HAs2.pure hB3; have OR3 := ORs2.pure hB3; have OA3 := OAs2.pure hB3; have hT3 := hTs2.trans (hB3.mono hTs2.size); have hW3 := Nat.le_trans hWs2 hB3.size; clear ct0_2 ct1_2 cx0_2 cx1_2 cx2_2 cr0_2 cr1_2 zt0_2 zt1_2 zr0_2 zr1_2 ct0_s2 ct1_s2 cx0_s2 cx1_s2 cx2_s2 cr0_s2 cr1_s2 zt0_s2 zt1_s2 zr0_s2 zr1_s2; have ct0_3 := t3.at 0 rfl; have ct1_3 := t3.at 1 rfl; have cx0_3 := x3.at 0 rfl; have cx1_3 := x3.at 1 rfl; have cx2_3 := x3.at 2 rfl; have hBb3 := (Below.refl w3.heap.size w3).alloc (Nat.le_refl _) (.cells #[.int .u32 yy.1, .string yy.2.1, .string yy.2.2] 28); have yb3 := Blk.new w3 [.int .u32 yy.1, .string yy.2.1, .string yy.2.2] 28; have tb3 := t3.pure hBb3; have xb3 := x3.pure hBb3; have rb3 := r3.pure hBb3; have HRb3 := HR3.pure hBb3; have HAb3 := HA3.pure hBb3; have ORb3 := OR3.pure hBb3; have OAb3 := OA3.pure hBb3; have hTb3 := hT3.trans (hBb3.mono hT3.size); have hWb3 := Nat.le_trans hW3 hBb3.size; have ct0_b3 := tb3.at 0 rfl; have ct1_b3 := tb3.at 1 rfl; have cx0_b3 := xb3.at 0 rfl; have cx1_b3 := xb3.at 1 rfl; have cx2_b3 := xb3.at 2 rfl; have cy0_b3 := yb3.at 0 rfl; have cy1_b3 := yb3.at 1 rfl; have cy2_b3 := yb3.at 2 rfl) | (go_at_call 19; (with_reducible refine (dat_yes _ _ _ R A (xf, xg, xb) k HRb3 HAb3 hris.out hk hkx'.out).mono ?_); rintro e w4 ⟨rfl, hB4⟩; have t4 := tb3.pure hB4; have x4 := xb3.pure hB4; have r4 := rb3.pure hB4; have y4 := yb3.pure hB4; have HR4 := HRb3.pure hB4; have HA4 := HAb3.pure hB4; have OR4 := ORb3.pure hB4; have OA4 := OAb3.pure hB4; have hT4 := hTb3.trans (hB4.mono hTb3.size); have hW4 := Nat.le_trans hWb3 hB4.size; clear ct0_3 ct1_3 cx0_3 cx1_3 cx2_3 ct0_b3 ct1_b3 cx0_b3 cx1_b3 cx2_b3 cy0_b3 cy1_b3 cy2_b3; have ct0_4 := t4.at 0 rfl; have ct1_4 := t4.at 1 rfl; have cx0_4 := x4.at 0 rfl; have cx1_4 := x4.at 1 rfl; have cx2_4 := x4.at 2 rfl; have cy0_4 := y4.at 0 rfl; have cy1_4 := y4.at 1 rfl; have cy2_4 := y4.at 2 rfl; obtain ⟨q0_4, q1_4, q2_4, q3_4, q4_4, q5_4, q6_4⟩ := br_cells HR4 hk; simp only [Nat.zero_add] at q0_4 q1_4 q2_4 q3_4 q4_4 q5_4 q6_4) | (go_at_call 57; (with_reducible refine (dno_any _ 9).mono ?_); rintro e w5 ⟨rfl, hB5⟩; have t5 := t4.pure hB5; have x5 := x4.pure hB5; have r5 := r4.pure hB5; have y5 := y4.pure hB5; have HR5 := HR4.pure hB5; have HA5 := HA4.pure hB5; have OR5 := OR4.pure hB5; have OA5 := OA4.pure hB5; have hT5 := hT4.trans (hB5.mono hT4.size); have hW5 := Nat.le_trans hW4 hB5.size; clear ct0_4 ct1_4 cx0_4 cx1_4 cx2_4 cy0_4 cy1_4 cy2_4 q0_4 q1_4 q2_4 q3_4 q4_4 q5_4 q6_4; have ct0_5 := t5.at 0 rfl; have ct1_5 := t5.at 1 rfl; have cx0_5 := x5.at 0 rfl; have cx1_5 := x5.at 1 rfl; have cx2_5 := x5.at 2 rfl; have cr0_5 := r5.at 0 rfl; have cr1_5 := r5.at 1 rfl; have cy0_5 := y5.at 0 rfl; have cy1_5 := y5.at 1 rfl; have cy2_5 := y5.at 2 rfl; have zt0_5 := t5.frozen 0; have zt1_5 := t5.frozen 1; have zr0_5 := r5.frozen 0; have zr1_5 := r5.frozen 1; obtain ⟨q0_5, q1_5, q2_5, q3_5, q4_5, q5_5, q6_5⟩ := br_cells HR5 hk; simp only [Nat.zero_add] at q0_5 q1_5 q2_5 q3_5 q4_5 q5_5 q6_5))
    have rr := (r5.set 0 (.slice none 0 0)).set 1 (.slice none 0 0)
    have k0 := rr.at 0 rfl; have k1 := rr.at 1 rfl
    refine bodyPost_ret (by simp [results, Try.results14, go_sem, k0, k1]; rfl) rfl ?_
    rw [hD.out]
    refine ⟨_, _, rfl, ?_, ?_, Below.setCell (p := ⟨w.heap.size + 1 + 1, 1, none⟩) (Below.setCell (p := ⟨w.heap.size + 1 + 1, 0, none⟩) hT5 (by simp only; omega) _) (by simp only; omega) _⟩
    · exact Own.nil
    · exact Own.nil
  have hsb : (R[k].st != 1) = false := bne_eq_false_iff_eq.2 h1
  rw [if_neg (fun h => h h1)] at hF0
  clear h1
  by_cases hw : R[k].why = 0
  rotate_left 1
  · have hwb : (R[k].why != 0) = true := bne_iff_ne.2 hw
    rw [if_pos hw] at hF0
    have hD : Hid (overB 0 (startD R A se (xf, xg, xb) false true) = (R, A, R[k].why, 0)) := Lib.hid (by unfold overB; rw [if_pos rfl, hF0])
    clear hF0 hw
    go_wp2_with (first | (go_at_call 58; (with_reducible refine (ractive2 _ _ A se false HAs2 hLA hact.out).mono ?_); rintro e w3 ⟨yy, rfl, hB3⟩; have t3 := ts2.pure hB3; have x3 := xs2.pure hB3; have r3 := rs2.pure hB3; have HR3 := HRs2.pure hB3; have HA3 := HAs2.pure hB3; have OR3 := ORs2.pure hB3; have OA3 := OAs2.pure hB3; have hT3 := hTs2.trans (hB3.mono hTs2.size); have hW3 := Nat.le_trans hWs2 hB3.size; clear ct0_2 ct1_2 cx0_2 cx1_2 cx2_2 cr0_2 cr1_2 zt0_2 zt1_2 zr0_2 zr1_2 ct0_s2 ct1_s2 cx0_s2 cx1_s2 cx2_s2 cr0_s2 cr1_s2 zt0_s2 zt1_s2 zr0_s2 zr1_s2; have ct0_3 := t3.at 0 rfl; have ct1_3 := t3.at 1 rfl; have cx0_3 := x3.at 0 rfl; have cx1_3 := x3.at 1 rfl; have cx2_3 := x3.at 2 rfl; have hBb3 := (Below.refl w3.heap.size w3).alloc (Nat.le_refl _) (.cells #[.int .u32 yy.1, .string yy.2.1, .string yy.2.2] 28); have yb3 := Blk.new w3 [.int .u32 yy.1, .string yy.2.1, .string yy.2.2] 28; have tb3 := t3.pure hBb3; have xb3 := x3.pure hBb3; have rb3 := r3.pure hBb3; have HRb3 := HR3.pure hBb3; have HAb3 := HA3.pure hBb3; have ORb3 := OR3.pure hBb3; have OAb3 := OA3.pure hBb3; have hTb3 := hT3.trans (hBb3.mono hT3.size); have hWb3 := Nat.le_trans hW3 hBb3.size; have ct0_b3 := tb3.at 0 rfl; have ct1_b3 := tb3.at 1 rfl; have cx0_b3 := xb3.at 0 rfl; have cx1_b3 := xb3.at 1 rfl; have cx2_b3 := xb3.at 2 rfl; have cy0_b3 := yb3.at 0 rfl; have cy1_b3 := yb3.at 1 rfl; have cy2_b3 := yb3.at 2 rfl) | (go_at_call 19; (with_reducible refine (dat_yes _ _ _ R A (xf, xg, xb) k HRb3 HAb3 hris.out hk hkx'.out).mono ?_); rintro e w4 ⟨rfl, hB4⟩; have t4 := tb3.pure hB4; have x4 := xb3.pure hB4; have r4 := rb3.pure hB4; have y4 := yb3.pure hB4; have HR4 := HRb3.pure hB4; have HA4 := HAb3.pure hB4; have OR4 := ORb3.pure hB4; have OA4 := OAb3.pure hB4; have hT4 := hTb3.trans (hB4.mono hTb3.size); have hW4 := Nat.le_trans hWb3 hB4.size; clear ct0_3 ct1_3 cx0_3 cx1_3 cx2_3 ct0_b3 ct1_b3 cx0_b3 cx1_b3 cx2_b3 cy0_b3 cy1_b3 cy2_b3; have ct0_4 := t4.at 0 rfl; have ct1_4 := t4.at 1 rfl; have cx0_4 := x4.at 0 rfl; have cx1_4 := x4.at 1 rfl; have cx2_4 := x4.at 2 rfl; have cr0_4 := r4.at 0 rfl; have cr1_4 := r4.at 1 rfl; have cy0_4 := y4.at 0 rfl; have cy1_4 := y4.at 1 rfl; have cy2_4 := y4.at 2 rfl; have zt0_4 := t4.frozen 0; have zt1_4 := t4.frozen 1; have zr0_4 := r4.frozen 0; have zr1_4 := r4.frozen 1; obtain ⟨q0_4, q1_4, q2_4, q3_4, q4_4, q5_4, q6_4⟩ := br_cells HR4 hk; simp only [Nat.zero_add] at q0_4 q1_4 q2_4 q3_4 q4_4 q5_4 q6_4))
    go_region
    go_wp2
    have rr := (r4.set 0 (.slice (some ⟨g, 0, none⟩) R.length yc)).set 1 (.slice ua A.length uc)
    have k0 := rr.at 0 rfl; have k1 := rr.at 1 rfl
    refine bodyPost_ret (by simp [results, Try.results14, go_sem, k0, k1]; rfl) rfl ?_
    rw [hD.out]
    refine ⟨_, _, rfl, ?_, ?_, below_dr (Below.setCell (p := ⟨w.heap.size + 1 + 1, 1, none⟩) (Below.setCell (p := ⟨w.heap.size + 1 + 1, 0, none⟩) hT4 (by simp only; omega) _) (by simp only; omega) _)⟩
    · exact ((OR4.oth _ _ _ (by omega)).oth _ _ _ (by omega)).rebase (fun i hi => by have h1 := OR4.ge hi; omega)
    · exact ((OA4.oth _ _ _ (by omega)).oth _ _ _ (by omega)).rebase (fun i hi => by have h1 := OA4.ge hi; omega)
  have hwb : (R[k].why != 0) = false := bne_eq_false_iff_eq.2 hw
  rw [if_neg (fun h => h hw)] at hF0
  clear hw
  rw [if_pos trivial] at hF0
  rcases Classical.em (Mem A se (xf, xg, xb)) with hq | hq
  · have hdum := True.intro
    obtain ⟨i, hi, hie0⟩ := hq
    have hie := Lib.hid hie0
    have hid : decide ((0 : Int) ≤ (i : Int)) = true := decide_eq_true (by omega)
    obtain ⟨A2, hA2⟩ := resume_there hTb.out.2.1 hsz.out hxk.out hact.out hi hie0
    have hst := Lib.hid hA2
    simp only [hA2, if_true] at hF0
    have hD : Hid (overB 0 (startD R A se (xf, xg, xb) false true) = (R, A2, 0, 0)) := Lib.hid (by unfold overB; rw [if_pos rfl, hF0])
    clear hF0 hA2 hie0
    go_wp2_with (first | (go_at_call 58; (with_reducible refine (ractive2 _ _ A se false HAs2 hLA hact.out).mono ?_); rintro e w3 ⟨yy, rfl, hB3⟩; have t3 := ts2.pure hB3; have x3 := xs2.pure hB3; have r3 := rs2.pure hB3; have HR3 := HRs2.pure hB3; have HA3 := HAs2.pure hB3; have OR3 := ORs2.pure hB3; have OA3 := OAs2.pure hB3; have hT3 := hTs2.trans (hB3.mono hTs2.size); have hW3 := Nat.le_trans hWs2 hB3.size; clear ct0_2 ct1_2 cx0_2 cx1_2 cx2_2 cr0_2 cr1_2 zt0_2 zt1_2 zr0_2 zr1_2 ct0_s2 ct1_s2 cx0_s2 cx1_s2 cx2_s2 cr0_s2 cr1_s2 zt0_s2 zt1_s2 zr0_s2 zr1_s2; have ct0_3 := t3.at 0 rfl; have ct1_3 := t3.at 1 rfl; have cx0_3 := x3.at 0 rfl; have cx1_3 := x3.at 1 rfl; have cx2_3 := x3.at 2 rfl; have hBb3 := (Below.refl w3.heap.size w3).alloc (Nat.le_refl _) (.cells #[.int .u32 yy.1, .string yy.2.1, .string yy.2.2] 28); have yb3 := Blk.new w3 [.int .u32 yy.1, .string yy.2.1, .string yy.2.2] 28; have tb3 := t3.pure hBb3; have xb3 := x3.pure hBb3; have rb3 := r3.pure hBb3; have HRb3 := HR3.pure hBb3; have HAb3 := HA3.pure hBb3; have ORb3 := OR3.pure hBb3; have OAb3 := OA3.pure hBb3; have hTb3 := hT3.trans (hBb3.mono hT3.size); have hWb3 := Nat.le_trans hW3 hBb3.size; have ct0_b3 := tb3.at 0 rfl; have ct1_b3 := tb3.at 1 rfl; have cx0_b3 := xb3.at 0 rfl; have cx1_b3 := xb3.at 1 rfl; have cx2_b3 := xb3.at 2 rfl; have cy0_b3 := yb3.at 0 rfl; have cy1_b3 := yb3.at 1 rfl; have cy2_b3 := yb3.at 2 rfl) | (go_at_call 19; (with_reducible refine (dat_yes _ _ _ R A (xf, xg, xb) k HRb3 HAb3 hris.out hk hkx'.out).mono ?_); rintro e w4 ⟨rfl, hB4⟩; have t4 := tb3.pure hB4; have x4 := xb3.pure hB4; have r4 := rb3.pure hB4; have y4 := yb3.pure hB4; have HR4 := HRb3.pure hB4; have HA4 := HAb3.pure hB4; have OR4 := ORb3.pure hB4; have OA4 := OAb3.pure hB4; have hT4 := hTb3.trans (hB4.mono hTb3.size); have hW4 := Nat.le_trans hWb3 hB4.size; clear ct0_3 ct1_3 cx0_3 cx1_3 cx2_3 ct0_b3 ct1_b3 cx0_b3 cx1_b3 cx2_b3 cy0_b3 cy1_b3 cy2_b3; have ct0_4 := t4.at 0 rfl; have ct1_4 := t4.at 1 rfl; have cx0_4 := x4.at 0 rfl; have cx1_4 := x4.at 1 rfl; have cx2_4 := x4.at 2 rfl; have cy0_4 := y4.at 0 rfl; have cy1_4 := y4.at 1 rfl; have cy2_4 := y4.at 2 rfl; obtain ⟨q0_4, q1_4, q2_4, q3_4, q4_4, q5_4, q6_4⟩ := br_cells HR4 hk; simp only [Nat.zero_add] at q0_4 q1_4 q2_4 q3_4 q4_4 q5_4 q6_4) | (go_at_call 61; (with_reducible refine (rfind_yes _ _ A se (xf, xg, xb) i HA4 hria.out hLA hi hie.out).mono ?_); rintro e w5 ⟨rfl, hB5⟩; have t5 := t4.pure hB5; have x5 := x4.pure hB5; have r5 := r4.pure hB5; have y5 := y4.pure hB5; have HR5 := HR4.pure hB5; have HA5 := HA4.pure hB5; have OR5 := OR4.pure hB5; have OA5 := OA4.pure hB5; have hT5 := hT4.trans (hB5.mono hT4.size); have hW5 := Nat.le_trans hW4 hB5.size; clear ct0_4 ct1_4 cx0_4 cx1_4 cx2_4 cy0_4 cy1_4 cy2_4 q0_4 q1_4 q2_4 q3_4 q4_4 q5_4 q6_4; have ct0_5 := t5.at 0 rfl; have ct1_5 := t5.at 1 rfl; have cx0_5 := x5.at 0 rfl; have cx1_5 := x5.at 1 rfl; have cx2_5 := x5.at 2 rfl; have cy0_5 := y5.at 0 rfl; have cy1_5 := y5.at 1 rfl; have cy2_5 := y5.at 2 rfl; obtain ⟨q0_5, q1_5, q2_5, q3_5, q4_5, q5_5, q6_5⟩ := br_cells HR5 hk; simp only [Nat.zero_add] at q0_5 q1_5 q2_5 q3_5 q4_5 q5_5 q6_5) | (go_at_call 62; (with_reducible refine (rresume2 _ _ A se (xf, xg, xb) A2 HA5 hLA hst.out).mono ?_); rintro e w6 ⟨r6, rfl, hN6, hB6⟩; obtain ⟨sa, sn, sc, rfl⟩ := hN6.shape3; have t6 := t5.pure hB6; have x6 := x5.pure hB6; have r6 := r5.pure hB6; have y6 := y5.pure hB6; have HR6 := HR5.pure hB6; have OR6 := OR5.pure hB6; have hT6 := hT5.trans (hB6.mono hT5.size); clear ct0_5 ct1_5 cx0_5 cx1_5 cx2_5 cy0_5 cy1_5 cy2_5 q0_5 q1_5 q2_5 q3_5 q4_5 q5_5 q6_5; have ct0_6 := t6.at 0 rfl; have ct1_6 := t6.at 1 rfl; have cx0_6 := x6.at 0 rfl; have cx1_6 := x6.at 1 rfl; have cx2_6 := x6.at 2 rfl; have cr0_6 := r6.at 0 rfl; have cr1_6 := r6.at 1 rfl; have cy0_6 := y6.at 0 rfl; have cy1_6 := y6.at 1 rfl; have cy2_6 := y6.at 2 rfl; have zt0_6 := t6.frozen 0; have zt1_6 := t6.frozen 1; have zr0_6 := r6.frozen 0; have zr1_6 := r6.frozen 1; obtain ⟨q0_6, q1_6, q2_6, q3_6, q4_6, q5_6, q6_6⟩ := br_cells HR6 hk; simp only [Nat.zero_add] at q0_6 q1_6 q2_6 q3_6 q4_6 q5_6 q6_6; have OA6 := hN6.rebase (b' := w.heap.size + 3) (fun i hi => Nat.le_trans hW5 (hN6.ge hi)); have ts6 := (t6.set 1 (.slice sa sn sc)); have xs6 := (x6.other ⟨w.heap.size, 1, none⟩ (.slice sa sn sc) (by simp only; omega)); have rs6 := (r6.other ⟨w.heap.size, 1, none⟩ (.slice sa sn sc) (by simp only; omega)); have ys6 := (y6.other ⟨w.heap.size, 1, none⟩ (.slice sa sn sc) (by simp only; omega)); have ORs6 := (OR6.oth (w.heap.size) 1 (.slice sa sn sc) (by omega)); have OAs6 := (OA6.oth (w.heap.size) 1 (.slice sa sn sc) (by omega)); have hTs6 := (Below.setCell (p := ⟨w.heap.size, 1, none⟩) hT6 (by simp only; omega) (.slice sa sn sc)); have HRs6 := ORs6.slc brEnc_len; have ct0_s6 := ts6.at 0 rfl; have ct1_s6 := ts6.at 1 rfl; have cx0_s6 := xs6.at 0 rfl; have cx1_s6 := xs6.at 1 rfl; have cx2_s6 := xs6.at 2 rfl; have cr0_s6 := rs6.at 0 rfl; have cr1_s6 := rs6.at 1 rfl; have cy0_s6 := ys6.at 0 rfl; have cy1_s6 := ys6.at 1 rfl; have cy2_s6 := ys6.at 2 rfl; have zt0_s6 := ts6.frozen 0; have zt1_s6 := ts6.frozen 1; have zr0_s6 := rs6.frozen 0; have zr1_s6 := rs6.frozen 1; obtain ⟨q0_s6, q1_s6, q2_s6, q3_s6, q4_s6, q5_s6, q6_s6⟩ := br_cells HRs6 hk; simp only [Nat.zero_add] at q0_s6 q1_s6 q2_s6 q3_s6 q4_s6 q5_s6 q6_s6))
    have rr := (rs6.set 0 (.slice (some ⟨g, 0, none⟩) R.length yc)).set 1 (.slice sa sn sc)
    have k0 := rr.at 0 rfl; have k1 := rr.at 1 rfl
    refine bodyPost_ret (by simp [results, Try.results14, go_sem, k0, k1]; rfl) rfl ?_
    rw [hD.out]
    refine ⟨_, _, rfl, ?_, ?_, Below.setCell (p := ⟨w.heap.size + 1 + 1, 1, none⟩) (Below.setCell (p := ⟨w.heap.size + 1 + 1, 0, none⟩) hTs6 (by simp only; omega) _) (by simp only; omega) _⟩
    · exact ((ORs6.oth _ _ _ (by omega)).oth _ _ _ (by omega)).rebase (fun i hi => by have h1 := ORs6.ge hi; omega)
    · exact ((OAs6.oth _ _ _ (by omega)).oth _ _ _ (by omega)).rebase (fun i hi => by have h1 := OAs6.ge hi; omega)
  · have hqn := Lib.hid hq
    rw [resume_fresh hTb.out.2.1 hsz.out hxk.out hact.out hq, if_neg (by simp)] at hF0
    have hD : Hid (overB 0 (startD R A se (xf, xg, xb) false true) = errR 9) := Lib.hid (by unfold overB; rw [if_pos rfl, hF0])
    clear hF0 hq
    go_wp2_with (first | (go_at_call 58; (with_reducible refine (ractive2 _ _ A se false HAs2 hLA hact.out).mono ?_); rintro e w3 ⟨yy, rfl, hB3⟩; have t3 := ts2.pure hB3; have x3 := xs2.pure hB3; have r3 := rs2.pure hB3; have HR3 := HRs2.pure hB3; have HA3 := HAs2.pure hB3; have OR3 := ORs2.pure hB3; have OA3 := OAs2.pure hB3; have hT3 := hTs2.trans (hB3.mono hTs2.size); have hW3 := Nat.le_trans hWs2 hB3.size; clear ct0_2 ct1_2 cx0_2 cx1_2 cx2_2 cr0_2 cr1_2 zt0_2 zt1_2 zr0_2 zr1_2 ct0_s2 ct1_s2 cx0_s2 cx1_s2 cx2_s2 cr0_s2 cr1_s2 zt0_s2 zt1_s2 zr0_s2 zr1_s2; have ct0_3 := t3.at 0 rfl; have ct1_3 := t3.at 1 rfl; have cx0_3 := x3.at 0 rfl; have cx1_3 := x3.at 1 rfl; have cx2_3 := x3.at 2 rfl; have hBb3 := (Below.refl w3.heap.size w3).alloc (Nat.le_refl _) (.cells #[.int .u32 yy.1, .string yy.2.1, .string yy.2.2] 28); have yb3 := Blk.new w3 [.int .u32 yy.1, .string yy.2.1, .string yy.2.2] 28; have tb3 := t3.pure hBb3; have xb3 := x3.pure hBb3; have rb3 := r3.pure hBb3; have HRb3 := HR3.pure hBb3; have HAb3 := HA3.pure hBb3; have ORb3 := OR3.pure hBb3; have OAb3 := OA3.pure hBb3; have hTb3 := hT3.trans (hBb3.mono hT3.size); have hWb3 := Nat.le_trans hW3 hBb3.size; have ct0_b3 := tb3.at 0 rfl; have ct1_b3 := tb3.at 1 rfl; have cx0_b3 := xb3.at 0 rfl; have cx1_b3 := xb3.at 1 rfl; have cx2_b3 := xb3.at 2 rfl; have cy0_b3 := yb3.at 0 rfl; have cy1_b3 := yb3.at 1 rfl; have cy2_b3 := yb3.at 2 rfl) | (go_at_call 19; (with_reducible refine (dat_yes _ _ _ R A (xf, xg, xb) k HRb3 HAb3 hris.out hk hkx'.out).mono ?_); rintro e w4 ⟨rfl, hB4⟩; have t4 := tb3.pure hB4; have x4 := xb3.pure hB4; have r4 := rb3.pure hB4; have y4 := yb3.pure hB4; have HR4 := HRb3.pure hB4; have HA4 := HAb3.pure hB4; have OR4 := ORb3.pure hB4; have OA4 := OAb3.pure hB4; have hT4 := hTb3.trans (hB4.mono hTb3.size); have hW4 := Nat.le_trans hWb3 hB4.size; clear ct0_3 ct1_3 cx0_3 cx1_3 cx2_3 ct0_b3 ct1_b3 cx0_b3 cx1_b3 cx2_b3 cy0_b3 cy1_b3 cy2_b3; have ct0_4 := t4.at 0 rfl; have ct1_4 := t4.at 1 rfl; have cx0_4 := x4.at 0 rfl; have cx1_4 := x4.at 1 rfl; have cx2_4 := x4.at 2 rfl; have cy0_4 := y4.at 0 rfl; have cy1_4 := y4.at 1 rfl; have cy2_4 := y4.at 2 rfl; obtain ⟨q0_4, q1_4, q2_4, q3_4, q4_4, q5_4, q6_4⟩ := br_cells HR4 hk; simp only [Nat.zero_add] at q0_4 q1_4 q2_4 q3_4 q4_4 q5_4 q6_4) | (go_at_call 61; (with_reducible refine (rfind_no _ _ A se (xf, xg, xb) HA4 hLA hqn.out).mono ?_); rintro e w5 ⟨rfl, hB5⟩; have t5 := t4.pure hB5; have x5 := x4.pure hB5; have r5 := r4.pure hB5; have y5 := y4.pure hB5; have HR5 := HR4.pure hB5; have HA5 := HA4.pure hB5; have OR5 := OR4.pure hB5; have OA5 := OA4.pure hB5; have hT5 := hT4.trans (hB5.mono hT4.size); have hW5 := Nat.le_trans hW4 hB5.size; clear ct0_4 ct1_4 cx0_4 cx1_4 cx2_4 cy0_4 cy1_4 cy2_4 q0_4 q1_4 q2_4 q3_4 q4_4 q5_4 q6_4; have ct0_5 := t5.at 0 rfl; have ct1_5 := t5.at 1 rfl; have cx0_5 := x5.at 0 rfl; have cx1_5 := x5.at 1 rfl; have cx2_5 := x5.at 2 rfl; have cy0_5 := y5.at 0 rfl; have cy1_5 := y5.at 1 rfl; have cy2_5 := y5.at 2 rfl; obtain ⟨q0_5, q1_5, q2_5, q3_5, q4_5, q5_5, q6_5⟩ := br_cells HR5 hk; simp only [Nat.zero_add] at q0_5 q1_5 q2_5 q3_5 q4_5 q5_5 q6_5) | (go_at_call 57; (with_reducible refine (dno_any _ 9).mono ?_); rintro e w6 ⟨rfl, hB6⟩; have t6 := t5.pure hB6; have x6 := x5.pure hB6; have r6 := r5.pure hB6; have y6 := y5.pure hB6; have HR6 := HR5.pure hB6; have OR6 := OR5.pure hB6; have OA6 := OA5.pure hB6; have hT6 := hT5.trans (hB6.mono hT5.size); clear ct0_5 ct1_5 cx0_5 cx1_5 cx2_5 cy0_5 cy1_5 cy2_5 q0_5 q1_5 q2_5 q3_5 q4_5 q5_5 q6_5; have ct0_6 := t6.at 0 rfl; have ct1_6 := t6.at 1 rfl; have cx0_6 := x6.at 0 rfl; have cx1_6 := x6.at 1 rfl; have cx2_6 := x6.at 2 rfl; have cr0_6 := r6.at 0 rfl; have cr1_6 := r6.at 1 rfl; have cy0_6 := y6.at 0 rfl; have cy1_6 := y6.at 1 rfl; have cy2_6 := y6.at 2 rfl; have zt0_6 := t6.frozen 0; have zt1_6 := t6.frozen 1; have zr0_6 := r6.frozen 0; have zr1_6 := r6.frozen 1; obtain ⟨q0_6, q1_6, q2_6, q3_6, q4_6, q5_6, q6_6⟩ := br_cells HR6 hk; simp only [Nat.zero_add] at q0_6 q1_6 q2_6 q3_6 q4_6 q5_6 q6_6))
    have rr := (r6.set 0 (.slice none 0 0)).set 1 (.slice none 0 0)
    have k0 := rr.at 0 rfl; have k1 := rr.at 1 rfl
    refine bodyPost_ret (by simp [results, Try.results14, go_sem, k0, k1]; rfl) rfl ?_
    rw [hD.out]
    refine ⟨_, _, rfl, ?_, ?_, Below.setCell (p := ⟨w.heap.size + 1 + 1, 1, none⟩) (Below.setCell (p := ⟨w.heap.size + 1 + 1, 0, none⟩) hT6 (by simp only; omega) _) (by simp only; omega) _⟩
    · exact Own.nil
    · exact Own.nil

set_option maxRecDepth 100000 in
set_option maxHeartbeats 6400000 in
theorem dstart_tf (w : World) (rv av : Value) (R : List Brn) (A : List Asc) (x : Xid) (se : Int) (hR : Slc brEnc 7 w rv R) (hA : Slc ascEnc 5 w av A) (hLR : R.length ≤ 1000000) (hLA : A.length ≤ 1000000) (htm : ∀ b ∈ R, 0 ≤ b.tm) (hse : se ≠ 0) (hm0 : mayB R A true x = 0) :
    Calls Try.prog 14 #[.agg #[rv, av], .int .u64 se, .agg #[.int .u32 x.1, .string x.2.1, .string x.2.2], .bool true, .bool false] w (TabPost w (overB 0 (startD R A se x true false))) := by
  obtain ⟨ra, rc, rfl, -⟩ := hR.len
  obtain ⟨aa, ac, rfl, -⟩ := hA.len
  obtain ⟨xf, xg, xb⟩ := x
  have hT0 : Below w.heap.size w (((w.alloc (.cells #[.slice ra R.length rc, .slice aa A.length ac] 25)).alloc (.cells #[.int .u32 xf, .string xg, .string xb] 28)).alloc (.cells #[.slice none 0 0, .slice none 0 0] 25)) := ((((Below.refl w.heap.size w).alloc (Nat.le_refl _) _).alloc (by simp) _).alloc (by simp; omega) _)
  have hW0 : w.heap.size + 3 ≤ (((w.alloc (.cells #[.slice ra R.length rc, .slice aa A.length ac] 25)).alloc (.cells #[.int .u32 xf, .string xg, .string xb] 28)).alloc (.cells #[.slice none 0 0, .slice none 0 0] 25)).heap.size := by simp
  have t0 : Blk (((w.alloc (.cells #[.slice ra R.length rc, .slice aa A.length ac] 25)).alloc (.cells #[.int .u32 xf, .string xg, .string xb] 28)).alloc (.cells #[.slice none 0 0, .slice none 0 0] 25)) (w.heap.size) [.slice ra R.length rc, .slice aa A.length ac] := (((Blk.newAt2 w [.slice ra R.length rc, .slice aa A.length ac] 25 (w.heap.size) (by simp)).alloc (.cells #[.int .u32 xf, .string xg, .string xb] 28)).alloc (.cells #[.slice none 0 0, .slice none 0 0] 25))
  have x0 : Blk (((w.alloc (.cells #[.slice ra R.length rc, .slice aa A.length ac] 25)).alloc (.cells #[.int .u32 xf, .string xg, .string xb] 28)).alloc (.cells #[.slice none 0 0, .slice none 0 0] 25)) (w.heap.size + 1) [.int .u32 xf, .string xg, .string xb] := ((Blk.newAt2 (w.alloc (.cells #[.slice ra R.length rc, .slice aa A.length ac] 25)) [.int .u32 xf, .string xg, .string xb] 28 (w.heap.size + 1) (by simp)).alloc (.cells #[.slice none 0 0, .slice none 0 0] 25))
  have r0 : Blk (((w.alloc (.cells #[.slice ra R.length rc, .slice aa A.length ac] 25)).alloc (.cells #[.int .u32 xf, .string xg, .string xb] 28)).alloc (.cells #[.slice none 0 0, .slice none 0 0] 25)) (w.heap.size + 1 + 1) [.slice none 0 0, .slice none 0 0] := (Blk.newAt2 ((w.alloc (.cells #[.slice ra R.length rc, .slice aa A.length ac] 25)).alloc (.cells #[.int .u32 xf, .string xg, .string xb] 28)) [.slice none 0 0, .slice none 0 0] 25 (w.heap.size + 1 + 1) (by simp))
  have ct0_0 := t0.at 0 rfl
  have ct1_0 := t0.at 1 rfl
  have cx0_0 := x0.at 0 rfl
  have cx1_0 := x0.at 1 rfl
  have cx2_0 := x0.at 2 rfl
  have cr0_0 := r0.at 0 rfl
  have cr1_0 := r0.at 1 rfl
  have zt0_0 := t0.frozen 0
  have zt1_0 := t0.frozen 1
  have zr0_0 := r0.frozen 0
  have zr1_0 := r0.frozen 1
  have HR0 := hR.pure hT0; have HA0 := hA.pure hT0
  have hmay : Hid (mayB R A (!false) (xf, xg, xb) = 0) := Lib.hid hm0
  obtain ⟨hTab, -, hxok⟩ := mayB_zero hm0
  have hTb := Lib.hid hTab
  have hxk := Lib.hid hxok
  have hris := Lib.hid hTab.1.2
  have hria := Lib.hid hTab.2.1.rises
  have hzb : (se == 0) = false := beq_eq_false_iff_ne.2 hse
  have hsz := Lib.hid hse
  clear hm0 hse hTab hxok
  go_enter Try.func14, Try.ntmps14
  go_upto_region 5 with (first | (go_at_call 56; (with_reducible refine (dmay_any _ _ _ R A false (xf, xg, xb) 0 HR0 HA0 hLR hLA htm hmay.out).mono ?_); rintro e w1 ⟨rfl, hB1⟩; have t1 := t0.pure hB1; have x1 := x0.pure hB1; have r1 := r0.pure hB1; have HR1 := HR0.pure hB1; have HA1 := HA0.pure hB1; have hT1 := hT0.trans (hB1.mono hT0.size); have hW1 := Nat.le_trans hW0 hB1.size; clear ct0_0 ct1_0 cx0_0 cx1_0 cx2_0 cr0_0 cr1_0 zt0_0 zt1_0 zr0_0 zr1_0; have ct0_1 := t1.at 0 rfl; have ct1_1 := t1.at 1 rfl; have cx0_1 := x1.at 0 rfl; have cx1_1 := x1.at 1 rfl; have cx2_1 := x1.at 2 rfl) | (go_at_call 12; (with_reducible refine (dcopy_any _ _ _ R A HR1 HA1 hLR hLA).mono ?_); rintro e w2 ⟨rr2, aa2, rfl, hO2, hP2, hB2⟩; obtain ⟨ya, yc, rfl⟩ := own_len hO2; obtain ⟨ua, uc, rfl⟩ := own_len hP2; have OR2 := hO2.rebase (b' := w.heap.size + 3) (fun i hi => Nat.le_trans hW1 (hO2.ge hi)); have OA2 := hP2.rebase (b' := w.heap.size + 3) (fun i hi => Nat.le_trans hW1 (hP2.ge hi)); have t2 := t1.pure hB2; have x2 := x1.pure hB2; have r2 := r1.pure hB2; have hT2 := hT1.trans (hB2.mono hT1.size); have hW2 := Nat.le_trans hW1 hB2.size; clear ct0_1 ct1_1 cx0_1 cx1_1 cx2_1; have ct0_2 := t2.at 0 rfl; have ct1_2 := t2.at 1 rfl; have cx0_2 := x2.at 0 rfl; have cx1_2 := x2.at 1 rfl; have cx2_2 := x2.at 2 rfl; have cr0_2 := r2.at 0 rfl; have cr1_2 := r2.at 1 rfl; have zt0_2 := t2.frozen 0; have zt1_2 := t2.frozen 1; have zr0_2 := r2.frozen 0; have zr1_2 := r2.frozen 1; have ts2 := ((t2.set 0 (.slice ya R.length yc)).set 1 (.slice ua A.length uc)); have xs2 := ((x2.other ⟨w.heap.size, 0, none⟩ (.slice ya R.length yc) (by simp only; omega)).other ⟨w.heap.size, 1, none⟩ (.slice ua A.length uc) (by simp only; omega)); have rs2 := ((r2.other ⟨w.heap.size, 0, none⟩ (.slice ya R.length yc) (by simp only; omega)).other ⟨w.heap.size, 1, none⟩ (.slice ua A.length uc) (by simp only; omega)); have ORs2 := ((OR2.oth (w.heap.size) 0 (.slice ya R.length yc) (by omega)).oth (w.heap.size) 1 (.slice ua A.length uc) (by omega)); have OAs2 := ((OA2.oth (w.heap.size) 0 (.slice ya R.length yc) (by omega)).oth (w.heap.size) 1 (.slice ua A.length uc) (by omega)); have hTs2 := (Below.setCell (p := ⟨w.heap.size, 1, none⟩) (Below.setCell (p := ⟨w.heap.size, 0, none⟩) hT2 (by simp only; omega) (.slice ya R.length yc)) (by simp only; omega) (.slice ua A.length uc)); have hWs2 := (Nat.le_trans (Nat.le_trans hW2 (Upd.set (S := fun _ => True) (p := ⟨w.heap.size, 0, none⟩) trivial (.slice ya R.length yc)).size) (Upd.set (S := fun _ => True) (p := ⟨w.heap.size, 1, none⟩) trivial (.slice ua A.length uc)).size); have HRs2 := ORs2.slc brEnc_len; have HAs2 := OAs2.slc ascEnc_len; have ct0_s2 := ts2.at 0 rfl; have ct1_s2 := ts2.at 1 rfl; have cx0_s2 := xs2.at 0 rfl; have cx1_s2 := xs2.at 1 rfl; have cx2_s2 := xs2.at 2 rfl; have cr0_s2 := rs2.at 0 rfl; have cr1_s2 := rs2.at 1 rfl; have zt0_s2 := ts2.frozen 0; have zt1_s2 := ts2.frozen 1; have zr0_s2 := rs2.frozen 0; have zr1_s2 := rs2.frozen 1))
  obtain ⟨ab, hab⟩ : ∃ ab, (actA A se).isSome = ab := ⟨_, rfl⟩
  have hact := Lib.hid hab
  cases ab
  rotate_left 1
  · have hdum := True.intro
    have hD : Hid (overB 0 (startD R A se (xf, xg, xb) true false) = errR 9) := Lib.hid (by unfold overB startD; rw [if_pos rfl, if_pos hab])
    clear hab
    go_wp2_with (first | (go_at_call 58; (with_reducible refine (ractive2 _ _ A se true HAs2 hLA hact.out).mono ?_); rintro e w3 ⟨yy, rfl, hB3⟩; have t3 := ts2.pure hB3; have x3 := xs2.pure hB3; have r3 := rs2.pure hB3; have HR3 := HRs2.pure hB3; have HA3 := HAs2.pure hB3; have OR3 := ORs2.pure hB3; have OA3 := OAs2.pure hB3; have hT3 := hTs2.trans (hB3.mono hTs2.size); have hW3 := Nat.le_trans hWs2 hB3.size; clear ct0_2 ct1_2 cx0_2 cx1_2 cx2_2 cr0_2 cr1_2 zt0_2 zt1_2 zr0_2 zr1_2 ct0_s2 ct1_s2 cx0_s2 cx1_s2 cx2_s2 cr0_s2 cr1_s2 zt0_s2 zt1_s2 zr0_s2 zr1_s2; have ct0_3 := t3.at 0 rfl; have ct1_3 := t3.at 1 rfl; have cx0_3 := x3.at 0 rfl; have cx1_3 := x3.at 1 rfl; have cx2_3 := x3.at 2 rfl; have hBb3 := (Below.refl w3.heap.size w3).alloc (Nat.le_refl _) (.cells #[.int .u32 yy.1, .string yy.2.1, .string yy.2.2] 28); have yb3 := Blk.new w3 [.int .u32 yy.1, .string yy.2.1, .string yy.2.2] 28; have tb3 := t3.pure hBb3; have xb3 := x3.pure hBb3; have rb3 := r3.pure hBb3; have HRb3 := HR3.pure hBb3; have HAb3 := HA3.pure hBb3; have ORb3 := OR3.pure hBb3; have OAb3 := OA3.pure hBb3; have hTb3 := hT3.trans (hBb3.mono hT3.size); have hWb3 := Nat.le_trans hW3 hBb3.size; have ct0_b3 := tb3.at 0 rfl; have ct1_b3 := tb3.at 1 rfl; have cx0_b3 := xb3.at 0 rfl; have cx1_b3 := xb3.at 1 rfl; have cx2_b3 := xb3.at 2 rfl; have cy0_b3 := yb3.at 0 rfl; have cy1_b3 := yb3.at 1 rfl; have cy2_b3 := yb3.at 2 rfl) | (go_at_call 57; (with_reducible refine (dno_any _ 9).mono ?_); rintro e w4 ⟨rfl, hB4⟩; have t4 := tb3.pure hB4; have x4 := xb3.pure hB4; have r4 := rb3.pure hB4; have y4 := yb3.pure hB4; have HR4 := HRb3.pure hB4; have HA4 := HAb3.pure hB4; have OR4 := ORb3.pure hB4; have OA4 := OAb3.pure hB4; have hT4 := hTb3.trans (hB4.mono hTb3.size); have hW4 := Nat.le_trans hWb3 hB4.size; clear ct0_3 ct1_3 cx0_3 cx1_3 cx2_3 ct0_b3 ct1_b3 cx0_b3 cx1_b3 cx2_b3 cy0_b3 cy1_b3 cy2_b3; have ct0_4 := t4.at 0 rfl; have ct1_4 := t4.at 1 rfl; have cx0_4 := x4.at 0 rfl; have cx1_4 := x4.at 1 rfl; have cx2_4 := x4.at 2 rfl; have cr0_4 := r4.at 0 rfl; have cr1_4 := r4.at 1 rfl; have cy0_4 := y4.at 0 rfl; have cy1_4 := y4.at 1 rfl; have cy2_4 := y4.at 2 rfl; have zt0_4 := t4.frozen 0; have zt1_4 := t4.frozen 1; have zr0_4 := r4.frozen 0; have zr1_4 := r4.frozen 1))
    have rr := (r4.set 0 (.slice none 0 0)).set 1 (.slice none 0 0)
    have k0 := rr.at 0 rfl; have k1 := rr.at 1 rfl
    refine bodyPost_ret (by simp [results, Try.results14, go_sem, k0, k1]; rfl) rfl ?_
    rw [hD.out]
    refine ⟨_, _, rfl, ?_, ?_, Below.setCell (p := ⟨w.heap.size + 1 + 1, 1, none⟩) (Below.setCell (p := ⟨w.heap.size + 1 + 1, 0, none⟩) hT4 (by simp only; omega) _) (by simp only; omega) _⟩
    · exact Own.nil
    · exact Own.nil
  have hF0 : startD R A se (xf, xg, xb) true false = startD R A se (xf, xg, xb) true false := rfl
  conv at hF0 => rhs; unfold startD
  rw [if_neg (by rw [hab]; simp)] at hF0
  clear hab
  rw [if_neg (by simp)] at hF0
  rcases Classical.em (MemB R (xf, xg, xb)) with hm | hm
  rotate_left 1
  · have hn := Lib.hid hm
    rw [idxB_no hm] at hF0
    have hD : Hid (overB 0 (startD R A se (xf, xg, xb) true false) = errR 7) := Lib.hid (by unfold overB; rw [if_pos rfl, hF0])
    clear hF0 hm
    go_wp2_with (first | (go_at_call 58; (with_reducible refine (ractive2 _ _ A se false HAs2 hLA hact.out).mono ?_); rintro e w3 ⟨yy, rfl, hB3⟩; have t3 := ts2.pure hB3; have x3 := xs2.pure hB3; have r3 := rs2.pure hB3; have HR3 := HRs2.pure hB3; have HA3 := HAs2.pure hB3; have OR3 := ORs2.pure hB3; have OA3 := OAs2.pure hB3; have hT3 := hTs2.trans (hB3.mono hTs2.size); have hW3 := Nat.le_trans hWs2 hB3.size; clear ct0_2 ct1_2 cx0_2 cx1_2 cx2_2 cr0_2 cr1_2 zt0_2 zt1_2 zr0_2 zr1_2 ct0_s2 ct1_s2 cx0_s2 cx1_s2 cx2_s2 cr0_s2 cr1_s2 zt0_s2 zt1_s2 zr0_s2 zr1_s2; have ct0_3 := t3.at 0 rfl; have ct1_3 := t3.at 1 rfl; have cx0_3 := x3.at 0 rfl; have cx1_3 := x3.at 1 rfl; have cx2_3 := x3.at 2 rfl; have hBb3 := (Below.refl w3.heap.size w3).alloc (Nat.le_refl _) (.cells #[.int .u32 yy.1, .string yy.2.1, .string yy.2.2] 28); have yb3 := Blk.new w3 [.int .u32 yy.1, .string yy.2.1, .string yy.2.2] 28; have tb3 := t3.pure hBb3; have xb3 := x3.pure hBb3; have rb3 := r3.pure hBb3; have HRb3 := HR3.pure hBb3; have HAb3 := HA3.pure hBb3; have ORb3 := OR3.pure hBb3; have OAb3 := OA3.pure hBb3; have hTb3 := hT3.trans (hBb3.mono hT3.size); have hWb3 := Nat.le_trans hW3 hBb3.size; have ct0_b3 := tb3.at 0 rfl; have ct1_b3 := tb3.at 1 rfl; have cx0_b3 := xb3.at 0 rfl; have cx1_b3 := xb3.at 1 rfl; have cx2_b3 := xb3.at 2 rfl; have cy0_b3 := yb3.at 0 rfl; have cy1_b3 := yb3.at 1 rfl; have cy2_b3 := yb3.at 2 rfl) | (go_at_call 19; (with_reducible refine (dat_no _ _ _ R A (xf, xg, xb) HRb3 HAb3 hn.out).mono ?_); rintro e w4 ⟨rfl, hB4⟩; have t4 := tb3.pure hB4; have x4 := xb3.pure hB4; have r4 := rb3.pure hB4; have y4 := yb3.pure hB4; have HR4 := HRb3.pure hB4; have HA4 := HAb3.pure hB4; have OR4 := ORb3.pure hB4; have OA4 := OAb3.pure hB4; have hT4 := hTb3.trans (hB4.mono hTb3.size); have hW4 := Nat.le_trans hWb3 hB4.size; clear ct0_3 ct1_3 cx0_3 cx1_3 cx2_3 ct0_b3 ct1_b3 cx0_b3 cx1_b3 cx2_b3 cy0_b3 cy1_b3 cy2_b3; have ct0_4 := t4.at 0 rfl; have ct1_4 := t4.at 1 rfl; have cx0_4 := x4.at 0 rfl; have cx1_4 := x4.at 1 rfl; have cx2_4 := x4.at 2 rfl; have cy0_4 := y4.at 0 rfl; have cy1_4 := y4.at 1 rfl; have cy2_4 := y4.at 2 rfl) | (go_at_call 57; (with_reducible refine (dno_any _ 7).mono ?_); rintro e w5 ⟨rfl, hB5⟩; have t5 := t4.pure hB5; have x5 := x4.pure hB5; have r5 := r4.pure hB5; have y5 := y4.pure hB5; have HR5 := HR4.pure hB5; have HA5 := HA4.pure hB5; have OR5 := OR4.pure hB5; have OA5 := OA4.pure hB5; have hT5 := hT4.trans (hB5.mono hT4.size); have hW5 := Nat.le_trans hW4 hB5.size; clear ct0_4 ct1_4 cx0_4 cx1_4 cx2_4 cy0_4 cy1_4 cy2_4; have ct0_5 := t5.at 0 rfl; have ct1_5 := t5.at 1 rfl; have cx0_5 := x5.at 0 rfl; have cx1_5 := x5.at 1 rfl; have cx2_5 := x5.at 2 rfl; have cr0_5 := r5.at 0 rfl; have cr1_5 := r5.at 1 rfl; have cy0_5 := y5.at 0 rfl; have cy1_5 := y5.at 1 rfl; have cy2_5 := y5.at 2 rfl; have zt0_5 := t5.frozen 0; have zt1_5 := t5.frozen 1; have zr0_5 := r5.frozen 0; have zr1_5 := r5.frozen 1))
    have rr := (r5.set 0 (.slice none 0 0)).set 1 (.slice none 0 0)
    have k0 := rr.at 0 rfl; have k1 := rr.at 1 rfl
    refine bodyPost_ret (by simp [results, Try.results14, go_sem, k0, k1]; rfl) rfl ?_
    rw [hD.out]
    refine ⟨_, _, rfl, ?_, ?_, Below.setCell (p := ⟨w.heap.size + 1 + 1, 1, none⟩) (Below.setCell (p := ⟨w.heap.size + 1 + 1, 0, none⟩) hT5 (by simp only; omega) _) (by simp only; omega) _⟩
    · exact Own.nil
    · exact Own.nil
  obtain ⟨k, hk, hkx⟩ := hm
  have hkx' := Lib.hid hkx
  have hk0 : (0 : Int) ≤ (k : Int) := by omega
  have hk1 : (k : Int) < (R.length : Int) := by omega
  have hkd : decide ((k : Int) < 0) = false := decide_eq_false (by omega)
  rw [idxB_yes hris.out hk hkx] at hF0
  simp only [getD_at hk] at hF0
  clear hkx
  obtain ⟨g, rfl, hg⟩ := own_at7 ORs2 hk
  have hdis := Lib.hid (fun (i : Nat) (hi : Value.ownBlock (.slice ua A.length uc) = some i) (e : i = g) => own_apart ORs2 OAs2 (by decide) rfl (by rw [hi, e]))
  by_cases h1 : R[k].st = 1
  rotate_left 1
  · have hsb : (R[k].st != 1) = true := bne_iff_ne.2 h1
    rw [if_pos h1] at hF0
    have hD : Hid (overB 0 (startD R A se (xf, xg, xb) true false) = errR 9) := Lib.hid (by unfold overB; rw [if_pos rfl, hF0])
    clear hF0 h1
    go_wp2_with (first | (go_at_call 58; (with_reducible refine (ractive2 _ _ A se false HAs2 hLA hact.out).mono ?_); rintro e w3 ⟨yy, rfl, hB3⟩; have t3 := ts2.pure hB3; have x3 := xs2.pure hB3; have r3 := rs2.pure hB3; have HR3 := HRs2.pure hB3; have HA3 := HAs2.pure hB3; have OR3 := ORs2.pure hB3; have OA3 := OAs2.pure hB3; have hT3 := hTs2.trans (hB3.mono hTs2.size); have hW3 := Nat.le_trans hWs2 hB3.size; clear ct0_2 ct1_2 cx0_2 cx1_2 cx2_2 cr0_2 cr1_2 zt0_2 zt1_2 zr0_2 zr1_2 ct0_s2 ct1_s2 cx0_s2 cx1_s2 cx2_s2 cr0_s2 cr1_s2 zt0_s2 zt1_s2 zr0_s2 zr1_s2; have ct0_3 := t3.at 0 rfl; have ct1_3 := t3.at 1 rfl; have cx0_3 := x3.at 0 rfl; have cx1_3 := x3.at 1 rfl; have cx2_3 := x3.at 2 rfl; have hBb3 := (Below.refl w3.heap.size w3).alloc (Nat.le_refl _) (.cells #[.int .u32 yy.1, .string yy.2.1, .string yy.2.2] 28); have yb3 := Blk.new w3 [.int .u32 yy.1, .string yy.2.1, .string yy.2.2] 28; have tb3 := t3.pure hBb3; have xb3 := x3.pure hBb3; have rb3 := r3.pure hBb3; have HRb3 := HR3.pure hBb3; have HAb3 := HA3.pure hBb3; have ORb3 := OR3.pure hBb3; have OAb3 := OA3.pure hBb3; have hTb3 := hT3.trans (hBb3.mono hT3.size); have hWb3 := Nat.le_trans hW3 hBb3.size; have ct0_b3 := tb3.at 0 rfl; have ct1_b3 := tb3.at 1 rfl; have cx0_b3 := xb3.at 0 rfl; have cx1_b3 := xb3.at 1 rfl; have cx2_b3 := xb3.at 2 rfl; have cy0_b3 := yb3.at 0 rfl; have cy1_b3 := yb3.at 1 rfl; have cy2_b3 := yb3.at 2 rfl) | (go_at_call 19; (with_reducible refine (dat_yes _ _ _ R A (xf, xg, xb) k HRb3 HAb3 hris.out hk hkx'.out).mono ?_); rintro e w4 ⟨rfl, hB4⟩; have t4 := tb3.pure hB4; have x4 := xb3.pure hB4; have r4 := rb3.pure hB4; have y4 := yb3.pure hB4; have HR4 := HRb3.pure hB4; have HA4 := HAb3.pure hB4; have OR4 := ORb3.pure hB4; have OA4 := OAb3.pure hB4; have hT4 := hTb3.trans (hB4.mono hTb3.size); have hW4 := Nat.le_trans hWb3 hB4.size; clear ct0_3 ct1_3 cx0_3 cx1_3 cx2_3 ct0_b3 ct1_b3 cx0_b3 cx1_b3 cx2_b3 cy0_b3 cy1_b3 cy2_b3; have ct0_4 := t4.at 0 rfl; have ct1_4 := t4.at 1 rfl; have cx0_4 := x4.at 0 rfl; have cx1_4 := x4.at 1 rfl; have cx2_4 := x4.at 2 rfl; have cy0_4 := y4.at 0 rfl; have cy1_4 := y4.at 1 rfl; have cy2_4 := y4.at 2 rfl; obtain ⟨q0_4, q1_4, q2_4, q3_4, q4_4, q5_4, q6_4⟩ := br_cells HR4 hk; simp only [Nat.zero_add] at q0_4 q1_4 q2_4 q3_4 q4_4 q5_4 q6_4) | (go_at_call 57; (with_reducible refine (dno_any _ 9).mono ?_); rintro e w5 ⟨rfl, hB5⟩; have t5 := t4.pure hB5; have x5 := x4.pure hB5; have r5 := r4.pure hB5; have y5 := y4.pure hB5; have HR5 := HR4.pure hB5; have HA5 := HA4.pure hB5; have OR5 := OR4.pure hB5; have OA5 := OA4.pure hB5; have hT5 := hT4.trans (hB5.mono hT4.size); have hW5 := Nat.le_trans hW4 hB5.size; clear ct0_4 ct1_4 cx0_4 cx1_4 cx2_4 cy0_4 cy1_4 cy2_4 q0_4 q1_4 q2_4 q3_4 q4_4 q5_4 q6_4; have ct0_5 := t5.at 0 rfl; have ct1_5 := t5.at 1 rfl; have cx0_5 := x5.at 0 rfl; have cx1_5 := x5.at 1 rfl; have cx2_5 := x5.at 2 rfl; have cr0_5 := r5.at 0 rfl; have cr1_5 := r5.at 1 rfl; have cy0_5 := y5.at 0 rfl; have cy1_5 := y5.at 1 rfl; have cy2_5 := y5.at 2 rfl; have zt0_5 := t5.frozen 0; have zt1_5 := t5.frozen 1; have zr0_5 := r5.frozen 0; have zr1_5 := r5.frozen 1; obtain ⟨q0_5, q1_5, q2_5, q3_5, q4_5, q5_5, q6_5⟩ := br_cells HR5 hk; simp only [Nat.zero_add] at q0_5 q1_5 q2_5 q3_5 q4_5 q5_5 q6_5))
    have rr := (r5.set 0 (.slice none 0 0)).set 1 (.slice none 0 0)
    have k0 := rr.at 0 rfl; have k1 := rr.at 1 rfl
    refine bodyPost_ret (by simp [results, Try.results14, go_sem, k0, k1]; rfl) rfl ?_
    rw [hD.out]
    refine ⟨_, _, rfl, ?_, ?_, Below.setCell (p := ⟨w.heap.size + 1 + 1, 1, none⟩) (Below.setCell (p := ⟨w.heap.size + 1 + 1, 0, none⟩) hT5 (by simp only; omega) _) (by simp only; omega) _⟩
    · exact Own.nil
    · exact Own.nil
  have hsb : (R[k].st != 1) = false := bne_eq_false_iff_eq.2 h1
  rw [if_neg (fun h => h h1)] at hF0
  clear h1
  by_cases hw : R[k].why = 0
  rotate_left 1
  · have hwb : (R[k].why != 0) = true := bne_iff_ne.2 hw
    rw [if_pos hw] at hF0
    have hD : Hid (overB 0 (startD R A se (xf, xg, xb) true false) = (R, A, R[k].why, 0)) := Lib.hid (by unfold overB; rw [if_pos rfl, hF0])
    clear hF0 hw
    go_wp2_with (first | (go_at_call 58; (with_reducible refine (ractive2 _ _ A se false HAs2 hLA hact.out).mono ?_); rintro e w3 ⟨yy, rfl, hB3⟩; have t3 := ts2.pure hB3; have x3 := xs2.pure hB3; have r3 := rs2.pure hB3; have HR3 := HRs2.pure hB3; have HA3 := HAs2.pure hB3; have OR3 := ORs2.pure hB3; have OA3 := OAs2.pure hB3; have hT3 := hTs2.trans (hB3.mono hTs2.size); have hW3 := Nat.le_trans hWs2 hB3.size; clear ct0_2 ct1_2 cx0_2 cx1_2 cx2_2 cr0_2 cr1_2 zt0_2 zt1_2 zr0_2 zr1_2 ct0_s2 ct1_s2 cx0_s2 cx1_s2 cx2_s2 cr0_s2 cr1_s2 zt0_s2 zt1_s2 zr0_s2 zr1_s2; have ct0_3 := t3.at 0 rfl; have ct1_3 := t3.at 1 rfl; have cx0_3 := x3.at 0 rfl; have cx1_3 := x3.at 1 rfl; have cx2_3 := x3.at 2 rfl; have hBb3 := (Below.refl w3.heap.size w3).alloc (Nat.le_refl _) (.cells #[.int .u32 yy.1, .string yy.2.1, .string yy.2.2] 28); have yb3 := Blk.new w3 [.int .u32 yy.1, .string yy.2.1, .string yy.2.2] 28; have tb3 := t3.pure hBb3; have xb3 := x3.pure hBb3; have rb3 := r3.pure hBb3; have HRb3 := HR3.pure hBb3; have HAb3 := HA3.pure hBb3; have ORb3 := OR3.pure hBb3; have OAb3 := OA3.pure hBb3; have hTb3 := hT3.trans (hBb3.mono hT3.size); have hWb3 := Nat.le_trans hW3 hBb3.size; have ct0_b3 := tb3.at 0 rfl; have ct1_b3 := tb3.at 1 rfl; have cx0_b3 := xb3.at 0 rfl; have cx1_b3 := xb3.at 1 rfl; have cx2_b3 := xb3.at 2 rfl; have cy0_b3 := yb3.at 0 rfl; have cy1_b3 := yb3.at 1 rfl; have cy2_b3 := yb3.at 2 rfl) | (go_at_call 19; (with_reducible refine (dat_yes _ _ _ R A (xf, xg, xb) k HRb3 HAb3 hris.out hk hkx'.out).mono ?_); rintro e w4 ⟨rfl, hB4⟩; have t4 := tb3.pure hB4; have x4 := xb3.pure hB4; have r4 := rb3.pure hB4; have y4 := yb3.pure hB4; have HR4 := HRb3.pure hB4; have HA4 := HAb3.pure hB4; have OR4 := ORb3.pure hB4; have OA4 := OAb3.pure hB4; have hT4 := hTb3.trans (hB4.mono hTb3.size); have hW4 := Nat.le_trans hWb3 hB4.size; clear ct0_3 ct1_3 cx0_3 cx1_3 cx2_3 ct0_b3 ct1_b3 cx0_b3 cx1_b3 cx2_b3 cy0_b3 cy1_b3 cy2_b3; have ct0_4 := t4.at 0 rfl; have ct1_4 := t4.at 1 rfl; have cx0_4 := x4.at 0 rfl; have cx1_4 := x4.at 1 rfl; have cx2_4 := x4.at 2 rfl; have cr0_4 := r4.at 0 rfl; have cr1_4 := r4.at 1 rfl; have cy0_4 := y4.at 0 rfl; have cy1_4 := y4.at 1 rfl; have cy2_4 := y4.at 2 rfl; have zt0_4 := t4.frozen 0; have zt1_4 := t4.frozen 1; have zr0_4 := r4.frozen 0; have zr1_4 := r4.frozen 1; obtain ⟨q0_4, q1_4, q2_4, q3_4, q4_4, q5_4, q6_4⟩ := br_cells HR4 hk; simp only [Nat.zero_add] at q0_4 q1_4 q2_4 q3_4 q4_4 q5_4 q6_4))
    go_region
    go_wp2
    have rr := (r4.set 0 (.slice (some ⟨g, 0, none⟩) R.length yc)).set 1 (.slice ua A.length uc)
    have k0 := rr.at 0 rfl; have k1 := rr.at 1 rfl
    refine bodyPost_ret (by simp [results, Try.results14, go_sem, k0, k1]; rfl) rfl ?_
    rw [hD.out]
    refine ⟨_, _, rfl, ?_, ?_, below_dr (Below.setCell (p := ⟨w.heap.size + 1 + 1, 1, none⟩) (Below.setCell (p := ⟨w.heap.size + 1 + 1, 0, none⟩) hT4 (by simp only; omega) _) (by simp only; omega) _)⟩
    · exact ((OR4.oth _ _ _ (by omega)).oth _ _ _ (by omega)).rebase (fun i hi => by have h1 := OR4.ge hi; omega)
    · exact ((OA4.oth _ _ _ (by omega)).oth _ _ _ (by omega)).rebase (fun i hi => by have h1 := OA4.ge hi; omega)
  have hwb : (R[k].why != 0) = false := bne_eq_false_iff_eq.2 hw
  rw [if_neg (fun h => h hw)] at hF0
  clear hw
  rw [if_neg (by simp)] at hF0
  rcases Classical.em (Mem A se (xf, xg, xb)) with hq | hq
  · have hdum := True.intro
    obtain ⟨i, hi, hie0⟩ := hq
    have hie := Lib.hid hie0
    have hid : decide ((0 : Int) ≤ (i : Int)) = true := decide_eq_true (by omega)
    rw [start_there hTb.out.2.1 hsz.out hxk.out hact.out hi hie0, if_neg (by simp)] at hF0
    have hD : Hid (overB 0 (startD R A se (xf, xg, xb) true false) = errR 9) := Lib.hid (by unfold overB; rw [if_pos rfl, hF0])
    clear hF0 hie0
    go_wp2_with (first | (go_at_call 58; (with_reducible refine (ractive2 _ _ A se false HAs2 hLA hact.out).mono ?_); rintro e w3 ⟨yy, rfl, hB3⟩; have t3 := ts2.pure hB3; have x3 := xs2.pure hB3; have r3 := rs2.pure hB3; have HR3 := HRs2.pure hB3; have HA3 := HAs2.pure hB3; have OR3 := ORs2.pure hB3; have OA3 := OAs2.pure hB3; have hT3 := hTs2.trans (hB3.mono hTs2.size); have hW3 := Nat.le_trans hWs2 hB3.size; clear ct0_2 ct1_2 cx0_2 cx1_2 cx2_2 cr0_2 cr1_2 zt0_2 zt1_2 zr0_2 zr1_2 ct0_s2 ct1_s2 cx0_s2 cx1_s2 cx2_s2 cr0_s2 cr1_s2 zt0_s2 zt1_s2 zr0_s2 zr1_s2; have ct0_3 := t3.at 0 rfl; have ct1_3 := t3.at 1 rfl; have cx0_3 := x3.at 0 rfl; have cx1_3 := x3.at 1 rfl; have cx2_3 := x3.at 2 rfl; have hBb3 := (Below.refl w3.heap.size w3).alloc (Nat.le_refl _) (.cells #[.int .u32 yy.1, .string yy.2.1, .string yy.2.2] 28); have yb3 := Blk.new w3 [.int .u32 yy.1, .string yy.2.1, .string yy.2.2] 28; have tb3 := t3.pure hBb3; have xb3 := x3.pure hBb3; have rb3 := r3.pure hBb3; have HRb3 := HR3.pure hBb3; have HAb3 := HA3.pure hBb3; have ORb3 := OR3.pure hBb3; have OAb3 := OA3.pure hBb3; have hTb3 := hT3.trans (hBb3.mono hT3.size); have hWb3 := Nat.le_trans hW3 hBb3.size; have ct0_b3 := tb3.at 0 rfl; have ct1_b3 := tb3.at 1 rfl; have cx0_b3 := xb3.at 0 rfl; have cx1_b3 := xb3.at 1 rfl; have cx2_b3 := xb3.at 2 rfl; have cy0_b3 := yb3.at 0 rfl; have cy1_b3 := yb3.at 1 rfl; have cy2_b3 := yb3.at 2 rfl) | (go_at_call 19; (with_reducible refine (dat_yes _ _ _ R A (xf, xg, xb) k HRb3 HAb3 hris.out hk hkx'.out).mono ?_); rintro e w4 ⟨rfl, hB4⟩; have t4 := tb3.pure hB4; have x4 := xb3.pure hB4; have r4 := rb3.pure hB4; have y4 := yb3.pure hB4; have HR4 := HRb3.pure hB4; have HA4 := HAb3.pure hB4; have OR4 := ORb3.pure hB4; have OA4 := OAb3.pure hB4; have hT4 := hTb3.trans (hB4.mono hTb3.size); have hW4 := Nat.le_trans hWb3 hB4.size; clear ct0_3 ct1_3 cx0_3 cx1_3 cx2_3 ct0_b3 ct1_b3 cx0_b3 cx1_b3 cx2_b3 cy0_b3 cy1_b3 cy2_b3; have ct0_4 := t4.at 0 rfl; have ct1_4 := t4.at 1 rfl; have cx0_4 := x4.at 0 rfl; have cx1_4 := x4.at 1 rfl; have cx2_4 := x4.at 2 rfl; have cy0_4 := y4.at 0 rfl; have cy1_4 := y4.at 1 rfl; have cy2_4 := y4.at 2 rfl; obtain ⟨q0_4, q1_4, q2_4, q3_4, q4_4, q5_4, q6_4⟩ := br_cells HR4 hk; simp only [Nat.zero_add] at q0_4 q1_4 q2_4 q3_4 q4_4 q5_4 q6_4) | (go_at_call 61; (with_reducible refine (rfind_yes _ _ A se (xf, xg, xb) i HA4 hria.out hLA hi hie.out).mono ?_); rintro e w5 ⟨rfl, hB5⟩; have t5 := t4.pure hB5; have x5 := x4.pure hB5; have r5 := r4.pure hB5; have y5 := y4.pure hB5; have HR5 := HR4.pure hB5; have HA5 := HA4.pure hB5; have OR5 := OR4.pure hB5; have OA5 := OA4.pure hB5; have hT5 := hT4.trans (hB5.mono hT4.size); have hW5 := Nat.le_trans hW4 hB5.size; clear ct0_4 ct1_4 cx0_4 cx1_4 cx2_4 cy0_4 cy1_4 cy2_4 q0_4 q1_4 q2_4 q3_4 q4_4 q5_4 q6_4; have ct0_5 := t5.at 0 rfl; have ct1_5 := t5.at 1 rfl; have cx0_5 := x5.at 0 rfl; have cx1_5 := x5.at 1 rfl; have cx2_5 := x5.at 2 rfl; have cy0_5 := y5.at 0 rfl; have cy1_5 := y5.at 1 rfl; have cy2_5 := y5.at 2 rfl; obtain ⟨q0_5, q1_5, q2_5, q3_5, q4_5, q5_5, q6_5⟩ := br_cells HR5 hk; simp only [Nat.zero_add] at q0_5 q1_5 q2_5 q3_5 q4_5 q5_5 q6_5) | (go_at_call 57; (with_reducible refine (dno_any _ 9).mono ?_); rintro e w6 ⟨rfl, hB6⟩; have t6 := t5.pure hB6; have x6 := x5.pure hB6; have r6 := r5.pure hB6; have y6 := y5.pure hB6; have HR6 := HR5.pure hB6; have OR6 := OR5.pure hB6; have OA6 := OA5.pure hB6; have hT6 := hT5.trans (hB6.mono hT5.size); clear ct0_5 ct1_5 cx0_5 cx1_5 cx2_5 cy0_5 cy1_5 cy2_5 q0_5 q1_5 q2_5 q3_5 q4_5 q5_5 q6_5; have ct0_6 := t6.at 0 rfl; have ct1_6 := t6.at 1 rfl; have cx0_6 := x6.at 0 rfl; have cx1_6 := x6.at 1 rfl; have cx2_6 := x6.at 2 rfl; have cr0_6 := r6.at 0 rfl; have cr1_6 := r6.at 1 rfl; have cy0_6 := y6.at 0 rfl; have cy1_6 := y6.at 1 rfl; have cy2_6 := y6.at 2 rfl; have zt0_6 := t6.frozen 0; have zt1_6 := t6.frozen 1; have zr0_6 := r6.frozen 0; have zr1_6 := r6.frozen 1; obtain ⟨q0_6, q1_6, q2_6, q3_6, q4_6, q5_6, q6_6⟩ := br_cells HR6 hk; simp only [Nat.zero_add] at q0_6 q1_6 q2_6 q3_6 q4_6 q5_6 q6_6))
    have rr := (r6.set 0 (.slice none 0 0)).set 1 (.slice none 0 0)
    have k0 := rr.at 0 rfl; have k1 := rr.at 1 rfl
    refine bodyPost_ret (by simp [results, Try.results14, go_sem, k0, k1]; rfl) rfl ?_
    rw [hD.out]
    refine ⟨_, _, rfl, ?_, ?_, Below.setCell (p := ⟨w.heap.size + 1 + 1, 1, none⟩) (Below.setCell (p := ⟨w.heap.size + 1 + 1, 0, none⟩) hT6 (by simp only; omega) _) (by simp only; omega) _⟩
    · exact Own.nil
    · exact Own.nil
  · have hqn := Lib.hid hq
    obtain ⟨A2, hA2⟩ := start_fresh hTb.out.2.1 hsz.out hxk.out hact.out hq
    have hst := Lib.hid hA2
    simp only [hA2, if_true] at hF0
    have hD : Hid (overB 0 (startD R A se (xf, xg, xb) true false) = (R, A2, 0, 0)) := Lib.hid (by unfold overB; rw [if_pos rfl, hF0])
    clear hF0 hA2 hq
    go_wp2_with (first | (go_at_call 58; (with_reducible refine (ractive2 _ _ A se false HAs2 hLA hact.out).mono ?_); rintro e w3 ⟨yy, rfl, hB3⟩; have t3 := ts2.pure hB3; have x3 := xs2.pure hB3; have r3 := rs2.pure hB3; have HR3 := HRs2.pure hB3; have HA3 := HAs2.pure hB3; have OR3 := ORs2.pure hB3; have OA3 := OAs2.pure hB3; have hT3 := hTs2.trans (hB3.mono hTs2.size); have hW3 := Nat.le_trans hWs2 hB3.size; clear ct0_2 ct1_2 cx0_2 cx1_2 cx2_2 cr0_2 cr1_2 zt0_2 zt1_2 zr0_2 zr1_2 ct0_s2 ct1_s2 cx0_s2 cx1_s2 cx2_s2 cr0_s2 cr1_s2 zt0_s2 zt1_s2 zr0_s2 zr1_s2; have ct0_3 := t3.at 0 rfl; have ct1_3 := t3.at 1 rfl; have cx0_3 := x3.at 0 rfl; have cx1_3 := x3.at 1 rfl; have cx2_3 := x3.at 2 rfl; have hBb3 := (Below.refl w3.heap.size w3).alloc (Nat.le_refl _) (.cells #[.int .u32 yy.1, .string yy.2.1, .string yy.2.2] 28); have yb3 := Blk.new w3 [.int .u32 yy.1, .string yy.2.1, .string yy.2.2] 28; have tb3 := t3.pure hBb3; have xb3 := x3.pure hBb3; have rb3 := r3.pure hBb3; have HRb3 := HR3.pure hBb3; have HAb3 := HA3.pure hBb3; have ORb3 := OR3.pure hBb3; have OAb3 := OA3.pure hBb3; have hTb3 := hT3.trans (hBb3.mono hT3.size); have hWb3 := Nat.le_trans hW3 hBb3.size; have ct0_b3 := tb3.at 0 rfl; have ct1_b3 := tb3.at 1 rfl; have cx0_b3 := xb3.at 0 rfl; have cx1_b3 := xb3.at 1 rfl; have cx2_b3 := xb3.at 2 rfl; have cy0_b3 := yb3.at 0 rfl; have cy1_b3 := yb3.at 1 rfl; have cy2_b3 := yb3.at 2 rfl) | (go_at_call 19; (with_reducible refine (dat_yes _ _ _ R A (xf, xg, xb) k HRb3 HAb3 hris.out hk hkx'.out).mono ?_); rintro e w4 ⟨rfl, hB4⟩; have t4 := tb3.pure hB4; have x4 := xb3.pure hB4; have r4 := rb3.pure hB4; have y4 := yb3.pure hB4; have HR4 := HRb3.pure hB4; have HA4 := HAb3.pure hB4; have OR4 := ORb3.pure hB4; have OA4 := OAb3.pure hB4; have hT4 := hTb3.trans (hB4.mono hTb3.size); have hW4 := Nat.le_trans hWb3 hB4.size; clear ct0_3 ct1_3 cx0_3 cx1_3 cx2_3 ct0_b3 ct1_b3 cx0_b3 cx1_b3 cx2_b3 cy0_b3 cy1_b3 cy2_b3; have ct0_4 := t4.at 0 rfl; have ct1_4 := t4.at 1 rfl; have cx0_4 := x4.at 0 rfl; have cx1_4 := x4.at 1 rfl; have cx2_4 := x4.at 2 rfl; have cy0_4 := y4.at 0 rfl; have cy1_4 := y4.at 1 rfl; have cy2_4 := y4.at 2 rfl; obtain ⟨q0_4, q1_4, q2_4, q3_4, q4_4, q5_4, q6_4⟩ := br_cells HR4 hk; simp only [Nat.zero_add] at q0_4 q1_4 q2_4 q3_4 q4_4 q5_4 q6_4) | (go_at_call 61; (with_reducible refine (rfind_no _ _ A se (xf, xg, xb) HA4 hLA hqn.out).mono ?_); rintro e w5 ⟨rfl, hB5⟩; have t5 := t4.pure hB5; have x5 := x4.pure hB5; have r5 := r4.pure hB5; have y5 := y4.pure hB5; have HR5 := HR4.pure hB5; have HA5 := HA4.pure hB5; have OR5 := OR4.pure hB5; have OA5 := OA4.pure hB5; have hT5 := hT4.trans (hB5.mono hT4.size); have hW5 := Nat.le_trans hW4 hB5.size; clear ct0_4 ct1_4 cx0_4 cx1_4 cx2_4 cy0_4 cy1_4 cy2_4 q0_4 q1_4 q2_4 q3_4 q4_4 q5_4 q6_4; have ct0_5 := t5.at 0 rfl; have ct1_5 := t5.at 1 rfl; have cx0_5 := x5.at 0 rfl; have cx1_5 := x5.at 1 rfl; have cx2_5 := x5.at 2 rfl; have cy0_5 := y5.at 0 rfl; have cy1_5 := y5.at 1 rfl; have cy2_5 := y5.at 2 rfl; obtain ⟨q0_5, q1_5, q2_5, q3_5, q4_5, q5_5, q6_5⟩ := br_cells HR5 hk; simp only [Nat.zero_add] at q0_5 q1_5 q2_5 q3_5 q4_5 q5_5 q6_5) | (go_at_call 60; (with_reducible refine (rstart2 _ _ A se (xf, xg, xb) A2 HA5 hLA hst.out).mono ?_); rintro e w6 ⟨r6, rfl, hN6, hB6⟩; obtain ⟨sa, sn, sc, rfl⟩ := hN6.shape3; have t6 := t5.pure hB6; have x6 := x5.pure hB6; have r6 := r5.pure hB6; have y6 := y5.pure hB6; have HR6 := HR5.pure hB6; have OR6 := OR5.pure hB6; have hT6 := hT5.trans (hB6.mono hT5.size); clear ct0_5 ct1_5 cx0_5 cx1_5 cx2_5 cy0_5 cy1_5 cy2_5 q0_5 q1_5 q2_5 q3_5 q4_5 q5_5 q6_5; have ct0_6 := t6.at 0 rfl; have ct1_6 := t6.at 1 rfl; have cx0_6 := x6.at 0 rfl; have cx1_6 := x6.at 1 rfl; have cx2_6 := x6.at 2 rfl; have cr0_6 := r6.at 0 rfl; have cr1_6 := r6.at 1 rfl; have cy0_6 := y6.at 0 rfl; have cy1_6 := y6.at 1 rfl; have cy2_6 := y6.at 2 rfl; have zt0_6 := t6.frozen 0; have zt1_6 := t6.frozen 1; have zr0_6 := r6.frozen 0; have zr1_6 := r6.frozen 1; obtain ⟨q0_6, q1_6, q2_6, q3_6, q4_6, q5_6, q6_6⟩ := br_cells HR6 hk; simp only [Nat.zero_add] at q0_6 q1_6 q2_6 q3_6 q4_6 q5_6 q6_6; have OA6 := hN6.rebase (b' := w.heap.size + 3) (fun i hi => Nat.le_trans hW5 (hN6.ge hi)); have ts6 := (t6.set 1 (.slice sa sn sc)); have xs6 := (x6.other ⟨w.heap.size, 1, none⟩ (.slice sa sn sc) (by simp only; omega)); have rs6 := (r6.other ⟨w.heap.size, 1, none⟩ (.slice sa sn sc) (by simp only; omega)); have ys6 := (y6.other ⟨w.heap.size, 1, none⟩ (.slice sa sn sc) (by simp only; omega)); have ORs6 := (OR6.oth (w.heap.size) 1 (.slice sa sn sc) (by omega)); have OAs6 := (OA6.oth (w.heap.size) 1 (.slice sa sn sc) (by omega)); have hTs6 := (Below.setCell (p := ⟨w.heap.size, 1, none⟩) hT6 (by simp only; omega) (.slice sa sn sc)); have HRs6 := ORs6.slc brEnc_len; have ct0_s6 := ts6.at 0 rfl; have ct1_s6 := ts6.at 1 rfl; have cx0_s6 := xs6.at 0 rfl; have cx1_s6 := xs6.at 1 rfl; have cx2_s6 := xs6.at 2 rfl; have cr0_s6 := rs6.at 0 rfl; have cr1_s6 := rs6.at 1 rfl; have cy0_s6 := ys6.at 0 rfl; have cy1_s6 := ys6.at 1 rfl; have cy2_s6 := ys6.at 2 rfl; have zt0_s6 := ts6.frozen 0; have zt1_s6 := ts6.frozen 1; have zr0_s6 := rs6.frozen 0; have zr1_s6 := rs6.frozen 1; obtain ⟨q0_s6, q1_s6, q2_s6, q3_s6, q4_s6, q5_s6, q6_s6⟩ := br_cells HRs6 hk; simp only [Nat.zero_add] at q0_s6 q1_s6 q2_s6 q3_s6 q4_s6 q5_s6 q6_s6))
    have rr := (rs6.set 0 (.slice (some ⟨g, 0, none⟩) R.length yc)).set 1 (.slice sa sn sc)
    have k0 := rr.at 0 rfl; have k1 := rr.at 1 rfl
    refine bodyPost_ret (by simp [results, Try.results14, go_sem, k0, k1]; rfl) rfl ?_
    rw [hD.out]
    refine ⟨_, _, rfl, ?_, ?_, Below.setCell (p := ⟨w.heap.size + 1 + 1, 1, none⟩) (Below.setCell (p := ⟨w.heap.size + 1 + 1, 0, none⟩) hTs6 (by simp only; omega) _) (by simp only; omega) _⟩
    · exact ((ORs6.oth _ _ _ (by omega)).oth _ _ _ (by omega)).rebase (fun i hi => by have h1 := ORs6.ge hi; omega)
    · exact ((OAs6.oth _ _ _ (by omega)).oth _ _ _ (by omega)).rebase (fun i hi => by have h1 := OAs6.ge hi; omega)
theorem dstart_any (w : World) (rv av : Value) (R : List Brn) (A : List Asc) (x : Xid) (se : Int) (ja rb : Bool) (hR : Slc brEnc 7 w rv R) (hA : Slc ascEnc 5 w av A) (hLR : R.length ≤ 1000000) (hLA : A.length ≤ 1000000) (htm : ∀ b ∈ R, 0 ≤ b.tm) :
    Calls Try.prog 14 #[.agg #[rv, av], .int .u64 se, .agg #[.int .u32 x.1, .string x.2.1, .string x.2.2], .bool ja, .bool rb] w (TabPost w (overB (mayB R A (okS se ja rb) x) (startD R A se x ja rb))) := by
  by_cases hm : mayB R A (okS se ja rb) x = 0
  rotate_left 1
  · exact dstart_no w rv av R A x se ja rb hR hA hLR hLA htm hm
  have hok := (mayB_zero hm).2.1
  have hse : se ≠ 0 := by intro e; rw [e] at hok; simp [okS] at hok
  have hm2 := hm
  rw [hok] at hm2
  rw [hm]
  cases ja <;> cases rb
  · exact dstart_ff w rv av R A x se hR hA hLR hLA htm hse hm2
  · exact dstart_ft w rv av R A x se hR hA hLR hLA htm hse hm2
  · exact dstart_tf w rv av R A x se hR hA hLR hLA htm hse hm2
  · simp [okS] at hok
end Go.Proofs.Ytcelpincmpjhkaa
