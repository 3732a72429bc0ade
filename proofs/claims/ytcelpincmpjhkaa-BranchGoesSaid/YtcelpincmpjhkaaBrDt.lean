/- Chapter 19, the document's side: Leave. Conditions: rows and associations read; no timeout is negative; at most a million of each. Written by gen_brDt.py. -/
import Derived.Test.YtcelpincmpjhkaaBrDr
import Derived.Test.YtcelpincmpjhkaaBrDs
import Derived.Test.YtcelpincmpjhkaaHG
import Derived.Test.YtcelpincmpjhkaaGB
import Derived.Test.YtcelpincmpjhkaaGR
namespace Go.Proofs.Ytcelpincmpjhkaa
set_option linter.unusedSimpArgs false
set_option linter.unusedVariables false
open Go.RowKit
theorem rleave2 (w : World) (v : Value) (L : List Asc) (s : Int) (hs : Slc ascEnc 5 w v L) (hL : L.length ≤ 1000000) (hm : mayN L s (0, ⟨#[120]⟩, ⟨#[]⟩) = 0) :
    Calls Try.prog 97 #[v, .int .u64 s] w fun e w' => ∃ r, e = .returned (.tuple #[r, .int .i64 0]) ∧ Own w.heap.size 57 5 ascEnc w' r (outA L s) ∧ Below w.heap.size w w' := by
  have := rleave_any w v L s hs hL
  rw [hm] at this
  exact this
theorem own_at7t {base : Nat} {e : TypeId} {w : World} {a : Option Addr} {n c : Nat} {R : List Brn} (h : Own base e 7 brEnc w (.slice a n c) R) {k : Nat} (hk : k < R.length) : ∃ g, a = some ⟨g, 0, none⟩ ∧ base ≤ g := by
  rcases h.cases with ⟨_, h2⟩ | ⟨g, cap, h1, h2, _⟩
  · rw [h2] at hk; simp at hk
  · simp only [Value.slice.injEq] at h1; exact ⟨g, h1.1, h2⟩
theorem dspoilt2t (w : World) (b : Brn) (y : Int) (hy : (b.spoil 1).why = y) :
    Calls Try.prog 71 #[.agg #[.int .u32 b.x.1, .string b.x.2.1, .string b.x.2.2, .int .u8 b.st, .int .u8 b.why, .int .u32 b.tm, .int .u32 b.lf]] w fun e w' => e = .returned (.agg #[.int .u32 b.x.1, .string b.x.2.1, .string b.x.2.2, .int .u8 b.st, .int .u8 y, .int .u32 b.tm, .int .u32 0]) ∧ Below w.heap.size w w' := by
  rw [← hy]; exact dspoilt_any w b


set_option maxRecDepth 100000 in
set_option maxHeartbeats 6400000 in
theorem dleave_any (w : World) (rv av : Value) (R : List Brn) (A : List Asc) (se : Int) (hR : Slc brEnc 7 w rv R) (hA : Slc ascEnc 5 w av A) (hLR : R.length ≤ 1000000) (hLA : A.length ≤ 1000000) (htm : ∀ b ∈ R, 0 ≤ b.tm) :
    Calls Try.prog 44 #[.agg #[rv, av], .int .u64 se] w (TabPost3 w (overB (mayB R A (se != 0) ((0, ⟨#[120]⟩, ⟨#[]⟩) : Xid)) (leaveR R A se, outA A se, 0, 0)) (if mayB R A (se != 0) ((0, ⟨#[120]⟩, ⟨#[]⟩) : Xid) = 0 then leaveT R A se else [])) := by
  obtain ⟨ra, rc, rfl, -⟩ := hR.len
  obtain ⟨aa, ac, rfl, -⟩ := hA.len
  have hT0 : Below w.heap.size w ((w.alloc (.cells #[.slice ra R.length rc, .slice aa A.length ac] 25)).alloc (.cells #[.slice none 0 0, .slice none 0 0] 25)) := (((Below.refl w.heap.size w).alloc (Nat.le_refl _) _).alloc (by simp) _)
  have hW0 : w.heap.size + 2 ≤ ((w.alloc (.cells #[.slice ra R.length rc, .slice aa A.length ac] 25)).alloc (.cells #[.slice none 0 0, .slice none 0 0] 25)).heap.size := by simp
  have t0 : Blk ((w.alloc (.cells #[.slice ra R.length rc, .slice aa A.length ac] 25)).alloc (.cells #[.slice none 0 0, .slice none 0 0] 25)) (w.heap.size) [.slice ra R.length rc, .slice aa A.length ac] := ((Blk.newAt2 w [.slice ra R.length rc, .slice aa A.length ac] 25 (w.heap.size) (by simp)).alloc (.cells #[.slice none 0 0, .slice none 0 0] 25))
  have r0 : Blk ((w.alloc (.cells #[.slice ra R.length rc, .slice aa A.length ac] 25)).alloc (.cells #[.slice none 0 0, .slice none 0 0] 25)) (w.heap.size + 1) [.slice none 0 0, .slice none 0 0] := (Blk.newAt2 (w.alloc (.cells #[.slice ra R.length rc, .slice aa A.length ac] 25)) [.slice none 0 0, .slice none 0 0] 25 (w.heap.size + 1) (by simp))
  have ct0_0 := t0.at 0 rfl
  have ct1_0 := t0.at 1 rfl
  have cr0_0 := r0.at 0 rfl
  have cr1_0 := r0.at 1 rfl
  have zt0_0 := t0.frozen 0
  have zt1_0 := t0.frozen 1
  have zr0_0 := r0.frozen 0
  have zr1_0 := r0.frozen 1
  have HR0 := hR.pure hT0; have HA0 := hA.pure hT0
  by_cases hm0 : mayB R A (se != 0) ((0, ⟨#[120]⟩, ⟨#[]⟩) : Xid) = 0
  rotate_left 1
  · obtain ⟨m, hm⟩ : ∃ m, mayB R A (se != 0) ((0, ⟨#[120]⟩, ⟨#[]⟩) : Xid) = m := ⟨_, rfl⟩
    have hmay : Hid (mayB R A (!(se == 0)) ((0, ⟨#[120]⟩, ⟨#[]⟩) : Xid) = m) := Lib.hid hm
    have hmb : (m != 0) = true := bne_iff_ne.2 (by rw [← hm]; exact hm0)
    have hD : Hid (overB (mayB R A (se != 0) ((0, ⟨#[120]⟩, ⟨#[]⟩) : Xid)) (leaveR R A se, outA A se, 0, 0) = errR m) := Lib.hid (by unfold overB; rw [if_neg hm0, hm])
    rw [hD.out, if_neg hm0]
    clear hm hm0 hD
    go_enter Try.func44, Try.ntmps44
    go_wp2_with (first | (go_at_call 56; refine (dmay_any _ _ _ R A (se == 0) ((0, ⟨#[120]⟩, ⟨#[]⟩) : Xid) m HR0 HA0 hLR hLA htm hmay.out).mono ?_; rintro e w1 ⟨rfl, hB1⟩; have t1 := t0.pure hB1; have r1 := r0.pure hB1; have HR1 := HR0.pure hB1; have HA1 := HA0.pure hB1; have hT1 := hT0.trans (hB1.mono hT0.size); have hW1 := Nat.le_trans hW0 hB1.size; clear ct0_0 ct1_0 cr0_0 cr1_0 zt0_0 zt1_0 zr0_0 zr1_0; have ct0_1 := t1.at 0 rfl; have ct1_1 := t1.at 1 rfl; have cr0_1 := r1.at 0 rfl; have cr1_1 := r1.at 1 rfl; have zt0_1 := t1.frozen 0; have zt1_1 := t1.frozen 1; have zr0_1 := r1.frozen 0; have zr1_1 := r1.frozen 1))
    have rr := (r1.set 0 (.slice none 0 0)).set 1 (.slice none 0 0)
    have k0 := rr.at 0 rfl; have k1 := rr.at 1 rfl
    refine bodyPost_ret (by simp [results, Try.results44, go_sem, k0, k1]; rfl) rfl ?_
    refine ⟨_, _, _, rfl, ?_, ?_, ?_, Below.setCell (p := ⟨w.heap.size + 1, 1, none⟩) (Below.setCell (p := ⟨w.heap.size + 1, 0, none⟩) hT1 (by simp only; omega) _) (by simp only; omega) _⟩
    · exact Own.nil
    · exact Own.nil
    · exact Own.nil
  have hmay : Hid (mayB R A (!(se == 0)) ((0, ⟨#[120]⟩, ⟨#[]⟩) : Xid) = 0) := Lib.hid hm0
  have hD : Hid (overB (mayB R A (se != 0) ((0, ⟨#[120]⟩, ⟨#[]⟩) : Xid)) (leaveR R A se, outA A se, 0, 0) = (leaveR R A se, outA A se, 0, 0)) := Lib.hid (by rw [hm0]; rfl)
  rw [hD.out, if_pos hm0]
  obtain ⟨hTab, hse, -⟩ := mayB_zero hm0
  have hmn := Lib.hid (mayz_yes (x := ((0, ⟨#[120]⟩, ⟨#[]⟩) : Xid)) hTab.2.1 (bne_iff_ne.1 hse) xid_hx)
  have hTb := Lib.hid hTab
  have hris := Lib.hid hTab.1.2
  have hCL : (outA A se).length ≤ 1000000 := Nat.le_trans (outA_len A se) hLA
  clear hm0 hD hTab hse
  go_enter Try.func44, Try.ntmps44
  go_wp2_with (first | (go_at_call 56; refine (dmay_any _ _ _ R A (se == 0) ((0, ⟨#[120]⟩, ⟨#[]⟩) : Xid) 0 HR0 HA0 hLR hLA htm hmay.out).mono ?_; rintro e w1 ⟨rfl, hB1⟩; have t1 := t0.pure hB1; have r1 := r0.pure hB1; have HR1 := HR0.pure hB1; have HA1 := HA0.pure hB1; have hT1 := hT0.trans (hB1.mono hT0.size); have hW1 := Nat.le_trans hW0 hB1.size; clear ct0_0 ct1_0 cr0_0 cr1_0 zt0_0 zt1_0 zr0_0 zr1_0; have ct0_1 := t1.at 0 rfl; have ct1_1 := t1.at 1 rfl) | (go_at_call 12; (with_reducible refine (dcopy_any _ _ _ R A HR1 HA1 hLR hLA).mono ?_); rintro e w2 ⟨rr2, aa2, rfl, hO2, hP2, hB2⟩; obtain ⟨ya, yc, rfl⟩ := own_len hO2; obtain ⟨ua, uc, rfl⟩ := own_len hP2; have OR2 := hO2.rebase (b' := w.heap.size + 2) (fun i hi => Nat.le_trans hW1 (hO2.ge hi)); have OA2 := hP2.rebase (b' := w.heap.size + 2) (fun i hi => Nat.le_trans hW1 (hP2.ge hi)); have t2 := t1.pure hB2; have r2 := r1.pure hB2; have HR2 := HR1.pure hB2; have HA2 := HA1.pure hB2; have hT2 := hT1.trans (hB2.mono hT1.size); have hW2 := Nat.le_trans hW1 hB2.size; clear ct0_1 ct1_1; have ct0_2 := t2.at 0 rfl; have ct1_2 := t2.at 1 rfl; have hBb2 := (Below.refl w2.heap.size w2).alloc (Nat.le_refl _) (.cells #[.slice ya R.length yc, .slice ua A.length uc] 25); have ob2 := Blk.new w2 [.slice ya R.length yc, .slice ua A.length uc] 25; have tb2 := t2.pure hBb2; have rb2 := r2.pure hBb2; have HRb2 := HR2.pure hBb2; have HAb2 := HA2.pure hBb2; have ORb2 := OR2.pure hBb2; have OAb2 := OA2.pure hBb2; have hTb2 := hT2.trans (hBb2.mono hT2.size); have hWb2 := Nat.le_trans hW2 hBb2.size; have ct0_b2 := tb2.at 0 rfl; have ct1_b2 := tb2.at 1 rfl; have co0_b2 := ob2.at 0 rfl; have co1_b2 := ob2.at 1 rfl; have hotb2 := ob2.lt) | (go_at_call 97; (with_reducible refine (rleave2 _ _ A se HAb2 hLA hmn.out).mono ?_); rintro e w3 ⟨r18, rfl, hM3, hB3⟩; obtain ⟨la, ln, lc, rfl⟩ := hM3.shape3; have t3 := tb2.pure hB3; have r3 := rb2.pure hB3; have o3 := ob2.pure hB3; have HR3 := HRb2.pure hB3; have HA3 := HAb2.pure hB3; have OR3 := ORb2.pure hB3; have OA3 := OAb2.pure hB3; have hT3 := hTb2.trans (hB3.mono hTb2.size); have hW3 := Nat.le_trans hWb2 hB3.size; clear ct0_2 ct1_2 ct0_b2 ct1_b2 co0_b2 co1_b2; have ct0_3 := t3.at 0 rfl; have ct1_3 := t3.at 1 rfl; have cr0_3 := r3.at 0 rfl; have cr1_3 := r3.at 1 rfl; have co0_3 := o3.at 0 rfl; have co1_3 := o3.at 1 rfl; have zt0_3 := t3.frozen 0; have zt1_3 := t3.frozen 1; have zr0_3 := r3.frozen 0; have zr1_3 := r3.frozen 1; have fo1 := o3.frozen 1))
  have hz3 := o3.lt
  have hro : ∀ j, Value.ownBlock (.slice ya R.length yc) = some j → j ≠ w2.heap.size := fun j hj => by have h1 := hO2.lt hj; omega
  have s_o := o3.set 1 (.slice la ln lc)
  have s_R := OR3.other ⟨w2.heap.size, 1, none⟩ (.slice la ln lc) (fun j hj => hro j hj)
  have s_A := (hM3.rebase (b' := w2.heap.size + 1) (fun i hi => by have h1 := hM3.ge hi; simp at h1; omega)).low w2.heap.size 1 (.slice la ln lc) (by omega)
  have s_t := t3.other ⟨w2.heap.size, 1, none⟩ (.slice la ln lc) (by simp only; omega)
  have s_r := r3.other ⟨w2.heap.size, 1, none⟩ (.slice la ln lc) (by simp only; omega)
  have s_T := Below.setCell (p := ⟨w2.heap.size, 1, none⟩) hT3 (by simp only; omega) (.slice la ln lc)
  have hzo : w.heap.size + 2 ≤ w2.heap.size := hW2
  obtain ⟨W1, hW1⟩ : ∃ W1, W1 = w3.setCell ⟨w2.heap.size, 1, none⟩ (.slice la ln lc) := ⟨_, rfl⟩
  rw [← hW1] at s_o s_R s_A s_t s_r s_T ⊢
  obtain ⟨ob, hob⟩ : ∃ ob, ob = w2.heap.size := ⟨_, rfl⟩
  rw [← hob] at s_o s_A hro hzo ⊢
  have hro' := Lib.hid hro
  clear hW1 hob hro fo1 ct0_3 ct1_3 cr0_3 cr1_3 co0_3 co1_3 zt0_3 zt1_3 zr0_3 zr1_3
  clear hO2 hP2 hM3 hz3 o3 OR3 OA3 t3 r3 HR3 HA3 hT3 hW3
  go_loopw [9, 10] (fun s9 s10 wr => ∃ (k : Nat) (yv : Option Addr) (yn yc : Nat), k ≤ R.length ∧ s10 = .int .i64 k ∧ Own (w.heap.size + 2) 44 7 brEnc wr (.slice yv yn yc) (stepR R (outA A se) (rowsX R A se k)) ∧ (∀ j, Value.ownBlock (.slice yv yn yc) = some j → j ≠ ob) ∧ Own (ob + 1) 57 5 ascEnc wr (.slice la ln lc) (outA A se) ∧ Blk wr ob [.slice yv yn yc, .slice la ln lc] ∧ Blk wr w.heap.size [.slice ra R.length rc, .slice aa A.length ac] ∧ Blk wr (w.heap.size + 1) [.slice none 0 0, .slice none 0 0] ∧ Own (ob + 1) 28 3 xEnc wr s9 (toldX R (rowsX R A se k)) ∧ Below w.heap.size w wr) (fun _ s10 _ => R.length - (intOf s10).toNat)
  case atStart => exact ⟨0, _, _, _, by omega, rfl, by rw [rowsX_zero, stepR_nil]; exact s_R, hro'.out, s_A, s_o, s_t, s_r, by rw [rowsX_zero]; exact Own.nil, s_T⟩
  case round =>
    clear s_o s_R s_A s_t s_r s_T
    obtain ⟨k, yv, yn, yc, hk, rfl, hO, hra, hC, oo, tt, rr, hX, hB⟩ := hrel
    have hra' := Lib.hid hra; clear hra
    obtain ⟨ta, tn, tc, rfl⟩ := hX.shape3
    have ct0 := tt.at 0 rfl; have ct1 := tt.at 1 rfl; have co0 := oo.at 0 rfl; have co1 := oo.at 1 rfl
    by_cases hlt : k < R.length
    · obtain ⟨g0, off0, rfl⟩ := (hR.pure hB).addr hlt
      obtain ⟨q0, q1, q2, q3, q4, q5, q6⟩ := br_cells (hR.pure hB) hlt
      have hk0 : (0 : Int) ≤ (k : Int) := by omega
      have hk1 : (k : Int) < (R.length : Int) := by omega
      have hBb := (Below.refl wr.heap.size wr).alloc (Nat.le_refl _) (.cells #[.int .u32 R[k].x.1, .string R[k].x.2.1, .string R[k].x.2.2, .int .u8 R[k].st, .int .u8 R[k].why, .int .u32 R[k].tm, .int .u32 R[k].lf] 44)
      have bb := Blk.new wr [.int .u32 R[k].x.1, .string R[k].x.2.1, .string R[k].x.2.2, .int .u8 R[k].st, .int .u8 R[k].why, .int .u32 R[k].tm, .int .u32 R[k].lf] 44
      have cb0 := bb.at 0 rfl; have cb1 := bb.at 1 rfl; have cb2 := bb.at 2 rfl; have cb3 := bb.at 3 rfl; have cb4 := bb.at 4 rfl; have cb5 := bb.at 5 rfl; have cb6 := bb.at 6 rfl
      have tb := tt.pure hBb; have ob1 := oo.pure hBb
      have ctb0 := tb.at 0 rfl; have ctb1 := tb.at 1 rfl
      have hBW := hB.trans (hBb.mono hB.size)
      have hgx := Lib.hid (fun (j : Nat) (q : Value.ownBlock (.slice ta tn tc) = some j) => Nat.ne_of_lt (hX.lt q))
      rcases Classical.em (Mem A se R[k].x) with hm | hm
      rotate_left 1
      · have hn := Lib.hid hm
        have hN := Lib.hid (rowsX_no hlt hm)
        clear hm
        go_wp2_with (first | (go_at_call 61; (with_reducible refine (rfind_no _ _ A se R[k].x (hA.pure hBW) hLA hn.out).mono ?_); rintro e w5 ⟨rfl, hB5⟩))
        have hBx := hBb.trans (hB5.mono hBb.size)
        go_roundw
        case rel => exact ⟨k + 1, _, _, _, by omega, by go_num, by rw [hN.out]; exact hO.pure hBx, hra'.out, hC.pure hBx, oo.pure hBx, tt.pure hBx, rr.pure hBx, by rw [hN.out]; exact hX.pure hBx, hB.trans (hBx.mono hB.size)⟩
        case measure => simp [intOf]; omega
      · have hN := Lib.hid (rowsX_yes hlt hm)
        have hTS := Lib.hid (toldX_snoc (xs := rowsX R A se k) hris.out (List.getElem_mem hlt))
        obtain ⟨j, hj, hje⟩ := hm
        have hje' := Lib.hid hje
        have hA1r := Lib.hid hTb.out.2.1.rises
        have hj0 : decide ((j : Int) < 0) = false := decide_eq_false (by omega)
        clear hje
        go_upto_region 12 with (first | (go_at_call 61; (with_reducible refine (rfind_yes _ _ A se R[k].x j (hA.pure hBW) hA1r.out hLA hj hje'.out).mono ?_); rintro e w5 ⟨rfl, hB5⟩))
        have hBx := hBb.trans (hB5.mono hBb.size)
        have O5 := hO.pure hBx; have C5 := hC.pure hBx; have oo5 := oo.pure hBx; have tt5 := tt.pure hBx; have rr5 := rr.pure hBx; have X5 := hX.pure hBx; have bb5 := bb.pure hB5; have T5 := hB.trans (hBx.mono hB.size)
        have hgbo := oo.lt
        have hob5 := oo5.lt
        obtain ⟨gb, hgb⟩ : ∃ gb, gb = wr.heap.size := ⟨_, rfl⟩
        rw [← hgb] at bb5 hgbo ⊢
        have hgy := Lib.hid (fun q : Value.ownBlock (.slice ta tn tc) = some gb => hgx.out gb q hgb)
        have hgg := Lib.hid (fun (j : Nat) (q : Value.ownBlock (.slice yv yn yc) = some j) => by have h1 := hO.lt q; rw [← hgb] at h1; exact Nat.ne_of_lt h1)
        clear hgb hBx hB5 hBW hBb bb tb ob1 ctb0 ctb1 cb0 cb1 cb2 cb3 cb4 cb5 cb6 ct0 ct1 co0 co1 q0 q1 q2 q3 q4 q5 q6 hO hC oo tt rr hX hB
        have hLS : (stepR R (outA A se) (rowsX R A se k)).length ≤ 1000000 := Nat.le_trans (stepR_len _ _ _) hLR
        have hll : (toldX R (rowsX R A se k)).length ≤ k := Nat.le_trans (toldX_len _ _) (rowsX_len R A se k)
        obtain ⟨c, hc0⟩ : ∃ c, cntA (outA A se) R[k].x = c := ⟨_, rfl⟩
        have hc := Lib.hid hc0
        clear hc0
        have cb50 := bb5.at 0 rfl
        have cb51 := bb5.at 1 rfl
        have cb52 := bb5.at 2 rfl
        have cb53 := bb5.at 3 rfl
        have cb54 := bb5.at 4 rfl
        have cb55 := bb5.at 5 rfl
        have cb56 := bb5.at 6 rfl
        by_cases hw : R[k].why = 0
        · have hwb : (R[k].why == 0) = true := by rw [hw]; rfl
          have hT2 := Lib.hid (show toldX R (rowsX R A se (k + 1)) = toldX R (rowsX R A se k) ++ [R[k].x] by rw [hN.out, hTS.out, if_pos hw])
          clear hw
          go_upto_region 14 with (first | (at_builtin; refine wpList_app1 (base := ob + 1) rfl (.tmp 53) (.tmp 56) 52 28 rfl elem_xid xEnc_len xEnc_one (.slice ta tn tc) _ rfl (X5.alloc _) w5.heap.size 1 R[k].x rfl (fun j u hu => ((Blk.newAt2 _ (xEnc R[k].x) 28 w5.heap.size rfl).cell j).trans hu) (by omega) (by unfold maxLen; omega) (by simp; omega) ?_; intro g' cap' w6 hown hgr hfr; have hUg := Upd.grown (S := fun j => Value.ownBlock (.slice ta tn tc) = some j) hgr (fun j e => e); have O6 := (O5.alloc (.cells #[.int .u32 R[k].x.1, .string R[k].x.2.1, .string R[k].x.2.2] 28)).upd hUg (fun j hj e => own_far O5 X5 (by decide) hj e); have C6 := (C5.alloc (.cells #[.int .u32 R[k].x.1, .string R[k].x.2.1, .string R[k].x.2.2] 28)).upd hUg (fun j hj e => own_far C5 X5 (by decide) hj e); have oo6 := (oo5.alloc (.cells #[.int .u32 R[k].x.1, .string R[k].x.2.1, .string R[k].x.2.2] 28)).upd hUg (fun e => by have h1 := X5.ge e; omega); have tt6 := (tt5.alloc (.cells #[.int .u32 R[k].x.1, .string R[k].x.2.1, .string R[k].x.2.2] 28)).upd hUg (fun e => by have h1 := X5.ge e; omega); have rr6 := (rr5.alloc (.cells #[.int .u32 R[k].x.1, .string R[k].x.2.1, .string R[k].x.2.2] 28)).upd hUg (fun e => by have h1 := X5.ge e; omega); have bb6 := (bb5.alloc (.cells #[.int .u32 R[k].x.1, .string R[k].x.2.1, .string R[k].x.2.2] 28)).upd hUg (fun e => hgy.out e); have T6 := (T5.alloc T5.size (.cells #[.int .u32 R[k].x.1, .string R[k].x.2.1, .string R[k].x.2.2] 28)).grown hgr (by simp; have := T5.size; omega) (fun j e => Nat.le_trans (by omega) (X5.ge e)); have X6 := hown; rw [← hT2.out] at X6))
          have co60 := oo6.at 0 rfl
          have co61 := oo6.at 1 rfl
          have cb60 := bb6.at 0 rfl
          have cb61 := bb6.at 1 rfl
          have cb62 := bb6.at 2 rfl
          have cb63 := bb6.at 3 rfl
          have cb64 := bb6.at 4 rfl
          have cb65 := bb6.at 5 rfl
          have cb66 := bb6.at 6 rfl
          clear O5 C5 oo5 tt5 rr5 bb5 X5 T5 cb50 cb51 cb52 cb53 cb54 cb55 cb56
          by_cases hcc : c = 0
          · have hcz : (c == 0) = true := by rw [hcc]; rfl
            have hgone := Lib.hid (step_gone0 (xs := rowsX R A se k) hris.out (List.getElem_mem hlt) (rowsX_fresh (A := A) (s := se) hris.out hlt) (hc.out.trans hcc))
            clear hcc
            go_wp2_with (first | (go_at_call 84; (with_reducible refine (rcount2 _ _ (outA A se) R[k].x c (C6.slc ascEnc_len) hCL hc.out).mono ?_); rintro e w7 ⟨rfl, hB7⟩; have O7 := O6.pure hB7; have C7 := C6.pure hB7; have oo7 := oo6.pure hB7; have tt7 := tt6.pure hB7; have rr7 := rr6.pure hB7; have bb7 := bb6.pure hB7; have X7 := X6.pure hB7; have T7 := T6.trans (hB7.mono T6.size); have co70 := oo7.at 0 rfl; have co71 := oo7.at 1 rfl; have cb70 := bb7.at 0 rfl; have cb71 := bb7.at 1 rfl; have cb72 := bb7.at 2 rfl; have cb73 := bb7.at 3 rfl; have cb74 := bb7.at 4 rfl; have cb75 := bb7.at 5 rfl; have cb76 := bb7.at 6 rfl; have fo70 := oo7.frozen 0; have fo71 := oo7.frozen 1) | (go_at_call 85; (with_reducible refine (dwithout_any _ _ _ (stepR R (outA A se) (rowsX R A se k)) (outA A se) R[k].x (O7.slc brEnc_len) (C7.slc ascEnc_len) hLS).mono ?_); rintro e w8 ⟨ww8, rfl, hQ8, hB8⟩; obtain ⟨va, vc, rfl⟩ := own_len hQ8; have C8 := C7.pure hB8; have oo8 := oo7.pure hB8; have tt8 := tt7.pure hB8; have rr8 := rr7.pure hB8; have X8 := X7.pure hB8; have T8 := T7.trans (hB8.mono T7.size); have fo80 := oo8.frozen 0; have fo81 := oo8.frozen 1; have go8 := oo7.lt; have co80 := oo8.at 0 rfl; have co81 := oo8.at 1 rfl))
            go_roundw
            case rel => exact ⟨k + 1, _, _, _, by omega, by go_num, by rw [hN.out, ← hgone.out]; exact ((hQ8.low ob 0 (.slice va (withoutB (stepR R (outA A se) (rowsX R A se k)) R[k].x).length vc) go8).low ob 1 (.slice la ln lc) go8).rebase (fun i hi => by have h1 := hQ8.ge hi; omega), fun j hj => by have h1 := hQ8.ge hj; omega, (C8.low ob 0 (.slice va (withoutB (stepR R (outA A se) (rowsX R A se k)) R[k].x).length vc) (by omega)).low ob 1 (.slice la ln lc) (by omega), (oo8.set 0 (.slice va (withoutB (stepR R (outA A se) (rowsX R A se k)) R[k].x).length vc)).set 1 (.slice la ln lc), (tt8.other ⟨ob, 0, none⟩ (.slice va (withoutB (stepR R (outA A se) (rowsX R A se k)) R[k].x).length vc) (by simp only; omega)).other ⟨ob, 1, none⟩ (.slice la ln lc) (by simp only; omega), (rr8.other ⟨ob, 0, none⟩ (.slice va (withoutB (stepR R (outA A se) (rowsX R A se k)) R[k].x).length vc) (by simp only; omega)).other ⟨ob, 1, none⟩ (.slice la ln lc) (by simp only; omega), (X8.low ob 0 (.slice va (withoutB (stepR R (outA A se) (rowsX R A se k)) R[k].x).length vc) (by omega)).low ob 1 (.slice la ln lc) (by omega), Below.setCell (p := ⟨ob, 1, none⟩) (Below.setCell (p := ⟨ob, 0, none⟩) T8 (by simp only; omega) (.slice va (withoutB (stepR R (outA A se) (rowsX R A se k)) R[k].x).length vc)) (by simp only; omega) (.slice la ln lc)⟩
            case measure => simp [intOf]; omega
          · have hcz : (c == 0) = false := beq_eq_false_iff_ne.2 hcc
            obtain ⟨p, hp, hpe⟩ := stepR_at (C := outA A se) (List.getElem_mem hlt) (rowsX_fresh (A := A) (s := se) hris.out hlt)
            have hstay := Lib.hid (step_stay hris.out (List.getElem_mem hlt) (rowsX_fresh hris.out hlt) (fun e => hcc (hc.out.symm.trans e)) hp hpe)
            have hpe' := Lib.hid hpe
            obtain ⟨y, hy0⟩ : ∃ y, (R[k].spoil 1).why = y := ⟨_, rfl⟩
            have hspy := Lib.hid hy0
            have hp0 : (0 : Int) ≤ (p : Int) := by omega
            obtain ⟨yv2, yc2, hye⟩ := own_len O6
            injection hye with e1 e2 e3
            subst e1; subst e2; subst e3
            have hp1 : (p : Int) < ((stepR R (outA A se) (rowsX R A se k)).length : Int) := by omega
            obtain ⟨g, rfl, hg⟩ := own_at7t O6 hp
            have hgo : g ≠ ob := fun e => hra'.out g rfl e
            have hgb : g ≠ gb := hgg.out g rfl
            clear hcc hpe hy0
            go_upto_region 16 with (first | (go_at_call 84; (with_reducible refine (rcount2 _ _ (outA A se) R[k].x c (C6.slc ascEnc_len) hCL hc.out).mono ?_); rintro e w7 ⟨rfl, hB7⟩; have O7 := O6.pure hB7; have C7 := C6.pure hB7; have oo7 := oo6.pure hB7; have tt7 := tt6.pure hB7; have rr7 := rr6.pure hB7; have bb7 := bb6.pure hB7; have X7 := X6.pure hB7; have T7 := T6.trans (hB7.mono T6.size); have co70 := oo7.at 0 rfl; have co71 := oo7.at 1 rfl; have cb70 := bb7.at 0 rfl; have cb71 := bb7.at 1 rfl; have cb72 := bb7.at 2 rfl; have cb73 := bb7.at 3 rfl; have cb74 := bb7.at 4 rfl; have cb75 := bb7.at 5 rfl; have cb76 := bb7.at 6 rfl; have fo70 := oo7.frozen 0; have fo71 := oo7.frozen 1))
            refine wp_region_held_drew (S := (fun w' => w'.cell? ⟨ob, 0, none⟩ = some (.slice (some ⟨g, 0, none⟩) (stepR R (outA A se) (rowsX R A se k)).length yc) ∧ w'.cell? ⟨ob, 1, none⟩ = some (.slice la ln lc) ∧ w'.cell? ⟨gb, 0, none⟩ = some (.int .u32 R[k].x.1) ∧ w'.cell? ⟨gb, 1, none⟩ = some (.string R[k].x.2.1) ∧ w'.cell? ⟨gb, 2, none⟩ = some (.string R[k].x.2.2) ∧ w'.cell? ⟨gb, 3, none⟩ = some (.int .u8 R[k].st) ∧ w'.cell? ⟨gb, 4, none⟩ = some (.int .u8 R[k].why) ∧ w'.cell? ⟨gb, 5, none⟩ = some (.int .u32 R[k].tm) ∧ w'.cell? ⟨gb, 6, none⟩ = some (.int .u32 R[k].lf))) (by kernel_rfl) ?_ (fun hHeld => ?_)
            · (first | with_reducible exact ⟨cor0, cor1, cbr0, cbr1, cbr2, cbr3, cbr4, cbr5, cbr6⟩ | with_reducible exact ⟨co90, co91, cb90, cb91, cb92, cb93, cb94, cb95, cb96⟩ | with_reducible exact ⟨co80, co81, cb80, cb81, cb82, cb83, cb84, cb85, cb86⟩ | exact ⟨co70, co71, cb70, cb71, cb72, cb73, cb74, cb75, cb76⟩)
            refine takeY 0 68 rfl rfl (v := ?_) ?_ hHeld ?_
            rotate_left 1
            · (intro w hSw; (try dsimp only at hSw); go_simp; (try with_reducible rfl))
            try simp only [Act.put, lsT, lsZ, lsS]
            refine takeY 1 69 rfl rfl (v := ?_) ?_ hHeld ?_
            rotate_left 1
            · (intro w hSw; (try dsimp only at hSw); go_simp; (try with_reducible rfl))
            try simp only [Act.put, lsT, lsZ, lsS]
            refine takeY 2 70 rfl rfl (v := ?_) ?_ hHeld ?_
            rotate_left 1
            · (intro w hSw; (try dsimp only at hSw); go_simp; (try with_reducible rfl))
            try simp only [Act.put, lsT, lsZ, lsS]
            refine takeY 3 71 rfl rfl (v := ?_) ?_ hHeld ?_
            rotate_left 1
            · (intro w hSw; (try dsimp only at hSw); go_simp; (try with_reducible rfl))
            try simp only [Act.put, lsT, lsZ, lsS]
            refine takeY 4 72 rfl rfl (v := ?_) ?_ hHeld ?_
            rotate_left 1
            · (intro w hSw; (try dsimp only at hSw); go_simp; (try with_reducible rfl))
            try simp only [Act.put, lsT, lsZ, lsS]
            refine takeY 6 74 rfl rfl (v := ?_) ?_ hHeld ?_
            rotate_left 1
            · (intro w hSw; (try dsimp only at hSw); go_simp; (try with_reducible rfl))
            try simp only [Act.put, lsT, lsZ, lsS]
            refine wpAnyH_ready (rs := [5]) (by kernel_rfl) (by simp) ?_
            refine AllReadyH.cons rfl (fun K hK => ?_) AllReadyH.nil
            go_simp
            (go_at_call 19; refine (dat_yes _ _ _ (stepR R (outA A se) (rowsX R A se k)) (outA A se) R[k].x p (O7.drew.slc brEnc_len) (C7.drew.slc ascEnc_len) (stepR_rises hris.out _ _) hp (by rw [hpe'.out])).mono ?_; rintro e w8 ⟨rfl, hB8⟩; have O8 := O7.drew.pure hB8; have C8 := C7.drew.pure hB8; have oo8 := oo7.drew.pure hB8; have tt8 := tt7.drew.pure hB8; have rr8 := rr7.drew.pure hB8; have bb8 := bb7.drew.pure hB8; have X8 := X7.drew.pure hB8; have T8 := (below_dr T7).trans (hB8.mono T7.size); have co80 := oo8.at 0 rfl; have co81 := oo8.at 1 rfl; have cb80 := bb8.at 0 rfl; have cb81 := bb8.at 1 rfl; have cb82 := bb8.at 2 rfl; have cb83 := bb8.at 3 rfl; have cb84 := bb8.at 4 rfl; have cb85 := bb8.at 5 rfl; have cb86 := bb8.at 6 rfl)
            refine hK.out _ _ ?_ (fun hHeld => ?_)
            · (first | with_reducible exact ⟨cor0, cor1, cbr0, cbr1, cbr2, cbr3, cbr4, cbr5, cbr6⟩ | with_reducible exact ⟨co90, co91, cb90, cb91, cb92, cb93, cb94, cb95, cb96⟩ | with_reducible exact ⟨co80, co81, cb80, cb81, cb82, cb83, cb84, cb85, cb86⟩ | exact ⟨co70, co71, cb70, cb71, cb72, cb73, cb74, cb75, cb76⟩)
            clear hK K
            try simp only [Act.put, lsT, lsZ, lsS]
            refine wpAnyH_ready (rs := [7]) (by kernel_rfl) (by simp) ?_
            refine AllReadyH.cons rfl (fun K hK => ?_) AllReadyH.nil
            go_simp
            (go_at_call 71; refine (dspoilt2t _ R[k] y hspy.out).mono ?_; rintro e w9 ⟨rfl, hB9⟩; have O9 := O8.pure hB9; have C9 := C8.pure hB9; have oo9 := oo8.pure hB9; have tt9 := tt8.pure hB9; have rr9 := rr8.pure hB9; have bb9 := bb8.pure hB9; have X9 := X8.pure hB9; have T9 := T8.trans (hB9.mono T8.size); have co90 := oo9.at 0 rfl; have co91 := oo9.at 1 rfl; have cb90 := bb9.at 0 rfl; have cb91 := bb9.at 1 rfl; have cb92 := bb9.at 2 rfl; have cb93 := bb9.at 3 rfl; have cb94 := bb9.at 4 rfl; have cb95 := bb9.at 5 rfl; have cb96 := bb9.at 6 rfl; have ym0 := O9.frozen (p * 7); have ym1 := O9.frozen (p * 7 + 1); have ym2 := O9.frozen (p * 7 + 2); have ym3 := O9.frozen (p * 7 + 3); have ym4 := O9.frozen (p * 7 + 4); have ym5 := O9.frozen (p * 7 + 5); have ym6 := O9.frozen (p * 7 + 6); obtain ⟨yc0, yc1, yc2, yc3, yc4, yc5, yc6⟩ := br_cells (O9.slc brEnc_len) hp; simp only [Nat.zero_add] at yc0 yc1 yc2 yc3 yc4 yc5 yc6; have oor := (((((((oo9.other ⟨g, p * 7, none⟩ (.int .u32 R[k].x.1) (by simp only; omega)).other ⟨g, p * 7 + 1, none⟩ (.string R[k].x.2.1) (by simp only; omega)).other ⟨g, p * 7 + 2, none⟩ (.string R[k].x.2.2) (by simp only; omega)).other ⟨g, p * 7 + 3, none⟩ (.int .u8 R[k].st) (by simp only; omega)).other ⟨g, p * 7 + 4, none⟩ (.int .u8 y) (by simp only; omega)).other ⟨g, p * 7 + 5, none⟩ (.int .u32 R[k].tm) (by simp only; omega)).other ⟨g, p * 7 + 6, none⟩ (.int .u32 0) (by simp only; omega)); have ttr := (((((((tt9.other ⟨g, p * 7, none⟩ (.int .u32 R[k].x.1) (by simp only; omega)).other ⟨g, p * 7 + 1, none⟩ (.string R[k].x.2.1) (by simp only; omega)).other ⟨g, p * 7 + 2, none⟩ (.string R[k].x.2.2) (by simp only; omega)).other ⟨g, p * 7 + 3, none⟩ (.int .u8 R[k].st) (by simp only; omega)).other ⟨g, p * 7 + 4, none⟩ (.int .u8 y) (by simp only; omega)).other ⟨g, p * 7 + 5, none⟩ (.int .u32 R[k].tm) (by simp only; omega)).other ⟨g, p * 7 + 6, none⟩ (.int .u32 0) (by simp only; omega)); have rrr := (((((((rr9.other ⟨g, p * 7, none⟩ (.int .u32 R[k].x.1) (by simp only; omega)).other ⟨g, p * 7 + 1, none⟩ (.string R[k].x.2.1) (by simp only; omega)).other ⟨g, p * 7 + 2, none⟩ (.string R[k].x.2.2) (by simp only; omega)).other ⟨g, p * 7 + 3, none⟩ (.int .u8 R[k].st) (by simp only; omega)).other ⟨g, p * 7 + 4, none⟩ (.int .u8 y) (by simp only; omega)).other ⟨g, p * 7 + 5, none⟩ (.int .u32 R[k].tm) (by simp only; omega)).other ⟨g, p * 7 + 6, none⟩ (.int .u32 0) (by simp only; omega)); have bbr := (((((((bb9.other ⟨g, p * 7, none⟩ (.int .u32 R[k].x.1) (by simp only; omega)).other ⟨g, p * 7 + 1, none⟩ (.string R[k].x.2.1) (by simp only; omega)).other ⟨g, p * 7 + 2, none⟩ (.string R[k].x.2.2) (by simp only; omega)).other ⟨g, p * 7 + 3, none⟩ (.int .u8 R[k].st) (by simp only; omega)).other ⟨g, p * 7 + 4, none⟩ (.int .u8 y) (by simp only; omega)).other ⟨g, p * 7 + 5, none⟩ (.int .u32 R[k].tm) (by simp only; omega)).other ⟨g, p * 7 + 6, none⟩ (.int .u32 0) (by simp only; omega)); have Or := O9.row7 brEnc_len p hp (R[k].spoil 1) (.int .u32 R[k].x.1) (.string R[k].x.2.1) (.string R[k].x.2.2) (.int .u8 R[k].st) (.int .u8 y) (.int .u32 R[k].tm) (.int .u32 0) (by unfold brEnc; rw [hspy.out]; rfl); have qC : ∀ i, Value.ownBlock (.slice la ln lc) = some i → i ≠ g := fun i hi e => own_far O9 C9 (by decide) rfl (by rw [hi, e]); have qX : ∀ i, (Value.slice (some ⟨g', 0, none⟩) ((toldX R (rowsX R A se k)).length + 1) cap').ownBlock = some i → i ≠ g := fun i hi e => own_far O9 X9 (by decide) rfl (by rw [hi, e]); have Cr := (((((((C9.other ⟨g, p * 7, none⟩ (.int .u32 R[k].x.1) (fun i hi e => qC i hi e)).other ⟨g, p * 7 + 1, none⟩ (.string R[k].x.2.1) (fun i hi e => qC i hi e)).other ⟨g, p * 7 + 2, none⟩ (.string R[k].x.2.2) (fun i hi e => qC i hi e)).other ⟨g, p * 7 + 3, none⟩ (.int .u8 R[k].st) (fun i hi e => qC i hi e)).other ⟨g, p * 7 + 4, none⟩ (.int .u8 y) (fun i hi e => qC i hi e)).other ⟨g, p * 7 + 5, none⟩ (.int .u32 R[k].tm) (fun i hi e => qC i hi e)).other ⟨g, p * 7 + 6, none⟩ (.int .u32 0) (fun i hi e => qC i hi e)); have Xr := (((((((X9.other ⟨g, p * 7, none⟩ (.int .u32 R[k].x.1) (fun i hi e => qX i hi e)).other ⟨g, p * 7 + 1, none⟩ (.string R[k].x.2.1) (fun i hi e => qX i hi e)).other ⟨g, p * 7 + 2, none⟩ (.string R[k].x.2.2) (fun i hi e => qX i hi e)).other ⟨g, p * 7 + 3, none⟩ (.int .u8 R[k].st) (fun i hi e => qX i hi e)).other ⟨g, p * 7 + 4, none⟩ (.int .u8 y) (fun i hi e => qX i hi e)).other ⟨g, p * 7 + 5, none⟩ (.int .u32 R[k].tm) (fun i hi e => qX i hi e)).other ⟨g, p * 7 + 6, none⟩ (.int .u32 0) (fun i hi e => qX i hi e)); have Tr := (Below.setCell (p := ⟨g, p * 7 + 6, none⟩) (Below.setCell (p := ⟨g, p * 7 + 5, none⟩) (Below.setCell (p := ⟨g, p * 7 + 4, none⟩) (Below.setCell (p := ⟨g, p * 7 + 3, none⟩) (Below.setCell (p := ⟨g, p * 7 + 2, none⟩) (Below.setCell (p := ⟨g, p * 7 + 1, none⟩) (Below.setCell (p := ⟨g, p * 7, none⟩) T9 (by simp only; omega) (.int .u32 R[k].x.1)) (by simp only; omega) (.string R[k].x.2.1)) (by simp only; omega) (.string R[k].x.2.2)) (by simp only; omega) (.int .u8 R[k].st)) (by simp only; omega) (.int .u8 y)) (by simp only; omega) (.int .u32 R[k].tm)) (by simp only; omega) (.int .u32 0)); have cor0 := oor.at 0 rfl; have cor1 := oor.at 1 rfl; have cbr0 := bbr.at 0 rfl; have cbr1 := bbr.at 1 rfl; have cbr2 := bbr.at 2 rfl; have cbr3 := bbr.at 3 rfl; have cbr4 := bbr.at 4 rfl; have cbr5 := bbr.at 5 rfl; have cbr6 := bbr.at 6 rfl)
            refine hK.out _ _ ?_ (fun hHeld => ?_)
            · (first | with_reducible exact ⟨cor0, cor1, cbr0, cbr1, cbr2, cbr3, cbr4, cbr5, cbr6⟩ | with_reducible exact ⟨co90, co91, cb90, cb91, cb92, cb93, cb94, cb95, cb96⟩ | with_reducible exact ⟨co80, co81, cb80, cb81, cb82, cb83, cb84, cb85, cb86⟩ | exact ⟨co70, co71, cb70, cb71, cb72, cb73, cb74, cb75, cb76⟩)
            clear hK K
            try simp only [Act.put, lsT, lsZ, lsS]
            refine wpAnyH_ready (rs := [8]) (by kernel_rfl) (by simp) ?_
            refine AllReadyH.cons rfl (fun K hK => ?_) AllReadyH.nil
            go_simp
            skip
            refine hK.out _ _ ?_ (fun hHeld => ?_)
            · (first | with_reducible exact ⟨cor0, cor1, cbr0, cbr1, cbr2, cbr3, cbr4, cbr5, cbr6⟩ | with_reducible exact ⟨co90, co91, cb90, cb91, cb92, cb93, cb94, cb95, cb96⟩ | with_reducible exact ⟨co80, co81, cb80, cb81, cb82, cb83, cb84, cb85, cb86⟩ | exact ⟨co70, co71, cb70, cb71, cb72, cb73, cb74, cb75, cb76⟩)
            clear hK K
            try simp only [Act.put, lsT, lsZ, lsS]
            refine wpAnyH_ready (rs := [9]) (by kernel_rfl) (by simp) ?_
            refine AllReadyH.cons rfl (fun K hK => ?_) AllReadyH.nil
            go_simp
            skip
            refine hK.out _ _ ?_ (fun hHeld => ?_)
            · (first | with_reducible exact ⟨cor0, cor1, cbr0, cbr1, cbr2, cbr3, cbr4, cbr5, cbr6⟩ | with_reducible exact ⟨co90, co91, cb90, cb91, cb92, cb93, cb94, cb95, cb96⟩ | with_reducible exact ⟨co80, co81, cb80, cb81, cb82, cb83, cb84, cb85, cb86⟩ | exact ⟨co70, co71, cb70, cb71, cb72, cb73, cb74, cb75, cb76⟩)
            clear hK K
            try simp only [Act.put, lsT, lsZ, lsS]
            refine wpAnyH_done (by kernel_rfl) ?_ _
            go_wp2
            go_roundw
            case rel => exact ⟨k + 1, _, _, _, by omega, by go_num, by rw [hN.out, ← hstay.out]; exact Or, hra'.out, Cr, oor, ttr, rrr, Xr, Tr⟩
            case measure => simp [intOf]; omega
        · have hwb : (R[k].why == 0) = false := beq_eq_false_iff_ne.2 hw
          have hT2 := Lib.hid (show toldX R (rowsX R A se (k + 1)) = toldX R (rowsX R A se k) by rw [hN.out, hTS.out, if_neg hw, List.append_nil])
          clear hw
          go_upto_region 14 with fail
          have O6 := O5; have C6 := C5; have oo6 := oo5; have tt6 := tt5; have rr6 := rr5; have bb6 := bb5; have T6 := T5; have X6 := X5; rw [← hT2.out] at X6
          have co60 := oo6.at 0 rfl
          have co61 := oo6.at 1 rfl
          have cb60 := bb6.at 0 rfl
          have cb61 := bb6.at 1 rfl
          have cb62 := bb6.at 2 rfl
          have cb63 := bb6.at 3 rfl
          have cb64 := bb6.at 4 rfl
          have cb65 := bb6.at 5 rfl
          have cb66 := bb6.at 6 rfl
          clear O5 C5 oo5 tt5 rr5 bb5 X5 T5 cb50 cb51 cb52 cb53 cb54 cb55 cb56
          by_cases hcc : c = 0
          · have hcz : (c == 0) = true := by rw [hcc]; rfl
            have hgone := Lib.hid (step_gone0 (xs := rowsX R A se k) hris.out (List.getElem_mem hlt) (rowsX_fresh (A := A) (s := se) hris.out hlt) (hc.out.trans hcc))
            clear hcc
            go_wp2_with (first | (go_at_call 84; (with_reducible refine (rcount2 _ _ (outA A se) R[k].x c (C6.slc ascEnc_len) hCL hc.out).mono ?_); rintro e w7 ⟨rfl, hB7⟩; have O7 := O6.pure hB7; have C7 := C6.pure hB7; have oo7 := oo6.pure hB7; have tt7 := tt6.pure hB7; have rr7 := rr6.pure hB7; have bb7 := bb6.pure hB7; have X7 := X6.pure hB7; have T7 := T6.trans (hB7.mono T6.size); have co70 := oo7.at 0 rfl; have co71 := oo7.at 1 rfl; have cb70 := bb7.at 0 rfl; have cb71 := bb7.at 1 rfl; have cb72 := bb7.at 2 rfl; have cb73 := bb7.at 3 rfl; have cb74 := bb7.at 4 rfl; have cb75 := bb7.at 5 rfl; have cb76 := bb7.at 6 rfl; have fo70 := oo7.frozen 0; have fo71 := oo7.frozen 1) | (go_at_call 85; (with_reducible refine (dwithout_any _ _ _ (stepR R (outA A se) (rowsX R A se k)) (outA A se) R[k].x (O7.slc brEnc_len) (C7.slc ascEnc_len) hLS).mono ?_); rintro e w8 ⟨ww8, rfl, hQ8, hB8⟩; obtain ⟨va, vc, rfl⟩ := own_len hQ8; have C8 := C7.pure hB8; have oo8 := oo7.pure hB8; have tt8 := tt7.pure hB8; have rr8 := rr7.pure hB8; have X8 := X7.pure hB8; have T8 := T7.trans (hB8.mono T7.size); have fo80 := oo8.frozen 0; have fo81 := oo8.frozen 1; have go8 := oo7.lt; have co80 := oo8.at 0 rfl; have co81 := oo8.at 1 rfl))
            go_roundw
            case rel => exact ⟨k + 1, _, _, _, by omega, by go_num, by rw [hN.out, ← hgone.out]; exact ((hQ8.low ob 0 (.slice va (withoutB (stepR R (outA A se) (rowsX R A se k)) R[k].x).length vc) go8).low ob 1 (.slice la ln lc) go8).rebase (fun i hi => by have h1 := hQ8.ge hi; omega), fun j hj => by have h1 := hQ8.ge hj; omega, (C8.low ob 0 (.slice va (withoutB (stepR R (outA A se) (rowsX R A se k)) R[k].x).length vc) (by omega)).low ob 1 (.slice la ln lc) (by omega), (oo8.set 0 (.slice va (withoutB (stepR R (outA A se) (rowsX R A se k)) R[k].x).length vc)).set 1 (.slice la ln lc), (tt8.other ⟨ob, 0, none⟩ (.slice va (withoutB (stepR R (outA A se) (rowsX R A se k)) R[k].x).length vc) (by simp only; omega)).other ⟨ob, 1, none⟩ (.slice la ln lc) (by simp only; omega), (rr8.other ⟨ob, 0, none⟩ (.slice va (withoutB (stepR R (outA A se) (rowsX R A se k)) R[k].x).length vc) (by simp only; omega)).other ⟨ob, 1, none⟩ (.slice la ln lc) (by simp only; omega), (X8.low ob 0 (.slice va (withoutB (stepR R (outA A se) (rowsX R A se k)) R[k].x).length vc) (by omega)).low ob 1 (.slice la ln lc) (by omega), Below.setCell (p := ⟨ob, 1, none⟩) (Below.setCell (p := ⟨ob, 0, none⟩) T8 (by simp only; omega) (.slice va (withoutB (stepR R (outA A se) (rowsX R A se k)) R[k].x).length vc)) (by simp only; omega) (.slice la ln lc)⟩
            case measure => simp [intOf]; omega
          · have hcz : (c == 0) = false := beq_eq_false_iff_ne.2 hcc
            obtain ⟨p, hp, hpe⟩ := stepR_at (C := outA A se) (List.getElem_mem hlt) (rowsX_fresh (A := A) (s := se) hris.out hlt)
            have hstay := Lib.hid (step_stay hris.out (List.getElem_mem hlt) (rowsX_fresh hris.out hlt) (fun e => hcc (hc.out.symm.trans e)) hp hpe)
            have hpe' := Lib.hid hpe
            obtain ⟨y, hy0⟩ : ∃ y, (R[k].spoil 1).why = y := ⟨_, rfl⟩
            have hspy := Lib.hid hy0
            have hp0 : (0 : Int) ≤ (p : Int) := by omega
            obtain ⟨yv2, yc2, hye⟩ := own_len O6
            injection hye with e1 e2 e3
            subst e1; subst e2; subst e3
            have hp1 : (p : Int) < ((stepR R (outA A se) (rowsX R A se k)).length : Int) := by omega
            obtain ⟨g, rfl, hg⟩ := own_at7t O6 hp
            have hgo : g ≠ ob := fun e => hra'.out g rfl e
            have hgb : g ≠ gb := hgg.out g rfl
            clear hcc hpe hy0
            go_upto_region 16 with (first | (go_at_call 84; (with_reducible refine (rcount2 _ _ (outA A se) R[k].x c (C6.slc ascEnc_len) hCL hc.out).mono ?_); rintro e w7 ⟨rfl, hB7⟩; have O7 := O6.pure hB7; have C7 := C6.pure hB7; have oo7 := oo6.pure hB7; have tt7 := tt6.pure hB7; have rr7 := rr6.pure hB7; have bb7 := bb6.pure hB7; have X7 := X6.pure hB7; have T7 := T6.trans (hB7.mono T6.size); have co70 := oo7.at 0 rfl; have co71 := oo7.at 1 rfl; have cb70 := bb7.at 0 rfl; have cb71 := bb7.at 1 rfl; have cb72 := bb7.at 2 rfl; have cb73 := bb7.at 3 rfl; have cb74 := bb7.at 4 rfl; have cb75 := bb7.at 5 rfl; have cb76 := bb7.at 6 rfl; have fo70 := oo7.frozen 0; have fo71 := oo7.frozen 1))
            refine wp_region_held_drew (S := (fun w' => w'.cell? ⟨ob, 0, none⟩ = some (.slice (some ⟨g, 0, none⟩) (stepR R (outA A se) (rowsX R A se k)).length yc) ∧ w'.cell? ⟨ob, 1, none⟩ = some (.slice la ln lc) ∧ w'.cell? ⟨gb, 0, none⟩ = some (.int .u32 R[k].x.1) ∧ w'.cell? ⟨gb, 1, none⟩ = some (.string R[k].x.2.1) ∧ w'.cell? ⟨gb, 2, none⟩ = some (.string R[k].x.2.2) ∧ w'.cell? ⟨gb, 3, none⟩ = some (.int .u8 R[k].st) ∧ w'.cell? ⟨gb, 4, none⟩ = some (.int .u8 R[k].why) ∧ w'.cell? ⟨gb, 5, none⟩ = some (.int .u32 R[k].tm) ∧ w'.cell? ⟨gb, 6, none⟩ = some (.int .u32 R[k].lf))) (by kernel_rfl) ?_ (fun hHeld => ?_)
            · (first | with_reducible exact ⟨cor0, cor1, cbr0, cbr1, cbr2, cbr3, cbr4, cbr5, cbr6⟩ | with_reducible exact ⟨co90, co91, cb90, cb91, cb92, cb93, cb94, cb95, cb96⟩ | with_reducible exact ⟨co80, co81, cb80, cb81, cb82, cb83, cb84, cb85, cb86⟩ | exact ⟨co70, co71, cb70, cb71, cb72, cb73, cb74, cb75, cb76⟩)
            refine takeY 0 68 rfl rfl (v := ?_) ?_ hHeld ?_
            rotate_left 1
            · (intro w hSw; (try dsimp only at hSw); go_simp; (try with_reducible rfl))
            try simp only [Act.put, lsT, lsZ, lsS]
            refine takeY 1 69 rfl rfl (v := ?_) ?_ hHeld ?_
            rotate_left 1
            · (intro w hSw; (try dsimp only at hSw); go_simp; (try with_reducible rfl))
            try simp only [Act.put, lsT, lsZ, lsS]
            refine takeY 2 70 rfl rfl (v := ?_) ?_ hHeld ?_
            rotate_left 1
            · (intro w hSw; (try dsimp only at hSw); go_simp; (try with_reducible rfl))
            try simp only [Act.put, lsT, lsZ, lsS]
            refine takeY 3 71 rfl rfl (v := ?_) ?_ hHeld ?_
            rotate_left 1
            · (intro w hSw; (try dsimp only at hSw); go_simp; (try with_reducible rfl))
            try simp only [Act.put, lsT, lsZ, lsS]
            refine takeY 4 72 rfl rfl (v := ?_) ?_ hHeld ?_
            rotate_left 1
            · (intro w hSw; (try dsimp only at hSw); go_simp; (try with_reducible rfl))
            try simp only [Act.put, lsT, lsZ, lsS]
            refine takeY 6 74 rfl rfl (v := ?_) ?_ hHeld ?_
            rotate_left 1
            · (intro w hSw; (try dsimp only at hSw); go_simp; (try with_reducible rfl))
            try simp only [Act.put, lsT, lsZ, lsS]
            refine wpAnyH_ready (rs := [5]) (by kernel_rfl) (by simp) ?_
            refine AllReadyH.cons rfl (fun K hK => ?_) AllReadyH.nil
            go_simp
            (go_at_call 19; refine (dat_yes _ _ _ (stepR R (outA A se) (rowsX R A se k)) (outA A se) R[k].x p (O7.drew.slc brEnc_len) (C7.drew.slc ascEnc_len) (stepR_rises hris.out _ _) hp (by rw [hpe'.out])).mono ?_; rintro e w8 ⟨rfl, hB8⟩; have O8 := O7.drew.pure hB8; have C8 := C7.drew.pure hB8; have oo8 := oo7.drew.pure hB8; have tt8 := tt7.drew.pure hB8; have rr8 := rr7.drew.pure hB8; have bb8 := bb7.drew.pure hB8; have X8 := X7.drew.pure hB8; have T8 := (below_dr T7).trans (hB8.mono T7.size); have co80 := oo8.at 0 rfl; have co81 := oo8.at 1 rfl; have cb80 := bb8.at 0 rfl; have cb81 := bb8.at 1 rfl; have cb82 := bb8.at 2 rfl; have cb83 := bb8.at 3 rfl; have cb84 := bb8.at 4 rfl; have cb85 := bb8.at 5 rfl; have cb86 := bb8.at 6 rfl)
            refine hK.out _ _ ?_ (fun hHeld => ?_)
            · (first | with_reducible exact ⟨cor0, cor1, cbr0, cbr1, cbr2, cbr3, cbr4, cbr5, cbr6⟩ | with_reducible exact ⟨co90, co91, cb90, cb91, cb92, cb93, cb94, cb95, cb96⟩ | with_reducible exact ⟨co80, co81, cb80, cb81, cb82, cb83, cb84, cb85, cb86⟩ | exact ⟨co70, co71, cb70, cb71, cb72, cb73, cb74, cb75, cb76⟩)
            clear hK K
            try simp only [Act.put, lsT, lsZ, lsS]
            refine wpAnyH_ready (rs := [7]) (by kernel_rfl) (by simp) ?_
            refine AllReadyH.cons rfl (fun K hK => ?_) AllReadyH.nil
            go_simp
            (go_at_call 71; refine (dspoilt2t _ R[k] y hspy.out).mono ?_; rintro e w9 ⟨rfl, hB9⟩; have O9 := O8.pure hB9; have C9 := C8.pure hB9; have oo9 := oo8.pure hB9; have tt9 := tt8.pure hB9; have rr9 := rr8.pure hB9; have bb9 := bb8.pure hB9; have X9 := X8.pure hB9; have T9 := T8.trans (hB9.mono T8.size); have co90 := oo9.at 0 rfl; have co91 := oo9.at 1 rfl; have cb90 := bb9.at 0 rfl; have cb91 := bb9.at 1 rfl; have cb92 := bb9.at 2 rfl; have cb93 := bb9.at 3 rfl; have cb94 := bb9.at 4 rfl; have cb95 := bb9.at 5 rfl; have cb96 := bb9.at 6 rfl; have ym0 := O9.frozen (p * 7); have ym1 := O9.frozen (p * 7 + 1); have ym2 := O9.frozen (p * 7 + 2); have ym3 := O9.frozen (p * 7 + 3); have ym4 := O9.frozen (p * 7 + 4); have ym5 := O9.frozen (p * 7 + 5); have ym6 := O9.frozen (p * 7 + 6); obtain ⟨yc0, yc1, yc2, yc3, yc4, yc5, yc6⟩ := br_cells (O9.slc brEnc_len) hp; simp only [Nat.zero_add] at yc0 yc1 yc2 yc3 yc4 yc5 yc6; have oor := (((((((oo9.other ⟨g, p * 7, none⟩ (.int .u32 R[k].x.1) (by simp only; omega)).other ⟨g, p * 7 + 1, none⟩ (.string R[k].x.2.1) (by simp only; omega)).other ⟨g, p * 7 + 2, none⟩ (.string R[k].x.2.2) (by simp only; omega)).other ⟨g, p * 7 + 3, none⟩ (.int .u8 R[k].st) (by simp only; omega)).other ⟨g, p * 7 + 4, none⟩ (.int .u8 y) (by simp only; omega)).other ⟨g, p * 7 + 5, none⟩ (.int .u32 R[k].tm) (by simp only; omega)).other ⟨g, p * 7 + 6, none⟩ (.int .u32 0) (by simp only; omega)); have ttr := (((((((tt9.other ⟨g, p * 7, none⟩ (.int .u32 R[k].x.1) (by simp only; omega)).other ⟨g, p * 7 + 1, none⟩ (.string R[k].x.2.1) (by simp only; omega)).other ⟨g, p * 7 + 2, none⟩ (.string R[k].x.2.2) (by simp only; omega)).other ⟨g, p * 7 + 3, none⟩ (.int .u8 R[k].st) (by simp only; omega)).other ⟨g, p * 7 + 4, none⟩ (.int .u8 y) (by simp only; omega)).other ⟨g, p * 7 + 5, none⟩ (.int .u32 R[k].tm) (by simp only; omega)).other ⟨g, p * 7 + 6, none⟩ (.int .u32 0) (by simp only; omega)); have rrr := (((((((rr9.other ⟨g, p * 7, none⟩ (.int .u32 R[k].x.1) (by simp only; omega)).other ⟨g, p * 7 + 1, none⟩ (.string R[k].x.2.1) (by simp only; omega)).other ⟨g, p * 7 + 2, none⟩ (.string R[k].x.2.2) (by simp only; omega)).other ⟨g, p * 7 + 3, none⟩ (.int .u8 R[k].st) (by simp only; omega)).other ⟨g, p * 7 + 4, none⟩ (.int .u8 y) (by simp only; omega)).other ⟨g, p * 7 + 5, none⟩ (.int .u32 R[k].tm) (by simp only; omega)).other ⟨g, p * 7 + 6, none⟩ (.int .u32 0) (by simp only; omega)); have bbr := (((((((bb9.other ⟨g, p * 7, none⟩ (.int .u32 R[k].x.1) (by simp only; omega)).other ⟨g, p * 7 + 1, none⟩ (.string R[k].x.2.1) (by simp only; omega)).other ⟨g, p * 7 + 2, none⟩ (.string R[k].x.2.2) (by simp only; omega)).other ⟨g, p * 7 + 3, none⟩ (.int .u8 R[k].st) (by simp only; omega)).other ⟨g, p * 7 + 4, none⟩ (.int .u8 y) (by simp only; omega)).other ⟨g, p * 7 + 5, none⟩ (.int .u32 R[k].tm) (by simp only; omega)).other ⟨g, p * 7 + 6, none⟩ (.int .u32 0) (by simp only; omega)); have Or := O9.row7 brEnc_len p hp (R[k].spoil 1) (.int .u32 R[k].x.1) (.string R[k].x.2.1) (.string R[k].x.2.2) (.int .u8 R[k].st) (.int .u8 y) (.int .u32 R[k].tm) (.int .u32 0) (by unfold brEnc; rw [hspy.out]; rfl); have qC : ∀ i, Value.ownBlock (.slice la ln lc) = some i → i ≠ g := fun i hi e => own_far O9 C9 (by decide) rfl (by rw [hi, e]); have qX : ∀ i, (Value.slice ta tn tc).ownBlock = some i → i ≠ g := fun i hi e => own_far O9 X9 (by decide) rfl (by rw [hi, e]); have Cr := (((((((C9.other ⟨g, p * 7, none⟩ (.int .u32 R[k].x.1) (fun i hi e => qC i hi e)).other ⟨g, p * 7 + 1, none⟩ (.string R[k].x.2.1) (fun i hi e => qC i hi e)).other ⟨g, p * 7 + 2, none⟩ (.string R[k].x.2.2) (fun i hi e => qC i hi e)).other ⟨g, p * 7 + 3, none⟩ (.int .u8 R[k].st) (fun i hi e => qC i hi e)).other ⟨g, p * 7 + 4, none⟩ (.int .u8 y) (fun i hi e => qC i hi e)).other ⟨g, p * 7 + 5, none⟩ (.int .u32 R[k].tm) (fun i hi e => qC i hi e)).other ⟨g, p * 7 + 6, none⟩ (.int .u32 0) (fun i hi e => qC i hi e)); have Xr := (((((((X9.other ⟨g, p * 7, none⟩ (.int .u32 R[k].x.1) (fun i hi e => qX i hi e)).other ⟨g, p * 7 + 1, none⟩ (.string R[k].x.2.1) (fun i hi e => qX i hi e)).other ⟨g, p * 7 + 2, none⟩ (.string R[k].x.2.2) (fun i hi e => qX i hi e)).other ⟨g, p * 7 + 3, none⟩ (.int .u8 R[k].st) (fun i hi e => qX i hi e)).other ⟨g, p * 7 + 4, none⟩ (.int .u8 y) (fun i hi e => qX i hi e)).other ⟨g, p * 7 + 5, none⟩ (.int .u32 R[k].tm) (fun i hi e => qX i hi e)).other ⟨g, p * 7 + 6, none⟩ (.int .u32 0) (fun i hi e => qX i hi e)); have Tr := (Below.setCell (p := ⟨g, p * 7 + 6, none⟩) (Below.setCell (p := ⟨g, p * 7 + 5, none⟩) (Below.setCell (p := ⟨g, p * 7 + 4, none⟩) (Below.setCell (p := ⟨g, p * 7 + 3, none⟩) (Below.setCell (p := ⟨g, p * 7 + 2, none⟩) (Below.setCell (p := ⟨g, p * 7 + 1, none⟩) (Below.setCell (p := ⟨g, p * 7, none⟩) T9 (by simp only; omega) (.int .u32 R[k].x.1)) (by simp only; omega) (.string R[k].x.2.1)) (by simp only; omega) (.string R[k].x.2.2)) (by simp only; omega) (.int .u8 R[k].st)) (by simp only; omega) (.int .u8 y)) (by simp only; omega) (.int .u32 R[k].tm)) (by simp only; omega) (.int .u32 0)); have cor0 := oor.at 0 rfl; have cor1 := oor.at 1 rfl; have cbr0 := bbr.at 0 rfl; have cbr1 := bbr.at 1 rfl; have cbr2 := bbr.at 2 rfl; have cbr3 := bbr.at 3 rfl; have cbr4 := bbr.at 4 rfl; have cbr5 := bbr.at 5 rfl; have cbr6 := bbr.at 6 rfl)
            refine hK.out _ _ ?_ (fun hHeld => ?_)
            · (first | with_reducible exact ⟨cor0, cor1, cbr0, cbr1, cbr2, cbr3, cbr4, cbr5, cbr6⟩ | with_reducible exact ⟨co90, co91, cb90, cb91, cb92, cb93, cb94, cb95, cb96⟩ | with_reducible exact ⟨co80, co81, cb80, cb81, cb82, cb83, cb84, cb85, cb86⟩ | exact ⟨co70, co71, cb70, cb71, cb72, cb73, cb74, cb75, cb76⟩)
            clear hK K
            try simp only [Act.put, lsT, lsZ, lsS]
            refine wpAnyH_ready (rs := [8]) (by kernel_rfl) (by simp) ?_
            refine AllReadyH.cons rfl (fun K hK => ?_) AllReadyH.nil
            go_simp
            skip
            refine hK.out _ _ ?_ (fun hHeld => ?_)
            · (first | with_reducible exact ⟨cor0, cor1, cbr0, cbr1, cbr2, cbr3, cbr4, cbr5, cbr6⟩ | with_reducible exact ⟨co90, co91, cb90, cb91, cb92, cb93, cb94, cb95, cb96⟩ | with_reducible exact ⟨co80, co81, cb80, cb81, cb82, cb83, cb84, cb85, cb86⟩ | exact ⟨co70, co71, cb70, cb71, cb72, cb73, cb74, cb75, cb76⟩)
            clear hK K
            try simp only [Act.put, lsT, lsZ, lsS]
            refine wpAnyH_ready (rs := [9]) (by kernel_rfl) (by simp) ?_
            refine AllReadyH.cons rfl (fun K hK => ?_) AllReadyH.nil
            go_simp
            skip
            refine hK.out _ _ ?_ (fun hHeld => ?_)
            · (first | with_reducible exact ⟨cor0, cor1, cbr0, cbr1, cbr2, cbr3, cbr4, cbr5, cbr6⟩ | with_reducible exact ⟨co90, co91, cb90, cb91, cb92, cb93, cb94, cb95, cb96⟩ | with_reducible exact ⟨co80, co81, cb80, cb81, cb82, cb83, cb84, cb85, cb86⟩ | exact ⟨co70, co71, cb70, cb71, cb72, cb73, cb74, cb75, cb76⟩)
            clear hK K
            try simp only [Act.put, lsT, lsZ, lsS]
            refine wpAnyH_done (by kernel_rfl) ?_ _
            go_wp2
            go_roundw
            case rel => exact ⟨k + 1, _, _, _, by omega, by go_num, by rw [hN.out, ← hstay.out]; exact Or, hra'.out, Cr, oor, ttr, rrr, Xr, Tr⟩
            case measure => simp [intOf]; omega
    · obtain rfl : k = R.length := by omega
      rw [(rowsX_end hTb.out se).1] at hO
      rw [(rowsX_end hTb.out se).2] at hX
      have rx := rr; have hTx := hB; have hWx := hB.size
      have fr0 := rr.frozen 0; have fr1 := rr.frozen 1; have er0 := rr.at 0 rfl; have er1 := rr.at 1 rfl
      go_wp2
      have rr := (rx.set 0 (.slice yv yn yc)).set 1 (.slice la ln lc)
      have k0 := rr.at 0 rfl; have k1 := rr.at 1 rfl
      refine bodyPost_ret (by simp [results, Try.results44, go_sem, k0, k1]; rfl) rfl ?_
      refine ⟨_, _, _, rfl, ?_, ?_, ?_, Below.setCell (p := ⟨w.heap.size + 1, 1, none⟩) (Below.setCell (p := ⟨w.heap.size + 1, 0, none⟩) hTx (by simp only; omega) _) (by simp only; omega) _⟩
      · exact ((hO.oth _ _ _ (by omega)).oth _ _ _ (by omega)).rebase (fun i hi => by have h1 := hO.ge hi; omega)
      · exact ((hC.oth _ _ _ (by omega)).oth _ _ _ (by omega)).rebase (fun i hi => by have h1 := hC.ge hi; omega)
      · exact ((hX.oth _ _ _ (by omega)).oth _ _ _ (by omega)).rebase (fun i hi => by have h1 := hX.ge hi; omega)
end Go.Proofs.Ytcelpincmpjhkaa
