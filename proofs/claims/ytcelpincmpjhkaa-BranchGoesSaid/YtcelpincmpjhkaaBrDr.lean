/- Chapter 19, the document's side: Tick. Conditions: rows and associations read; no timeout is negative; what is left is in its bounds; at most a million of each. Written by gen_brDr.py. -/
import Derived.Test.YtcelpincmpjhkaaBrDi
import Derived.Test.YtcelpincmpjhkaaHZ
import Derived.Test.YtcelpincmpjhkaaHG
import Derived.Test.YtcelpincmpjhkaaGB
import Derived.Test.YtcelpincmpjhkaaBrTf
namespace Go.Proofs.Ytcelpincmpjhkaa
set_option linter.unusedSimpArgs false
set_option linter.unusedVariables false
open Go.RowKit
theorem xid_hx : XidOk ((0, ⟨#[120]⟩, ⟨#[]⟩) : Xid) := by unfold XidOk; decide
theorem mayB_hx (R : List Brn) (A : List Asc) : mayB R A true ((0, ⟨#[120]⟩, ⟨#[]⟩) : Xid) = tabE R A := by
  rcases tabE_cases R A with ⟨h1, h2⟩ | ⟨h1, h2⟩
  · unfold mayB; rw [h2]; simp [xid_hx]
  · unfold mayB; rw [h2, if_pos (by decide)]


set_option maxRecDepth 100000 in
set_option maxHeartbeats 6400000 in
theorem dtick_any (w : World) (rv av : Value) (R : List Brn) (A : List Asc) (hR : Slc brEnc 7 w rv R) (hA : Slc ascEnc 5 w av A) (hLR : R.length ≤ 1000000) (hLA : A.length ≤ 1000000) (htm : ∀ b ∈ R, 0 ≤ b.tm) (hlf : ∀ b ∈ R, 0 ≤ b.lf ∧ b.lf ≤ 4294967295) :
    Calls Try.prog 42 #[.agg #[rv, av]] w (TabPost3 w (overB (mayB R A true ((0, ⟨#[120]⟩, ⟨#[]⟩) : Xid)) (R.map tickB, A, 0, 0)) (if mayB R A true ((0, ⟨#[120]⟩, ⟨#[]⟩) : Xid) = 0 then tickT R else [])) := by
  obtain ⟨ra, rc, rfl, -⟩ := hR.len
  obtain ⟨aa, ac, rfl, -⟩ := hA.len
  have hT0 : Below w.heap.size w ((w.alloc (.cells #[.slice ra R.length rc, .slice aa A.length ac] 25)).alloc (.cells #[.slice none 0 0, .slice none 0 0] 25)) := (((Below.refl w.heap.size w).alloc (Nat.le_refl _) _).alloc (by simp) _)
  have hW0 : w.heap.size + 2 ≤ ((w.alloc (.cells #[.slice ra R.length rc, .slice aa A.length ac] 25)).alloc (.cells #[.slice none 0 0, .slice none 0 0] 25)).heap.size := by simp
  have t0 : Blk ((w.alloc (.cells #[.slice ra R.length rc, .slice aa A.length ac] 25)).alloc (.cells #[.slice none 0 0, .slice none 0 0] 25)) (w.heap.size) [.slice ra R.length rc, .slice aa A.length ac] := ((Blk.newAt2 w [.slice ra R.length rc, .slice aa A.length ac] 25 (w.heap.size) (by simp)).alloc (.cells #[.slice none 0 0, .slice none 0 0] 25))
  have r0 : Blk ((w.alloc (.cells #[.slice ra R.length rc, .slice aa A.length ac] 25)).alloc (.cells #[.slice none 0 0, .slice none 0 0] 25)) (w.heap.size + 1) [.slice none 0 0, .slice none 0 0] := (Blk.newAt2 (w.alloc (.cells #[.slice ra R.length rc, .slice aa A.length ac] 25)) [.slice none 0 0, .slice none 0 0] 25 (w.heap.size + 1) (by simp))
  have ct0_0 := t0.at 0 rfl
  have ct1_0 := t0.at 1 rfl
  have cr0_0 := r0.at 0 rfl
  have cr1_0 := r0.at 1 rfl
  have zt0_0 := t0.frozen 0
  have zt1_0 := t0.frozen 1
  have zr0_0 := r0.frozen 0
  have zr1_0 := r0.frozen 1
  have HR0 := hR.pure hT0; have HA0 := hA.pure hT0
  rw [mayB_hx]
  rcases tabE_cases R A with ⟨h1, h2⟩ | ⟨h1, h2⟩
  rotate_left 1
  · have htab := Lib.hid h2
    have hL : Hid ((if tabE R A = 0 then tickT R else []) = []) := Lib.hid (by rw [h2, if_neg (by decide)])
    have hD : Hid (overB (tabE R A) (R.map tickB, A, 0, 0) = errR 190) := Lib.hid (by rw [h2]; unfold overB; rw [if_neg (by decide)])
    rw [hD.out, hL.out]
    clear h1 h2 hD hL
    go_enter Try.func42, Try.ntmps42
    go_wp2_with (first | (go_at_call 20; (with_reducible refine (dcheck2 _ _ _ R A 190 HR0 HA0 hLR hLA htm htab.out).mono ?_); rintro e w1 ⟨rfl, hB1⟩; have t1 := t0.pure hB1; have r1 := r0.pure hB1; have HR1 := HR0.pure hB1; have HA1 := HA0.pure hB1; have hT1 := hT0.trans (hB1.mono hT0.size); have hW1 := Nat.le_trans hW0 hB1.size; clear ct0_0 ct1_0 cr0_0 cr1_0 zt0_0 zt1_0 zr0_0 zr1_0; have ct0_1 := t1.at 0 rfl; have ct1_1 := t1.at 1 rfl; have cr0_1 := r1.at 0 rfl; have cr1_1 := r1.at 1 rfl; have zt0_1 := t1.frozen 0; have zt1_1 := t1.frozen 1; have zr0_1 := r1.frozen 0; have zr1_1 := r1.frozen 1))
    have rr := (r1.set 0 (.slice none 0 0)).set 1 (.slice none 0 0)
    have k0 := rr.at 0 rfl; have k1 := rr.at 1 rfl
    refine bodyPost_ret (by simp [results, Try.results42, go_sem, k0, k1]; rfl) rfl ?_
    refine ⟨_, _, _, rfl, ?_, ?_, ?_, Below.setCell (p := ⟨w.heap.size + 1, 1, none⟩) (Below.setCell (p := ⟨w.heap.size + 1, 0, none⟩) hT1 (by simp only; omega) _) (by simp only; omega) _⟩
    · exact Own.nil
    · exact Own.nil
    · exact Own.nil
  have htab := Lib.hid h2
  have hL : Hid ((if tabE R A = 0 then tickT R else []) = tickT R) := Lib.hid (by rw [h2, if_pos rfl])
  have hD : Hid (overB (tabE R A) (R.map tickB, A, 0, 0) = (R.map tickB, A, 0, 0)) := Lib.hid (by rw [h2]; rfl)
  rw [hD.out, hL.out]
  clear h1 h2 hD hL
  go_enter Try.func42, Try.ntmps42
  go_wp2_with (first | (go_at_call 20; (with_reducible refine (dcheck2 _ _ _ R A 0 HR0 HA0 hLR hLA htm htab.out).mono ?_); rintro e w1 ⟨rfl, hB1⟩; have t1 := t0.pure hB1; have r1 := r0.pure hB1; have HR1 := HR0.pure hB1; have HA1 := HA0.pure hB1; have hT1 := hT0.trans (hB1.mono hT0.size); have hW1 := Nat.le_trans hW0 hB1.size; clear ct0_0 ct1_0 cr0_0 cr1_0 zt0_0 zt1_0 zr0_0 zr1_0; have ct0_1 := t1.at 0 rfl; have ct1_1 := t1.at 1 rfl) | (go_at_call 12; (with_reducible refine (dcopy_any _ _ _ R A HR1 HA1 hLR hLA).mono ?_); rintro e w2 ⟨rr2, aa2, rfl, hO2, hP2, hB2⟩; obtain ⟨ya, yc, rfl⟩ := own_len hO2; obtain ⟨ua, uc, rfl⟩ := own_len hP2; have OR2 := hO2.rebase (b' := w.heap.size + 2) (fun i hi => Nat.le_trans hW1 (hO2.ge hi)); have OA2 := hP2.rebase (b' := w.heap.size + 2) (fun i hi => Nat.le_trans hW1 (hP2.ge hi)); have t2 := t1.pure hB2; have r2 := r1.pure hB2; have HR2 := HR1.pure hB2; have HA2 := HA1.pure hB2; have hT2 := hT1.trans (hB2.mono hT1.size); have hW2 := Nat.le_trans hW1 hB2.size; clear ct0_1 ct1_1; have ct0_2 := t2.at 0 rfl; have ct1_2 := t2.at 1 rfl; have cr0_2 := r2.at 0 rfl; have cr1_2 := r2.at 1 rfl; have zt0_2 := t2.frozen 0; have zt1_2 := t2.frozen 1; have zr0_2 := r2.frozen 0; have zr1_2 := r2.frozen 1; have ts2 := ((t2.set 0 (.slice ya R.length yc)).set 1 (.slice ua A.length uc)); have rs2 := ((r2.other ⟨w.heap.size, 0, none⟩ (.slice ya R.length yc) (by simp only; omega)).other ⟨w.heap.size, 1, none⟩ (.slice ua A.length uc) (by simp only; omega)); have ORs2 := ((OR2.oth (w.heap.size) 0 (.slice ya R.length yc) (by omega)).oth (w.heap.size) 1 (.slice ua A.length uc) (by omega)); have OAs2 := ((OA2.oth (w.heap.size) 0 (.slice ya R.length yc) (by omega)).oth (w.heap.size) 1 (.slice ua A.length uc) (by omega)); have hTs2 := (Below.setCell (p := ⟨w.heap.size, 1, none⟩) (Below.setCell (p := ⟨w.heap.size, 0, none⟩) hT2 (by simp only; omega) (.slice ya R.length yc)) (by simp only; omega) (.slice ua A.length uc)); have hWs2 := (Nat.le_trans (Nat.le_trans hW2 (Upd.set (S := fun _ => True) (p := ⟨w.heap.size, 0, none⟩) trivial (.slice ya R.length yc)).size) (Upd.set (S := fun _ => True) (p := ⟨w.heap.size, 1, none⟩) trivial (.slice ua A.length uc)).size); have HRs2 := ORs2.slc brEnc_len; have HAs2 := OAs2.slc ascEnc_len; have ct0_s2 := ts2.at 0 rfl; have ct1_s2 := ts2.at 1 rfl; have cr0_s2 := rs2.at 0 rfl; have cr1_s2 := rs2.at 1 rfl; have zt0_s2 := ts2.frozen 0; have zt1_s2 := ts2.frozen 1; have zr0_s2 := rs2.frozen 0; have zr1_s2 := rs2.frozen 1))
  clear ct0_2 ct1_2 cr0_2 cr1_2 zt0_2 zt1_2 zr0_2 zr1_2 ct0_s2 ct1_s2 cr0_s2 cr1_s2 zt0_s2 zt1_s2 zr0_s2 zr1_s2
  go_loopw [5, 6] (fun s5 s6 wr => ∃ k : Nat, k ≤ R.length ∧ s6 = .int .i64 k ∧ Own (w.heap.size + 2) 44 7 brEnc wr (.slice ya R.length yc) (tickN R k) ∧ Own (w.heap.size + 2) 57 5 ascEnc wr (.slice ua A.length uc) A ∧ Blk wr w.heap.size [.slice ya R.length yc, .slice ua A.length uc] ∧ Blk wr (w.heap.size + 1) [.slice none 0 0, .slice none 0 0] ∧ Own (w.heap.size + 2) 28 3 xEnc wr s5 (tickT (R.take k)) ∧ Below w.heap.size w wr ∧ w.heap.size + 2 ≤ wr.heap.size) (fun _ s6 _ => R.length - (intOf s6).toNat)
  case atStart => exact ⟨0, by omega, rfl, by rw [tickN_zero]; exact ORs2, OAs2, ts2, rs2, Own.nil, hTs2, hWs2⟩
  case round =>
    obtain ⟨k, hk, rfl, hO, hA2, tt, rr, hT, hB, hS⟩ := hrel
    obtain ⟨ta, tn, tc, rfl⟩ := hT.shape3
    have ct0 := tt.at 0 rfl; have ct1 := tt.at 1 rfl
    have hW0 := hB.size
    by_cases hlt : k < R.length
    · have hkN : k < (tickN R k).length := by rw [tickN_len]; exact hlt
      obtain ⟨g, rfl, hg⟩ := own_at' hO hkN
      have y4 := hO.frozen (k * 7 + 4); have y6 := hO.frozen (k * 7 + 6)
      have hbr := br_cells (hO.slc brEnc_len) hkN
      rw [tickN_get hlt hkN] at hbr
      obtain ⟨q0, q1', q2, q3, q4, q5, q6⟩ := hbr
      simp only [Nat.zero_add] at q0 q1' q2 q3 q4 q5 q6
      have hk0 : (0 : Int) ≤ (k : Int) := by omega
      have hk1 : (k : Int) < (R.length : Int) := by omega
      have hlk := hlf R[k] (List.getElem_mem hlt)
      have htl := tickT_le R k
      have hsn := Lib.hid (tickT_snoc hlt)
      by_cases hl : R[k].lf = 0
      · have hlb : decide (0 < R[k].lf) = false := decide_eq_false (by omega)
        have hN := Lib.hid (tickN_same hlt hl)
        have hT2 := Lib.hid (show tickT (R.take (k + 1)) = tickT (R.take k) by rw [hsn.out, hl]; simp)
        clear hl hlk
        go_wp2
        go_roundw
        case rel => exact ⟨k + 1, by omega, by go_num, by rw [hN.out]; exact hO, hA2, tt, rr, by rw [hT2.out]; exact hT, hB, hS⟩
        case measure => simp [intOf]; omega
      · have hlb : decide (0 < R[k].lf) = true := decide_eq_true (by omega)
        have hl0 : 0 ≤ R[k].lf - 1 := by omega
        have hl9 : R[k].lf - 1 ≤ 4294967295 := by omega
        have s1 := hO.set brEnc_len k hkN 6 (.int .u32 (R[k].lf - 1)) { R[k] with lf := R[k].lf - 1 } (by omega) (by rw [tickN_get hlt hkN]; rfl)
        have hA3 := own_off hA2 hO (by decide) (k * 7 + 6) (.int .u32 (R[k].lf - 1))
        have hTa := own_off hT hO (by decide) (k * 7 + 6) (.int .u32 (R[k].lf - 1))
        have t2 := tt.other ⟨g, k * 7 + 6, none⟩ (.int .u32 (R[k].lf - 1)) (by simp only; omega)
        have r2 := rr.other ⟨g, k * 7 + 6, none⟩ (.int .u32 (R[k].lf - 1)) (by simp only; omega)
        have hB2 := Below.setCell (p := ⟨g, k * 7 + 6, none⟩) hB (by simp only; omega) (.int .u32 (R[k].lf - 1))
        have hS2 := Nat.le_trans hS (Upd.set (S := fun _ => True) (p := ⟨g, k * 7 + 6, none⟩) trivial (.int .u32 (R[k].lf - 1))).size
        by_cases hz : R[k].lf - 1 = 0
        rotate_left 1
        · have hzb : (R[k].lf - 1 == 0) = false := beq_eq_false_iff_ne.2 hz
          have hN := Lib.hid (show (tickN R k).set k { R[k] with lf := R[k].lf - 1 } = tickN R (k + 1) by rw [← tickN_succ hlt]; unfold tickB; rw [if_neg hl, if_neg hz])
          have hT2 := Lib.hid (show tickT (R.take (k + 1)) = tickT (R.take k) by rw [hsn.out, if_neg (by simp; omega)]; simp)
          clear hl hz hlk
          go_wp2
          go_roundw
          case rel => exact ⟨k + 1, by omega, by go_num, by rw [← hN.out]; exact s1, hA3, t2, r2, by rw [hT2.out]; exact hTa, hB2, hS2⟩
          case measure => simp [intOf]; omega
        · have hzb : (R[k].lf - 1 == 0) = true := by rw [hz]; rfl
          have hk2 : k < ((tickN R k).set k { R[k] with lf := R[k].lf - 1 }).length := by simpa using hkN
          have s2 := s1.set brEnc_len k hk2 4 (.int .u8 2) { R[k] with lf := R[k].lf - 1, why := 2 } (by omega) (by rw [List.getElem_set_self]; rfl)
          rw [List.set_set] at s2
          have hN := Lib.hid (show (tickN R k).set k { R[k] with lf := R[k].lf - 1, why := 2 } = tickN R (k + 1) by rw [← tickN_succ hlt]; unfold tickB; rw [if_neg hl, if_pos hz])
          have hT2 := Lib.hid (show tickT (R.take (k + 1)) = tickT (R.take k) ++ [R[k].x] by rw [hsn.out, if_pos (by simp; omega)])
          have hA4 := own_off hA3 s1 (by decide) (k * 7 + 4) (.int .u8 2)
          have hTb := own_off hTa s1 (by decide) (k * 7 + 4) (.int .u8 2)
          have t3 := t2.other ⟨g, k * 7 + 4, none⟩ (.int .u8 2) (by simp only; omega)
          have r3 := r2.other ⟨g, k * 7 + 4, none⟩ (.int .u8 2) (by simp only; omega)
          have hB3 := Below.setCell (p := ⟨g, k * 7 + 4, none⟩) hB2 (by simp only; omega) (.int .u8 2)
          have hS3 := Nat.le_trans hS2 (Upd.set (S := fun _ => True) (p := ⟨g, k * 7 + 4, none⟩) trivial (.int .u8 2)).size
          have hbr3 := br_cells (s2.slc brEnc_len) (by simpa using hkN)
          simp only [List.getElem_set_self, Nat.zero_add] at hbr3
          obtain ⟨n0, n1, n2, -⟩ := hbr3
          have ct3 := t3.at 0 rfl; have cu3 := t3.at 1 rfl
          obtain ⟨W, hW⟩ : ∃ W, W = (wr.setCell ⟨g, k * 7 + 6, none⟩ (.int .u32 (R[k].lf - 1))).setCell ⟨g, k * 7 + 4, none⟩ (.int .u8 2) := ⟨_, rfl⟩
          clear hl hz hlk
          go_upto_region 12 with fail
          rw [← hW]
          rw [← hW] at s2 hA4 hTb t3 r3 hB3 hS3 n0 n1 n2 ct3 cu3
          clear hW s1 hA3 hTa t2 r2 hB2 hS2 hO hA2 tt rr hT hB hS ct0 ct1 y4 y6 q0 q1' q2 q3 q4 q5 q6
          go_wp2_with (first | (at_builtin; refine wpList_app1 rfl (.tmp 48) (.tmp 55) 52 28 rfl elem_xid xEnc_len xEnc_one (.slice ta tn tc) _ rfl (hTb.alloc _) W.heap.size 1 R[k].x rfl (fun j u hu => ((Blk.newAt2 _ (xEnc R[k].x) 28 W.heap.size rfl).cell j).trans hu) (by omega) (by unfold maxLen; omega) (by simp; omega) ?_; intro g' cap' w4 hown hgr hfr))
          have hUg := Upd.grown (S := fun j => Value.ownBlock (.slice ta tn tc) = some j) hgr (fun j e => e)
          go_roundw
          case rel => exact ⟨k + 1, by omega, by go_num, by rw [← hN.out]; exact (s2.alloc _).upd hUg (fun j hj e => own_far s2 hTb (by decide) hj e), (hA4.alloc _).upd hUg (fun j hj e => own_far hA4 hTb (by decide) hj e), (t3.alloc _).upd hUg (fun e => by have h1 := hTb.ge e; omega), (r3.alloc _).upd hUg (fun e => by have h1 := hTb.ge e; omega), by rw [hT2.out]; exact hown, (hB3.alloc hB3.size _).grown hgr (by simp; have := hB3.size; omega) (fun j e => Nat.le_trans (by omega) (hTb.ge e)), Nat.le_trans hS3 (Nat.le_trans (by simp) hUg.size)⟩
          case measure => simp [intOf]; omega
    · obtain rfl : k = R.length := by omega
      rw [List.take_length] at hT
      rw [tickN_all] at hO
      have cr0 := rr.frozen 0; have cr1 := rr.frozen 1; have cs0 := rr.at 0 rfl; have cs1 := rr.at 1 rfl
      have rx := rr; have hTx := hB
      go_wp2
      have hWx := hS
      have rr := (rx.set 0 (.slice ya R.length yc)).set 1 (.slice ua A.length uc)
      have k0 := rr.at 0 rfl; have k1 := rr.at 1 rfl
      refine bodyPost_ret (by simp [results, Try.results42, go_sem, k0, k1]; rfl) rfl ?_
      refine ⟨_, _, _, rfl, ?_, ?_, ?_, Below.setCell (p := ⟨w.heap.size + 1, 1, none⟩) (Below.setCell (p := ⟨w.heap.size + 1, 0, none⟩) hTx (by simp only; omega) _) (by simp only; omega) _⟩
      · exact ((hO.oth _ _ _ (by omega)).oth _ _ _ (by omega)).rebase (fun i hi => by have h1 := hO.ge hi; omega)
      · exact ((hA2.oth _ _ _ (by omega)).oth _ _ _ (by omega)).rebase (fun i hi => by have h1 := hA2.ge hi; omega)
      · exact ((hT.oth _ _ _ (by omega)).oth _ _ _ (by omega)).rebase (fun i hi => by have h1 := hT.ge hi; omega)
end Go.Proofs.Ytcelpincmpjhkaa
