/- The closures of Commit, Restore. Conditions: what on hands them. Written by gen_brM.py. -/
import Derived.Test.YtcelpincmpjhkaaBrM
import Derived.Test.YtcelpincmpjhkaaBrH
namespace Go.Proofs.Ytcelpincmpjhkaa
set_option linter.unusedSimpArgs false
set_option linter.unusedVariables false
open Go.RowKit


set_option maxRecDepth 100000 in
set_option maxHeartbeats 3200000 in
theorem commit_do (s : Nat) (w1 : World) (tb : Nat) (rv av : Value) (R : List Brn) (A : List Asc) (xb1 : Nat) (x : Xid) (hx1 : Blk w1 xb1 (xidC x)) (hxs : xb1 < s) (yb : Nat) (one : Bool) (y1 : Blk w1 yb [.bool one]) (hys : yb < s) (hpre : DoPre s w1 tb rv av R A) (hr : RisesB R) (hLR : R.length ≤ 1000000) (hLA : A.length ≤ 1000000) :
    Calls Try.prog 79 #[.pointer (some ⟨tb, 0, none⟩), .pointer (some ⟨xb1, 0, none⟩), .pointer (some ⟨yb, 0, none⟩)] w1 (DoPost s tb (commitD R A x one) (fun _ => False) (fun _ => True) w1) := by
  obtain ⟨hroom, t1, hhigh, hO1, hA1, hrt, hat, hap⟩ := hpre
  have hU1 := Upd.refl (fun k => False ∨ s + 5 ≤ k) w1
  have hr' := Lib.hid hr
  obtain ⟨xf, xg, xb⟩ := x
  have x1 : Blk w1 xb1 [.int .u32 xf, .string xg, .string xb] := hx1
  clear hx1
  have c1t0 := t1.at 0 rfl
  have c1t1 := t1.at 1 rfl
  have c1x0 := x1.at 0 rfl
  have c1x1 := x1.at 1 rfl
  have c1x2 := x1.at 2 rfl
  have c1y := y1.at 0 rfl
  rcases Classical.em (MemB R (xf, xg, xb)) with hm | hm
  rotate_left 1
  · have hn := Lib.hid hm
    have hD : Hid (commitD R A (xf, xg, xb) one = errR 7) := Lib.hid (by unfold commitD; rw [idxB_no hm])
    clear hm hr
    go_enter Try.func79, Try.ntmps79
    go_wp2_with (first | (go_at_call 54; (with_reducible refine (trow_no _ tb rv av R (xf, xg, xb) t1 (hO1.slc brEnc_len) hr'.out hLR hn.out).mono ?_); rintro e w2 ⟨rfl, hB2⟩; have hU2 := hU1.trans (Upd.of_below hB2) (fun _ h _ => h)))
    refine ⟨rfl, ?_⟩
    rw [hD.out]
    exact .inr ⟨7, by decide, rfl, rfl, hU2⟩
  obtain ⟨k, hk, hex0⟩ := hm
  obtain ⟨g, cap, rfl, hg1, hg2⟩ := hO1.shape (fun e => by rw [e] at hk; simp at hk)
  have hrt2 : g ≠ tb := fun e => hrt (by simp [Value.ownBlock, e])
  have hI := Lib.hid (idxB_yes hr hk hex0)
  have hex := Lib.hid hex0
  clear hr hex0
  obtain ⟨y, hy0⟩ : ∃ y, answerD R[k].st = y := ⟨_, rfl⟩
  have hy := Lib.hid hy0
  by_cases h4 : y = 0
  rotate_left 1
  · have hv := Lib.hid (show decide (y ≠ 0) = true from decide_eq_true h4)
    have hD : Hid (commitD R A (xf, xg, xb) one = (R, A, y, 0)) := Lib.hid (by unfold commitD; rw [hI.out]; simp only [List.getD_eq_getElem?_getD, List.getElem?_eq_getElem hk, Option.getD_some]; rw [hy0, if_pos h4])
    clear hy0 h4
    go_enter Try.func79, Try.ntmps79
    go_wp2_with (first | (go_at_call 54; (with_reducible refine (trow_yes _ tb g R.length cap av R (xf, xg, xb) k t1 (hO1.slc brEnc_len) hr'.out hLR hk hex.out).mono ?_); rintro e w2 ⟨rfl, hB2⟩; have t2 := t1.pure hB2; have x2 := x1.pure hB2; have y2 := y1.pure hB2; have hO2 := hO1.pure hB2; have hA2 := hA1.pure hB2; have hU2 := hU1.trans (Upd.of_below hB2) (fun _ h _ => h); have c2t0 := t2.at 0 rfl; have c2t1 := t2.at 1 rfl; have c2x0 := x2.at 0 rfl; have c2x1 := x2.at 1 rfl; have c2x2 := x2.at 2 rfl; have c2y := y2.at 0 rfl; obtain ⟨r20, r21, r22, r23, r24, r25, r26⟩ := br_cells (hO2.slc brEnc_len) hk; simp only [Nat.zero_add] at r20 r21 r22 r23 r24 r25 r26; have hBa := (Below.refl w2.heap.size w2).alloc (Nat.le_refl _) (.cells #[.int .u32 R[k].x.1, .string R[k].x.2.1, .string R[k].x.2.2, .int .u8 R[k].st, .int .u8 R[k].why, .int .u32 R[k].tm, .int .u32 R[k].lf] 44); have ta := t2.pure hBa; have xa := x2.pure hBa; have ya := y2.pure hBa; have hOa := hO2.pure hBa; have hAa := hA2.pure hBa; have hUa := hU2.trans (Upd.of_below hBa) (fun _ h _ => h); have cat0 := ta.at 0 rfl; have cat1 := ta.at 1 rfl; have cax0 := xa.at 0 rfl; have cax1 := xa.at 1 rfl; have cax2 := xa.at 2 rfl; have cay := ya.at 0 rfl; have ba := Blk.new w2 [.int .u32 R[k].x.1, .string R[k].x.2.1, .string R[k].x.2.2, .int .u8 R[k].st, .int .u8 R[k].why, .int .u32 R[k].tm, .int .u32 R[k].lf] 44; have cab0 := ba.at 0 rfl; have cab1 := ba.at 1 rfl; have cab2 := ba.at 2 rfl; have cab3 := ba.at 3 rfl; have cab4 := ba.at 4 rfl; have cab5 := ba.at 5 rfl; have cab6 := ba.at 6 rfl) | (go_at_call 80; (with_reducible refine (decided2 _ R[k] _ true hy.out hv.out).mono ?_); rintro e w3 ⟨rfl, hB3⟩; have t3 := ta.pure hB3; have x3 := xa.pure hB3; have y3 := ya.pure hB3; have b3 := ba.pure hB3; have hO3 := hOa.pure hB3; have hA3 := hAa.pure hB3; have hU3 := hUa.trans (Upd.of_below hB3) (fun _ h _ => h); have c3t0 := t3.at 0 rfl; have c3t1 := t3.at 1 rfl; have c3x0 := x3.at 0 rfl; have c3x1 := x3.at 1 rfl; have c3x2 := x3.at 2 rfl; have c3y := y3.at 0 rfl; have c3b0 := b3.at 0 rfl; have c3b1 := b3.at 1 rfl; have c3b2 := b3.at 2 rfl; have c3b3 := b3.at 3 rfl; have c3b4 := b3.at 4 rfl; have c3b5 := b3.at 5 rfl; have c3b6 := b3.at 6 rfl))
    (first | go_ret | go_ret2)
    rw [hD.out]
    exact .inl ⟨_, _, rfl, rfl, t3, hO3, hA3, hU3, trivial⟩
  have hv := Lib.hid (show decide (y ≠ 0) = false from decide_eq_false (fun h => h h4))
  obtain ⟨want, hwant⟩ : ∃ want : Int, (if one = true then 1 else 2) = want := ⟨_, rfl⟩
  by_cases h1 : R[k].st = want
  rotate_left 1
  · have hsb : (R[k].st == want) = false := beq_eq_false_iff_ne.2 h1
    have hD : Hid (commitD R A (xf, xg, xb) one = errR 9) := Lib.hid (by unfold commitD; rw [hI.out]; simp only [List.getD_eq_getElem?_getD, List.getElem?_eq_getElem hk, Option.getD_some]; rw [hy0, if_neg (fun h => h h4), hwant, if_pos (Or.inl h1)])
    clear h1 hy0 h4
    cases one
    · have hdum := True.intro
      simp only [Bool.false_eq_true, if_false] at hwant
      subst hwant
      go_enter Try.func79, Try.ntmps79
      go_wp2_with (first | (go_at_call 54; (with_reducible refine (trow_yes _ tb g R.length cap av R (xf, xg, xb) k t1 (hO1.slc brEnc_len) hr'.out hLR hk hex.out).mono ?_); rintro e w2 ⟨rfl, hB2⟩; have t2 := t1.pure hB2; have x2 := x1.pure hB2; have y2 := y1.pure hB2; have hO2 := hO1.pure hB2; have hA2 := hA1.pure hB2; have hU2 := hU1.trans (Upd.of_below hB2) (fun _ h _ => h); have c2t0 := t2.at 0 rfl; have c2t1 := t2.at 1 rfl; have c2x0 := x2.at 0 rfl; have c2x1 := x2.at 1 rfl; have c2x2 := x2.at 2 rfl; have c2y := y2.at 0 rfl; obtain ⟨r20, r21, r22, r23, r24, r25, r26⟩ := br_cells (hO2.slc brEnc_len) hk; simp only [Nat.zero_add] at r20 r21 r22 r23 r24 r25 r26; have hBa := (Below.refl w2.heap.size w2).alloc (Nat.le_refl _) (.cells #[.int .u32 R[k].x.1, .string R[k].x.2.1, .string R[k].x.2.2, .int .u8 R[k].st, .int .u8 R[k].why, .int .u32 R[k].tm, .int .u32 R[k].lf] 44); have ta := t2.pure hBa; have xa := x2.pure hBa; have ya := y2.pure hBa; have hOa := hO2.pure hBa; have hAa := hA2.pure hBa; have hUa := hU2.trans (Upd.of_below hBa) (fun _ h _ => h); have cat0 := ta.at 0 rfl; have cat1 := ta.at 1 rfl; have cax0 := xa.at 0 rfl; have cax1 := xa.at 1 rfl; have cax2 := xa.at 2 rfl; have cay := ya.at 0 rfl; have ba := Blk.new w2 [.int .u32 R[k].x.1, .string R[k].x.2.1, .string R[k].x.2.2, .int .u8 R[k].st, .int .u8 R[k].why, .int .u32 R[k].tm, .int .u32 R[k].lf] 44; have cab0 := ba.at 0 rfl; have cab1 := ba.at 1 rfl; have cab2 := ba.at 2 rfl; have cab3 := ba.at 3 rfl; have cab4 := ba.at 4 rfl; have cab5 := ba.at 5 rfl; have cab6 := ba.at 6 rfl) | (go_at_call 80; (with_reducible refine (decided2 _ R[k] _ false hy.out hv.out).mono ?_); rintro e w3 ⟨rfl, hB3⟩; have t3 := ta.pure hB3; have x3 := xa.pure hB3; have y3 := ya.pure hB3; have b3 := ba.pure hB3; have hO3 := hOa.pure hB3; have hA3 := hAa.pure hB3; have hU3 := hUa.trans (Upd.of_below hB3) (fun _ h _ => h); have c3t0 := t3.at 0 rfl; have c3t1 := t3.at 1 rfl; have c3x0 := x3.at 0 rfl; have c3x1 := x3.at 1 rfl; have c3x2 := x3.at 2 rfl; have c3y := y3.at 0 rfl; have c3b0 := b3.at 0 rfl; have c3b1 := b3.at 1 rfl; have c3b2 := b3.at 2 rfl; have c3b3 := b3.at 3 rfl; have c3b4 := b3.at 4 rfl; have c3b5 := b3.at 5 rfl; have c3b6 := b3.at 6 rfl) | (go_at_call 50; (with_reducible refine (must_no _ _).mono ?_); rintro e _ ⟨rfl, rfl⟩))
      refine ⟨rfl, ?_⟩
      rw [hD.out]
      exact .inr ⟨9, by decide, rfl, rfl, hU3⟩
    · have hdum := True.intro
      simp only [if_true] at hwant
      subst hwant
      go_enter Try.func79, Try.ntmps79
      go_wp2_with (first | (go_at_call 54; (with_reducible refine (trow_yes _ tb g R.length cap av R (xf, xg, xb) k t1 (hO1.slc brEnc_len) hr'.out hLR hk hex.out).mono ?_); rintro e w2 ⟨rfl, hB2⟩; have t2 := t1.pure hB2; have x2 := x1.pure hB2; have y2 := y1.pure hB2; have hO2 := hO1.pure hB2; have hA2 := hA1.pure hB2; have hU2 := hU1.trans (Upd.of_below hB2) (fun _ h _ => h); have c2t0 := t2.at 0 rfl; have c2t1 := t2.at 1 rfl; have c2x0 := x2.at 0 rfl; have c2x1 := x2.at 1 rfl; have c2x2 := x2.at 2 rfl; have c2y := y2.at 0 rfl; obtain ⟨r20, r21, r22, r23, r24, r25, r26⟩ := br_cells (hO2.slc brEnc_len) hk; simp only [Nat.zero_add] at r20 r21 r22 r23 r24 r25 r26; have hBa := (Below.refl w2.heap.size w2).alloc (Nat.le_refl _) (.cells #[.int .u32 R[k].x.1, .string R[k].x.2.1, .string R[k].x.2.2, .int .u8 R[k].st, .int .u8 R[k].why, .int .u32 R[k].tm, .int .u32 R[k].lf] 44); have ta := t2.pure hBa; have xa := x2.pure hBa; have ya := y2.pure hBa; have hOa := hO2.pure hBa; have hAa := hA2.pure hBa; have hUa := hU2.trans (Upd.of_below hBa) (fun _ h _ => h); have cat0 := ta.at 0 rfl; have cat1 := ta.at 1 rfl; have cax0 := xa.at 0 rfl; have cax1 := xa.at 1 rfl; have cax2 := xa.at 2 rfl; have cay := ya.at 0 rfl; have ba := Blk.new w2 [.int .u32 R[k].x.1, .string R[k].x.2.1, .string R[k].x.2.2, .int .u8 R[k].st, .int .u8 R[k].why, .int .u32 R[k].tm, .int .u32 R[k].lf] 44; have cab0 := ba.at 0 rfl; have cab1 := ba.at 1 rfl; have cab2 := ba.at 2 rfl; have cab3 := ba.at 3 rfl; have cab4 := ba.at 4 rfl; have cab5 := ba.at 5 rfl; have cab6 := ba.at 6 rfl) | (go_at_call 80; (with_reducible refine (decided2 _ R[k] _ false hy.out hv.out).mono ?_); rintro e w3 ⟨rfl, hB3⟩; have t3 := ta.pure hB3; have x3 := xa.pure hB3; have y3 := ya.pure hB3; have b3 := ba.pure hB3; have hO3 := hOa.pure hB3; have hA3 := hAa.pure hB3; have hU3 := hUa.trans (Upd.of_below hB3) (fun _ h _ => h); have c3t0 := t3.at 0 rfl; have c3t1 := t3.at 1 rfl; have c3x0 := x3.at 0 rfl; have c3x1 := x3.at 1 rfl; have c3x2 := x3.at 2 rfl; have c3y := y3.at 0 rfl; have c3b0 := b3.at 0 rfl; have c3b1 := b3.at 1 rfl; have c3b2 := b3.at 2 rfl; have c3b3 := b3.at 3 rfl; have c3b4 := b3.at 4 rfl; have c3b5 := b3.at 5 rfl; have c3b6 := b3.at 6 rfl) | (go_at_call 50; (with_reducible refine (must_no _ _).mono ?_); rintro e _ ⟨rfl, rfl⟩))
      refine ⟨rfl, ?_⟩
      rw [hD.out]
      exact .inr ⟨9, by decide, rfl, rfl, hU3⟩
  have hsb : (R[k].st == want) = true := by rw [h1]; simp
  by_cases h2 : 0 < cntA A (xf, xg, xb)
  · have hbz := Lib.hid (decide_eq_true h2)
    have hD : Hid (commitD R A (xf, xg, xb) one = errR 9) := Lib.hid (by unfold commitD; rw [hI.out]; simp only [List.getD_eq_getElem?_getD, List.getElem?_eq_getElem hk, Option.getD_some]; rw [hy0, if_neg (fun h => h h4), hwant, if_pos (Or.inr h2)])
    clear h1 h2 hy0 h4
    cases one
    · have hdum := True.intro
      simp only [Bool.false_eq_true, if_false] at hwant
      subst hwant
      go_enter Try.func79, Try.ntmps79
      go_wp2_with (first | (go_at_call 54; (with_reducible refine (trow_yes _ tb g R.length cap av R (xf, xg, xb) k t1 (hO1.slc brEnc_len) hr'.out hLR hk hex.out).mono ?_); rintro e w2 ⟨rfl, hB2⟩; have t2 := t1.pure hB2; have x2 := x1.pure hB2; have y2 := y1.pure hB2; have hO2 := hO1.pure hB2; have hA2 := hA1.pure hB2; have hU2 := hU1.trans (Upd.of_below hB2) (fun _ h _ => h); have c2t0 := t2.at 0 rfl; have c2t1 := t2.at 1 rfl; have c2x0 := x2.at 0 rfl; have c2x1 := x2.at 1 rfl; have c2x2 := x2.at 2 rfl; have c2y := y2.at 0 rfl; obtain ⟨r20, r21, r22, r23, r24, r25, r26⟩ := br_cells (hO2.slc brEnc_len) hk; simp only [Nat.zero_add] at r20 r21 r22 r23 r24 r25 r26; have hBa := (Below.refl w2.heap.size w2).alloc (Nat.le_refl _) (.cells #[.int .u32 R[k].x.1, .string R[k].x.2.1, .string R[k].x.2.2, .int .u8 R[k].st, .int .u8 R[k].why, .int .u32 R[k].tm, .int .u32 R[k].lf] 44); have ta := t2.pure hBa; have xa := x2.pure hBa; have ya := y2.pure hBa; have hOa := hO2.pure hBa; have hAa := hA2.pure hBa; have hUa := hU2.trans (Upd.of_below hBa) (fun _ h _ => h); have cat0 := ta.at 0 rfl; have cat1 := ta.at 1 rfl; have cax0 := xa.at 0 rfl; have cax1 := xa.at 1 rfl; have cax2 := xa.at 2 rfl; have cay := ya.at 0 rfl; have ba := Blk.new w2 [.int .u32 R[k].x.1, .string R[k].x.2.1, .string R[k].x.2.2, .int .u8 R[k].st, .int .u8 R[k].why, .int .u32 R[k].tm, .int .u32 R[k].lf] 44; have cab0 := ba.at 0 rfl; have cab1 := ba.at 1 rfl; have cab2 := ba.at 2 rfl; have cab3 := ba.at 3 rfl; have cab4 := ba.at 4 rfl; have cab5 := ba.at 5 rfl; have cab6 := ba.at 6 rfl) | (go_at_call 80; (with_reducible refine (decided2 _ R[k] _ false hy.out hv.out).mono ?_); rintro e w3 ⟨rfl, hB3⟩; have t3 := ta.pure hB3; have x3 := xa.pure hB3; have y3 := ya.pure hB3; have b3 := ba.pure hB3; have hO3 := hOa.pure hB3; have hA3 := hAa.pure hB3; have hU3 := hUa.trans (Upd.of_below hB3) (fun _ h _ => h); have c3t0 := t3.at 0 rfl; have c3t1 := t3.at 1 rfl; have c3x0 := x3.at 0 rfl; have c3x1 := x3.at 1 rfl; have c3x2 := x3.at 2 rfl; have c3y := y3.at 0 rfl; have c3b0 := b3.at 0 rfl; have c3b1 := b3.at 1 rfl; have c3b2 := b3.at 2 rfl; have c3b3 := b3.at 3 rfl; have c3b4 := b3.at 4 rfl; have c3b5 := b3.at 5 rfl; have c3b6 := b3.at 6 rfl) | (go_at_call 81; (with_reducible refine (tbusy2 _ tb _ av A (xf, xg, xb) true t3 (hA3.slc ascEnc_len) hLA hbz.out).mono ?_); rintro e w4 ⟨rfl, hB4⟩; have t4 := t3.pure hB4; have x4 := x3.pure hB4; have y4 := y3.pure hB4; have b4 := b3.pure hB4; have hO4 := hO3.pure hB4; have hA4 := hA3.pure hB4; have hU4 := hU3.trans (Upd.of_below hB4) (fun _ h _ => h); have c4t0 := t4.at 0 rfl; have c4t1 := t4.at 1 rfl; have c4x0 := x4.at 0 rfl; have c4x1 := x4.at 1 rfl; have c4x2 := x4.at 2 rfl; have c4y := y4.at 0 rfl; have c4b0 := b4.at 0 rfl; have c4b1 := b4.at 1 rfl; have c4b2 := b4.at 2 rfl; have c4b3 := b4.at 3 rfl; have c4b4 := b4.at 4 rfl; have c4b5 := b4.at 5 rfl; have c4b6 := b4.at 6 rfl) | (go_at_call 50; (with_reducible refine (must_no _ _).mono ?_); rintro e _ ⟨rfl, rfl⟩))
      refine ⟨rfl, ?_⟩
      rw [hD.out]
      exact .inr ⟨9, by decide, rfl, rfl, hU4⟩
    · have hdum := True.intro
      simp only [if_true] at hwant
      subst hwant
      go_enter Try.func79, Try.ntmps79
      go_wp2_with (first | (go_at_call 54; (with_reducible refine (trow_yes _ tb g R.length cap av R (xf, xg, xb) k t1 (hO1.slc brEnc_len) hr'.out hLR hk hex.out).mono ?_); rintro e w2 ⟨rfl, hB2⟩; have t2 := t1.pure hB2; have x2 := x1.pure hB2; have y2 := y1.pure hB2; have hO2 := hO1.pure hB2; have hA2 := hA1.pure hB2; have hU2 := hU1.trans (Upd.of_below hB2) (fun _ h _ => h); have c2t0 := t2.at 0 rfl; have c2t1 := t2.at 1 rfl; have c2x0 := x2.at 0 rfl; have c2x1 := x2.at 1 rfl; have c2x2 := x2.at 2 rfl; have c2y := y2.at 0 rfl; obtain ⟨r20, r21, r22, r23, r24, r25, r26⟩ := br_cells (hO2.slc brEnc_len) hk; simp only [Nat.zero_add] at r20 r21 r22 r23 r24 r25 r26; have hBa := (Below.refl w2.heap.size w2).alloc (Nat.le_refl _) (.cells #[.int .u32 R[k].x.1, .string R[k].x.2.1, .string R[k].x.2.2, .int .u8 R[k].st, .int .u8 R[k].why, .int .u32 R[k].tm, .int .u32 R[k].lf] 44); have ta := t2.pure hBa; have xa := x2.pure hBa; have ya := y2.pure hBa; have hOa := hO2.pure hBa; have hAa := hA2.pure hBa; have hUa := hU2.trans (Upd.of_below hBa) (fun _ h _ => h); have cat0 := ta.at 0 rfl; have cat1 := ta.at 1 rfl; have cax0 := xa.at 0 rfl; have cax1 := xa.at 1 rfl; have cax2 := xa.at 2 rfl; have cay := ya.at 0 rfl; have ba := Blk.new w2 [.int .u32 R[k].x.1, .string R[k].x.2.1, .string R[k].x.2.2, .int .u8 R[k].st, .int .u8 R[k].why, .int .u32 R[k].tm, .int .u32 R[k].lf] 44; have cab0 := ba.at 0 rfl; have cab1 := ba.at 1 rfl; have cab2 := ba.at 2 rfl; have cab3 := ba.at 3 rfl; have cab4 := ba.at 4 rfl; have cab5 := ba.at 5 rfl; have cab6 := ba.at 6 rfl) | (go_at_call 80; (with_reducible refine (decided2 _ R[k] _ false hy.out hv.out).mono ?_); rintro e w3 ⟨rfl, hB3⟩; have t3 := ta.pure hB3; have x3 := xa.pure hB3; have y3 := ya.pure hB3; have b3 := ba.pure hB3; have hO3 := hOa.pure hB3; have hA3 := hAa.pure hB3; have hU3 := hUa.trans (Upd.of_below hB3) (fun _ h _ => h); have c3t0 := t3.at 0 rfl; have c3t1 := t3.at 1 rfl; have c3x0 := x3.at 0 rfl; have c3x1 := x3.at 1 rfl; have c3x2 := x3.at 2 rfl; have c3y := y3.at 0 rfl; have c3b0 := b3.at 0 rfl; have c3b1 := b3.at 1 rfl; have c3b2 := b3.at 2 rfl; have c3b3 := b3.at 3 rfl; have c3b4 := b3.at 4 rfl; have c3b5 := b3.at 5 rfl; have c3b6 := b3.at 6 rfl) | (go_at_call 81; (with_reducible refine (tbusy2 _ tb _ av A (xf, xg, xb) true t3 (hA3.slc ascEnc_len) hLA hbz.out).mono ?_); rintro e w4 ⟨rfl, hB4⟩; have t4 := t3.pure hB4; have x4 := x3.pure hB4; have y4 := y3.pure hB4; have b4 := b3.pure hB4; have hO4 := hO3.pure hB4; have hA4 := hA3.pure hB4; have hU4 := hU3.trans (Upd.of_below hB4) (fun _ h _ => h); have c4t0 := t4.at 0 rfl; have c4t1 := t4.at 1 rfl; have c4x0 := x4.at 0 rfl; have c4x1 := x4.at 1 rfl; have c4x2 := x4.at 2 rfl; have c4y := y4.at 0 rfl; have c4b0 := b4.at 0 rfl; have c4b1 := b4.at 1 rfl; have c4b2 := b4.at 2 rfl; have c4b3 := b4.at 3 rfl; have c4b4 := b4.at 4 rfl; have c4b5 := b4.at 5 rfl; have c4b6 := b4.at 6 rfl) | (go_at_call 50; (with_reducible refine (must_no _ _).mono ?_); rintro e _ ⟨rfl, rfl⟩))
      refine ⟨rfl, ?_⟩
      rw [hD.out]
      exact .inr ⟨9, by decide, rfl, rfl, hU4⟩
  have hbz := Lib.hid (decide_eq_false h2)
  have hD : Hid (commitD R A (xf, xg, xb) one = (withoutB R (xf, xg, xb), A, R[k].why, 0)) := Lib.hid (by unfold commitD; rw [hI.out]; simp only [List.getD_eq_getElem?_getD, List.getElem?_eq_getElem hk, Option.getD_some]; rw [hy0, if_neg (fun h => h h4), hwant, if_neg (fun h => h.elim (fun h => h h1) h2)])
  clear h1 h2 hy0 h4
  cases one
  · have hdum := True.intro
    simp only [Bool.false_eq_true, if_false] at hwant
    subst hwant
    go_enter Try.func79, Try.ntmps79
    go_wp2_with (first | (go_at_call 54; (with_reducible refine (trow_yes _ tb g R.length cap av R (xf, xg, xb) k t1 (hO1.slc brEnc_len) hr'.out hLR hk hex.out).mono ?_); rintro e w2 ⟨rfl, hB2⟩; have t2 := t1.pure hB2; have x2 := x1.pure hB2; have y2 := y1.pure hB2; have hO2 := hO1.pure hB2; have hA2 := hA1.pure hB2; have hU2 := hU1.trans (Upd.of_below hB2) (fun _ h _ => h); have c2t0 := t2.at 0 rfl; have c2t1 := t2.at 1 rfl; have c2x0 := x2.at 0 rfl; have c2x1 := x2.at 1 rfl; have c2x2 := x2.at 2 rfl; have c2y := y2.at 0 rfl; obtain ⟨r20, r21, r22, r23, r24, r25, r26⟩ := br_cells (hO2.slc brEnc_len) hk; simp only [Nat.zero_add] at r20 r21 r22 r23 r24 r25 r26; have hBa := (Below.refl w2.heap.size w2).alloc (Nat.le_refl _) (.cells #[.int .u32 R[k].x.1, .string R[k].x.2.1, .string R[k].x.2.2, .int .u8 R[k].st, .int .u8 R[k].why, .int .u32 R[k].tm, .int .u32 R[k].lf] 44); have ta := t2.pure hBa; have xa := x2.pure hBa; have ya := y2.pure hBa; have hOa := hO2.pure hBa; have hAa := hA2.pure hBa; have hUa := hU2.trans (Upd.of_below hBa) (fun _ h _ => h); have cat0 := ta.at 0 rfl; have cat1 := ta.at 1 rfl; have cax0 := xa.at 0 rfl; have cax1 := xa.at 1 rfl; have cax2 := xa.at 2 rfl; have cay := ya.at 0 rfl; have ba := Blk.new w2 [.int .u32 R[k].x.1, .string R[k].x.2.1, .string R[k].x.2.2, .int .u8 R[k].st, .int .u8 R[k].why, .int .u32 R[k].tm, .int .u32 R[k].lf] 44; have cab0 := ba.at 0 rfl; have cab1 := ba.at 1 rfl; have cab2 := ba.at 2 rfl; have cab3 := ba.at 3 rfl; have cab4 := ba.at 4 rfl; have cab5 := ba.at 5 rfl; have cab6 := ba.at 6 rfl) | (go_at_call 80; (with_reducible refine (decided2 _ R[k] _ false hy.out hv.out).mono ?_); rintro e w3 ⟨rfl, hB3⟩; have t3 := ta.pure hB3; have x3 := xa.pure hB3; have y3 := ya.pure hB3; have b3 := ba.pure hB3; have hO3 := hOa.pure hB3; have hA3 := hAa.pure hB3; have hU3 := hUa.trans (Upd.of_below hB3) (fun _ h _ => h); have c3t0 := t3.at 0 rfl; have c3t1 := t3.at 1 rfl; have c3x0 := x3.at 0 rfl; have c3x1 := x3.at 1 rfl; have c3x2 := x3.at 2 rfl; have c3y := y3.at 0 rfl; have c3b0 := b3.at 0 rfl; have c3b1 := b3.at 1 rfl; have c3b2 := b3.at 2 rfl; have c3b3 := b3.at 3 rfl; have c3b4 := b3.at 4 rfl; have c3b5 := b3.at 5 rfl; have c3b6 := b3.at 6 rfl) | (go_at_call 81; (with_reducible refine (tbusy2 _ tb _ av A (xf, xg, xb) false t3 (hA3.slc ascEnc_len) hLA hbz.out).mono ?_); rintro e w4 ⟨rfl, hB4⟩; have t4 := t3.pure hB4; have x4 := x3.pure hB4; have y4 := y3.pure hB4; have b4 := b3.pure hB4; have hO4 := hO3.pure hB4; have hA4 := hA3.pure hB4; have hU4 := hU3.trans (Upd.of_below hB4) (fun _ h _ => h); have c4t0 := t4.at 0 rfl; have c4t1 := t4.at 1 rfl; have c4x0 := x4.at 0 rfl; have c4x1 := x4.at 1 rfl; have c4x2 := x4.at 2 rfl; have c4y := y4.at 0 rfl; have c4b0 := b4.at 0 rfl; have c4b1 := b4.at 1 rfl; have c4b2 := b4.at 2 rfl; have c4b3 := b4.at 3 rfl; have c4b4 := b4.at 4 rfl; have c4b5 := b4.at 5 rfl; have c4b6 := b4.at 6 rfl) | (go_at_call 50; (with_reducible refine (must_ok _ _).mono ?_); rintro e _ ⟨rfl, rfl⟩) | (go_at_call 82; (with_reducible refine (tgone _ tb (.slice (some ⟨g, 0, none⟩) R.length cap) av R (xf, xg, xb) t4 hO4 hr'.out hLR hrt).mono ?_); rintro e w5 ⟨r5, rfl, t5, hO5, hrb5, hUg5⟩; have hne5 : ∀ k, (k = tb ∨ some g = some k) → False ∨ s + 5 ≤ k := fun k h => (by rcases h with h | h; exact .inr (by omega); (injection h with h; exact .inr (by omega))); have hU5 := hU4.trans (hUg5.mono (fun k h _ => hne5 k h)) (fun _ h _ => h); have hA5 := hA4.upd hUg5 (fun k hk e => (by rcases e with e | e; exact hat (by rw [hk, e]); exact hap k e hk)); have x5 := x4.upd hUg5 (fun e => (by rcases hne5 _ e with h | h; exact h; omega)); have y5 := y4.upd hUg5 (fun e => (by rcases hne5 _ e with h | h; exact h; omega)); have b5 := b4.upd hUg5 (fun e => (by rcases e with e | e; have := t2.lt; omega; (have e2 : some g = some w2.heap.size := e; injection e2 with e2; have := hB2.size; omega))); obtain ⟨ga5, gc5, rfl⟩ := own_len hO5; have c5t0 := t5.at 0 rfl; have c5t1 := t5.at 1 rfl; have c5x0 := x5.at 0 rfl; have c5x1 := x5.at 1 rfl; have c5x2 := x5.at 2 rfl; have c5y := y5.at 0 rfl; have c5b0 := b5.at 0 rfl; have c5b1 := b5.at 1 rfl; have c5b2 := b5.at 2 rfl; have c5b3 := b5.at 3 rfl; have c5b4 := b5.at 4 rfl; have c5b5 := b5.at 5 rfl; have c5b6 := b5.at 6 rfl))
    (first | go_ret | go_ret2)
    rw [hD.out]
    exact .inl ⟨_, _, rfl, rfl, t5, hO5, hA5, hU5, trivial⟩
  · have hdum := True.intro
    simp only [if_true] at hwant
    subst hwant
    go_enter Try.func79, Try.ntmps79
    go_wp2_with (first | (go_at_call 54; (with_reducible refine (trow_yes _ tb g R.length cap av R (xf, xg, xb) k t1 (hO1.slc brEnc_len) hr'.out hLR hk hex.out).mono ?_); rintro e w2 ⟨rfl, hB2⟩; have t2 := t1.pure hB2; have x2 := x1.pure hB2; have y2 := y1.pure hB2; have hO2 := hO1.pure hB2; have hA2 := hA1.pure hB2; have hU2 := hU1.trans (Upd.of_below hB2) (fun _ h _ => h); have c2t0 := t2.at 0 rfl; have c2t1 := t2.at 1 rfl; have c2x0 := x2.at 0 rfl; have c2x1 := x2.at 1 rfl; have c2x2 := x2.at 2 rfl; have c2y := y2.at 0 rfl; obtain ⟨r20, r21, r22, r23, r24, r25, r26⟩ := br_cells (hO2.slc brEnc_len) hk; simp only [Nat.zero_add] at r20 r21 r22 r23 r24 r25 r26; have hBa := (Below.refl w2.heap.size w2).alloc (Nat.le_refl _) (.cells #[.int .u32 R[k].x.1, .string R[k].x.2.1, .string R[k].x.2.2, .int .u8 R[k].st, .int .u8 R[k].why, .int .u32 R[k].tm, .int .u32 R[k].lf] 44); have ta := t2.pure hBa; have xa := x2.pure hBa; have ya := y2.pure hBa; have hOa := hO2.pure hBa; have hAa := hA2.pure hBa; have hUa := hU2.trans (Upd.of_below hBa) (fun _ h _ => h); have cat0 := ta.at 0 rfl; have cat1 := ta.at 1 rfl; have cax0 := xa.at 0 rfl; have cax1 := xa.at 1 rfl; have cax2 := xa.at 2 rfl; have cay := ya.at 0 rfl; have ba := Blk.new w2 [.int .u32 R[k].x.1, .string R[k].x.2.1, .string R[k].x.2.2, .int .u8 R[k].st, .int .u8 R[k].why, .int .u32 R[k].tm, .int .u32 R[k].lf] 44; have cab0 := ba.at 0 rfl; have cab1 := ba.at 1 rfl; have cab2 := ba.at 2 rfl; have cab3 := ba.at 3 rfl; have cab4 := ba.at 4 rfl; have cab5 := ba.at 5 rfl; have cab6 := ba.at 6 rfl) | (go_at_call 80; (with_reducible refine (decided2 _ R[k] _ false hy.out hv.out).mono ?_); rintro e w3 ⟨rfl, hB3⟩; have t3 := ta.pure hB3; have x3 := xa.pure hB3; have y3 := ya.pure hB3; have b3 := ba.pure hB3; have hO3 := hOa.pure hB3; have hA3 := hAa.pure hB3; have hU3 := hUa.trans (Upd.of_below hB3) (fun _ h _ => h); have c3t0 := t3.at 0 rfl; have c3t1 := t3.at 1 rfl; have c3x0 := x3.at 0 rfl; have c3x1 := x3.at 1 rfl; have c3x2 := x3.at 2 rfl; have c3y := y3.at 0 rfl; have c3b0 := b3.at 0 rfl; have c3b1 := b3.at 1 rfl; have c3b2 := b3.at 2 rfl; have c3b3 := b3.at 3 rfl; have c3b4 := b3.at 4 rfl; have c3b5 := b3.at 5 rfl; have c3b6 := b3.at 6 rfl) | (go_at_call 81; (with_reducible refine (tbusy2 _ tb _ av A (xf, xg, xb) false t3 (hA3.slc ascEnc_len) hLA hbz.out).mono ?_); rintro e w4 ⟨rfl, hB4⟩; have t4 := t3.pure hB4; have x4 := x3.pure hB4; have y4 := y3.pure hB4; have b4 := b3.pure hB4; have hO4 := hO3.pure hB4; have hA4 := hA3.pure hB4; have hU4 := hU3.trans (Upd.of_below hB4) (fun _ h _ => h); have c4t0 := t4.at 0 rfl; have c4t1 := t4.at 1 rfl; have c4x0 := x4.at 0 rfl; have c4x1 := x4.at 1 rfl; have c4x2 := x4.at 2 rfl; have c4y := y4.at 0 rfl; have c4b0 := b4.at 0 rfl; have c4b1 := b4.at 1 rfl; have c4b2 := b4.at 2 rfl; have c4b3 := b4.at 3 rfl; have c4b4 := b4.at 4 rfl; have c4b5 := b4.at 5 rfl; have c4b6 := b4.at 6 rfl) | (go_at_call 50; (with_reducible refine (must_ok _ _).mono ?_); rintro e _ ⟨rfl, rfl⟩) | (go_at_call 82; (with_reducible refine (tgone _ tb (.slice (some ⟨g, 0, none⟩) R.length cap) av R (xf, xg, xb) t4 hO4 hr'.out hLR hrt).mono ?_); rintro e w5 ⟨r5, rfl, t5, hO5, hrb5, hUg5⟩; have hne5 : ∀ k, (k = tb ∨ some g = some k) → False ∨ s + 5 ≤ k := fun k h => (by rcases h with h | h; exact .inr (by omega); (injection h with h; exact .inr (by omega))); have hU5 := hU4.trans (hUg5.mono (fun k h _ => hne5 k h)) (fun _ h _ => h); have hA5 := hA4.upd hUg5 (fun k hk e => (by rcases e with e | e; exact hat (by rw [hk, e]); exact hap k e hk)); have x5 := x4.upd hUg5 (fun e => (by rcases hne5 _ e with h | h; exact h; omega)); have y5 := y4.upd hUg5 (fun e => (by rcases hne5 _ e with h | h; exact h; omega)); have b5 := b4.upd hUg5 (fun e => (by rcases e with e | e; have := t2.lt; omega; (have e2 : some g = some w2.heap.size := e; injection e2 with e2; have := hB2.size; omega))); obtain ⟨ga5, gc5, rfl⟩ := own_len hO5; have c5t0 := t5.at 0 rfl; have c5t1 := t5.at 1 rfl; have c5x0 := x5.at 0 rfl; have c5x1 := x5.at 1 rfl; have c5x2 := x5.at 2 rfl; have c5y := y5.at 0 rfl; have c5b0 := b5.at 0 rfl; have c5b1 := b5.at 1 rfl; have c5b2 := b5.at 2 rfl; have c5b3 := b5.at 3 rfl; have c5b4 := b5.at 4 rfl; have c5b5 := b5.at 5 rfl; have c5b6 := b5.at 6 rfl))
    (first | go_ret | go_ret2)
    rw [hD.out]
    exact .inl ⟨_, _, rfl, rfl, t5, hO5, hA5, hU5, trivial⟩

set_option maxRecDepth 100000 in
set_option maxHeartbeats 3200000 in
theorem restore_do (s : Nat) (w1 : World) (tb : Nat) (rv av : Value) (R : List Brn) (A : List Asc) (xb1 : Nat) (x : Xid) (hx1 : Blk w1 xb1 (xidC x)) (hxs : xb1 < s) (yb : Nat) (st : Int) (y1 : Blk w1 yb [.int .u8 st]) (hys : yb < s) (hpre : DoPre s w1 tb rv av R A) (hr : RisesB R) (hLR : R.length ≤ 1000000) (hLA : A.length ≤ 1000000) :
    Calls Try.prog 92 #[.pointer (some ⟨tb, 0, none⟩), .pointer (some ⟨xb1, 0, none⟩), .pointer (some ⟨yb, 0, none⟩)] w1 (DoPost s tb (restoreD R A x st) (fun _ => False) (fun _ => True) w1) := by
  obtain ⟨hroom, t1, hhigh, hO1, hA1, hrt, hat, hap⟩ := hpre
  have hU1 := Upd.refl (fun k => False ∨ s + 5 ≤ k) w1
  have hr' := Lib.hid hr
  obtain ⟨xf, xg, xb⟩ := x
  have x1 : Blk w1 xb1 [.int .u32 xf, .string xg, .string xb] := hx1
  clear hx1
  have c1t0 := t1.at 0 rfl
  have c1t1 := t1.at 1 rfl
  have c1x0 := x1.at 0 rfl
  have c1x1 := x1.at 1 rfl
  have c1x2 := x1.at 2 rfl
  have c1y := y1.at 0 rfl
  rcases Classical.em (MemB R (xf, xg, xb)) with hm | hm
  · have hD : Hid (restoreD R A (xf, xg, xb) st = errR 8) := Lib.hid (by obtain ⟨k, hk, he⟩ := hm; unfold restoreD; rw [idxB_yes hr hk he])
    have hm' := Lib.hid hm; clear hm hr
    go_enter Try.func92, Try.ntmps92
    go_wp2_with (first | (go_at_call 51; (with_reducible refine (tput_no _ tb rv av R ⟨(xf, xg, xb), st, 0, 0, 0⟩ t1 hO1 hr'.out hLR hrt (by omega) hm'.out).mono ?_); rintro e w2 ⟨rfl, hB2⟩; have hU2 := hU1.trans (Upd.of_below hB2) (fun _ h _ => h)))
    refine ⟨rfl, ?_⟩
    rw [hD.out]
    exact .inr ⟨8, by decide, rfl, rfl, hU2⟩
  · have hD : Hid (restoreD R A (xf, xg, xb) st = (insB R (placeM R (xf, xg, xb)) (newB (xf, xg, xb) st), A, 0, 0)) := Lib.hid (by unfold restoreD; rw [idxB_no hm])
    have hm' := Lib.hid hm; clear hm hr
    have hne2 : ∀ k, (k = tb ∨ rv.ownBlock = some k) → False ∨ s + 5 ≤ k := fun k h => by rcases h with h | h; exact .inr (by omega); exact .inr (hO1.ge h)
    have hO1' := Lib.hid hO1
    go_enter Try.func92, Try.ntmps92
    go_wp2_with (first | (go_at_call 51; (with_reducible refine (tput_ok _ tb rv av R ⟨(xf, xg, xb), st, 0, 0, 0⟩ t1 hO1'.out hr'.out hLR hrt (by omega) hm'.out).mono ?_); rintro e w2 ⟨r2, rfl, t2, hO2, hrb, hUg⟩; have hU2 := hU1.trans (hUg.mono (fun k h _ => hne2 k h)) (fun _ h _ => h); have hA2 := hA1.upd hUg (fun k hk e => (by rcases e with e | e; exact hat (by rw [hk, e]); exact hap k e hk))))
    (first | go_ret | go_ret2)
    rw [hD.out]
    exact .inl ⟨_, _, rfl, rfl, t2, hO2, hA2, hU2, trivial⟩
end Go.Proofs.Ytcelpincmpjhkaa
