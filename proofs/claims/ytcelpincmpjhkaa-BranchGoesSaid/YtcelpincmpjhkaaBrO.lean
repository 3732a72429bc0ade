/- The closures of Spoil, SetTimeout, Rollback, Forget. Conditions: what on hands them. Written by gen_brM.py. -/
import Derived.Test.YtcelpincmpjhkaaBrM
namespace Go.Proofs.Ytcelpincmpjhkaa
set_option linter.unusedSimpArgs false
set_option linter.unusedVariables false
open Go.RowKit


set_option maxRecDepth 100000 in
set_option maxHeartbeats 3200000 in
theorem spoil_do (s : Nat) (w1 : World) (tb : Nat) (rv av : Value) (R : List Brn) (A : List Asc) (xb1 : Nat) (x : Xid) (hx1 : Blk w1 xb1 (xidC x)) (hxs : xb1 < s) (hpre : DoPre s w1 tb rv av R A) (hr : RisesB R) (hLR : R.length ≤ 1000000) (hLA : A.length ≤ 1000000) :
    Calls Try.prog 90 #[.pointer (some ⟨tb, 0, none⟩), .pointer (some ⟨xb1, 0, none⟩)] w1 (DoPost s tb (spoilD R A x) (fun _ => False) (fun _ => True) w1) := by
  obtain ⟨hroom, t1, hhigh, hO1, hA1, hrt, hat, hap⟩ := hpre
  have hU1 := Upd.refl (fun k => False ∨ s + 5 ≤ k) w1
  have hr' := Lib.hid hr
  obtain ⟨xf, xg, xb⟩ := x
  have x1 : Blk w1 xb1 [.int .u32 xf, .string xg, .string xb] := hx1
  clear hx1
  have c1t0 := t1.at 0 rfl
  have c1t1 := t1.at 1 rfl
  have c1x0 := x1.at 0 rfl
  have c1x1 := x1.at 1 rfl
  have c1x2 := x1.at 2 rfl
  rcases Classical.em (MemB R (xf, xg, xb)) with hm | hm
  rotate_left 1
  · have hn := Lib.hid hm
    have hD : Hid (spoilD R A (xf, xg, xb) = errR 7) := Lib.hid (by unfold spoilD; rw [idxB_no hm])
    clear hm hr
    go_enter Try.func90, Try.ntmps90
    go_wp2_with (first | (go_at_call 54; (with_reducible refine (trow_no _ tb rv av R (xf, xg, xb) t1 (hO1.slc brEnc_len) hr'.out hLR hn.out).mono ?_); rintro e w2 ⟨rfl, hB2⟩; have hU2 := hU1.trans (Upd.of_below hB2) (fun _ h _ => h)))
    refine ⟨rfl, ?_⟩
    rw [hD.out]
    exact .inr ⟨7, by decide, rfl, rfl, hU2⟩
  obtain ⟨k, hk, hex0⟩ := hm
  obtain ⟨g, cap, rfl, hg1, hg2⟩ := hO1.shape (fun e => by rw [e] at hk; simp at hk)
  have hrt2 : g ≠ tb := fun e => hrt (by simp [Value.ownBlock, e])
  have hI := Lib.hid (idxB_yes hr hk hex0)
  have hex := Lib.hid hex0
  clear hr hex0
  by_cases h1 : R[k].st = 1
  rotate_left 1
  · have hsb : (R[k].st == 1) = false := beq_eq_false_iff_ne.2 h1
    have hD : Hid (spoilD R A (xf, xg, xb) = errR 9) := Lib.hid (by unfold spoilD; rw [hI.out]; simp only [List.getD_eq_getElem?_getD, List.getElem?_eq_getElem hk, Option.getD_some]; rw [if_neg h1])
    clear h1
    go_enter Try.func90, Try.ntmps90
    go_wp2_with (first | (go_at_call 54; (with_reducible refine (trow_yes _ tb g R.length cap av R (xf, xg, xb) k t1 (hO1.slc brEnc_len) hr'.out hLR hk hex.out).mono ?_); rintro e w2 ⟨rfl, hB2⟩; have t2 := t1.pure hB2; have x2 := x1.pure hB2; have hO2 := hO1.pure hB2; have hA2 := hA1.pure hB2; have hU2 := hU1.trans (Upd.of_below hB2) (fun _ h _ => h); have c2t0 := t2.at 0 rfl; have c2t1 := t2.at 1 rfl; have c2x0 := x2.at 0 rfl; have c2x1 := x2.at 1 rfl; have c2x2 := x2.at 2 rfl; obtain ⟨r20, r21, r22, r23, r24, r25, r26⟩ := br_cells (hO2.slc brEnc_len) hk; simp only [Nat.zero_add] at r20 r21 r22 r23 r24 r25 r26) | (go_at_call 50; (with_reducible refine (must_no _ _).mono ?_); rintro e _ ⟨rfl, rfl⟩))
    refine ⟨rfl, ?_⟩
    rw [hD.out]
    exact .inr ⟨9, by decide, rfl, rfl, hU2⟩
  have hsb : (R[k].st == 1) = true := by rw [h1]; rfl
  have hD : Hid (spoilD R A (xf, xg, xb) = (R.set k (R[k].spoil 1), A, 0, 0)) := Lib.hid (by unfold spoilD; rw [hI.out]; simp only [List.getD_eq_getElem?_getD, List.getElem?_eq_getElem hk, Option.getD_some]; rw [if_pos h1])
  clear h1
  go_enter Try.func90, Try.ntmps90
  go_wp2_with (first | (go_at_call 54; (with_reducible refine (trow_yes _ tb g R.length cap av R (xf, xg, xb) k t1 (hO1.slc brEnc_len) hr'.out hLR hk hex.out).mono ?_); rintro e w2 ⟨rfl, hB2⟩; have t2 := t1.pure hB2; have x2 := x1.pure hB2; have hO2 := hO1.pure hB2; have hA2 := hA1.pure hB2; have hU2 := hU1.trans (Upd.of_below hB2) (fun _ h _ => h); have c2t0 := t2.at 0 rfl; have c2t1 := t2.at 1 rfl; have c2x0 := x2.at 0 rfl; have c2x1 := x2.at 1 rfl; have c2x2 := x2.at 2 rfl; obtain ⟨r20, r21, r22, r23, r24, r25, r26⟩ := br_cells (hO2.slc brEnc_len) hk; simp only [Nat.zero_add] at r20 r21 r22 r23 r24 r25 r26) | (go_at_call 50; (with_reducible refine (must_ok _ _).mono ?_); rintro e _ ⟨rfl, rfl⟩) | (go_at_call 68; (with_reducible refine (spoil_any _ g R.length cap k R 1 hO2 hk).mono ?_); rintro e w3 ⟨rfl, hO3, hUg3⟩; have hU3 := hU2.trans (hUg3.mono (T := fun k => False ∨ s + 5 ≤ k) (fun k h _ => Or.inr (by rw [h]; exact hg1))) (fun _ h _ => h); have t3 := t2.upd hUg3 (fun e => hrt2 e.symm); have hA3 := hA2.upd hUg3 (fun k hk e => hap g rfl (by rw [hk, e])); have x3 := x2.upd hUg3 (by omega); have c3t0 := t3.at 0 rfl; have c3t1 := t3.at 1 rfl; have c3x0 := x3.at 0 rfl; have c3x1 := x3.at 1 rfl; have c3x2 := x3.at 2 rfl; obtain ⟨r30, r31, r32, r33, r34, r35, r36⟩ := br_cells (hO3.slc brEnc_len) (by simpa using hk); simp only [Nat.zero_add, List.getElem_set_self] at r30 r31 r32 r33 r34 r35 r36))
  (first | go_ret | go_ret2)
  rw [hD.out]
  exact .inl ⟨_, _, rfl, rfl, t3, hO3, hA3, hU3, trivial⟩

set_option maxRecDepth 100000 in
set_option maxHeartbeats 3200000 in
theorem timeout_do (s : Nat) (w1 : World) (tb : Nat) (rv av : Value) (R : List Brn) (A : List Asc) (xb1 : Nat) (x : Xid) (hx1 : Blk w1 xb1 (xidC x)) (hxs : xb1 < s) (yb : Nat) (n : Int) (y1 : Blk w1 yb [.int .u32 n]) (hys : yb < s) (hpre : DoPre s w1 tb rv av R A) (hr : RisesB R) (hLR : R.length ≤ 1000000) (hLA : A.length ≤ 1000000) :
    Calls Try.prog 91 #[.pointer (some ⟨tb, 0, none⟩), .pointer (some ⟨xb1, 0, none⟩), .pointer (some ⟨yb, 0, none⟩)] w1 (DoPost s tb (timeoutD R A x n) (fun _ => False) (fun _ => True) w1) := by
  obtain ⟨hroom, t1, hhigh, hO1, hA1, hrt, hat, hap⟩ := hpre
  have hU1 := Upd.refl (fun k => False ∨ s + 5 ≤ k) w1
  have hr' := Lib.hid hr
  obtain ⟨xf, xg, xb⟩ := x
  have x1 : Blk w1 xb1 [.int .u32 xf, .string xg, .string xb] := hx1
  clear hx1
  have c1t0 := t1.at 0 rfl
  have c1t1 := t1.at 1 rfl
  have c1x0 := x1.at 0 rfl
  have c1x1 := x1.at 1 rfl
  have c1x2 := x1.at 2 rfl
  have c1y := y1.at 0 rfl
  rcases Classical.em (MemB R (xf, xg, xb)) with hm | hm
  rotate_left 1
  · have hn := Lib.hid hm
    have hD : Hid (timeoutD R A (xf, xg, xb) n = errR 7) := Lib.hid (by unfold timeoutD; rw [idxB_no hm])
    clear hm hr
    go_enter Try.func91, Try.ntmps91
    go_wp2_with (first | (go_at_call 54; (with_reducible refine (trow_no _ tb rv av R (xf, xg, xb) t1 (hO1.slc brEnc_len) hr'.out hLR hn.out).mono ?_); rintro e w2 ⟨rfl, hB2⟩; have hU2 := hU1.trans (Upd.of_below hB2) (fun _ h _ => h)))
    refine ⟨rfl, ?_⟩
    rw [hD.out]
    exact .inr ⟨7, by decide, rfl, rfl, hU2⟩
  obtain ⟨k, hk, hex0⟩ := hm
  obtain ⟨g, cap, rfl, hg1, hg2⟩ := hO1.shape (fun e => by rw [e] at hk; simp at hk)
  have hrt2 : g ≠ tb := fun e => hrt (by simp [Value.ownBlock, e])
  have hI := Lib.hid (idxB_yes hr hk hex0)
  have hex := Lib.hid hex0
  clear hr hex0
  by_cases h1 : R[k].st = 1
  rotate_left 1
  · have hsb : (R[k].st == 1) = false := beq_eq_false_iff_ne.2 h1
    have hD : Hid (timeoutD R A (xf, xg, xb) n = errR 9) := Lib.hid (by unfold timeoutD; rw [hI.out]; simp only [List.getD_eq_getElem?_getD, List.getElem?_eq_getElem hk, Option.getD_some]; rw [if_neg h1])
    clear h1
    go_enter Try.func91, Try.ntmps91
    go_wp2_with (first | (go_at_call 54; (with_reducible refine (trow_yes _ tb g R.length cap av R (xf, xg, xb) k t1 (hO1.slc brEnc_len) hr'.out hLR hk hex.out).mono ?_); rintro e w2 ⟨rfl, hB2⟩; have t2 := t1.pure hB2; have x2 := x1.pure hB2; have y2 := y1.pure hB2; have hO2 := hO1.pure hB2; have hA2 := hA1.pure hB2; have hU2 := hU1.trans (Upd.of_below hB2) (fun _ h _ => h); have c2t0 := t2.at 0 rfl; have c2t1 := t2.at 1 rfl; have c2x0 := x2.at 0 rfl; have c2x1 := x2.at 1 rfl; have c2x2 := x2.at 2 rfl; have c2y := y2.at 0 rfl; obtain ⟨r20, r21, r22, r23, r24, r25, r26⟩ := br_cells (hO2.slc brEnc_len) hk; simp only [Nat.zero_add] at r20 r21 r22 r23 r24 r25 r26) | (go_at_call 50; (with_reducible refine (must_no _ _).mono ?_); rintro e _ ⟨rfl, rfl⟩))
    refine ⟨rfl, ?_⟩
    rw [hD.out]
    exact .inr ⟨9, by decide, rfl, rfl, hU2⟩
  have hsb : (R[k].st == 1) = true := by rw [h1]; rfl
  by_cases h3 : R[k].why = 0
  · have hwb : (R[k].why == 0) = true := by rw [h3]; rfl
    have hD : Hid (timeoutD R A (xf, xg, xb) n = (R.set k { R[k] with tm := n, lf := n }, A, 0, 0)) := Lib.hid (by unfold timeoutD; rw [hI.out]; simp only [List.getD_eq_getElem?_getD, List.getElem?_eq_getElem hk, Option.getD_some]; rw [if_pos h1, if_pos h3])
    clear h1 h3
    go_enter Try.func91, Try.ntmps91
    go_wp2_with (first | (go_at_call 54; (with_reducible refine (trow_yes _ tb g R.length cap av R (xf, xg, xb) k t1 (hO1.slc brEnc_len) hr'.out hLR hk hex.out).mono ?_); rintro e w2 ⟨rfl, hB2⟩; have t2 := t1.pure hB2; have x2 := x1.pure hB2; have y2 := y1.pure hB2; have hO2 := hO1.pure hB2; have hA2 := hA1.pure hB2; have hU2 := hU1.trans (Upd.of_below hB2) (fun _ h _ => h); have c2t0 := t2.at 0 rfl; have c2t1 := t2.at 1 rfl; have c2x0 := x2.at 0 rfl; have c2x1 := x2.at 1 rfl; have c2x2 := x2.at 2 rfl; have c2y := y2.at 0 rfl; obtain ⟨r20, r21, r22, r23, r24, r25, r26⟩ := br_cells (hO2.slc brEnc_len) hk; simp only [Nat.zero_add] at r20 r21 r22 r23 r24 r25 r26; have z5 := hO2.frozen (k * 7 + 5); have z6 := hO2.frozen (k * 7 + 6); have y3 := (y2.other ⟨g, k * 7 + 5, none⟩ (.int .u32 n) (by simp only; omega)).at 0 rfl; have s1 := Lib.hid (hO2.set brEnc_len k hk 5 (.int .u32 n) { R[k] with tm := n } (by omega) rfl); obtain ⟨-, -, -, -, q4, -, q6⟩ := br_cells (s1.out.slc brEnc_len) (by simpa using hk); simp only [Nat.zero_add, List.getElem_set_self] at q4 q6) | (go_at_call 50; (with_reducible refine (must_ok _ _).mono ?_); rintro e _ ⟨rfl, rfl⟩))
    (first | go_ret | go_ret2)
    rw [hD.out]
    have s1 := hO2.set brEnc_len k hk 5 (.int .u32 n) { R[k] with tm := n } (by omega) rfl
    have s2 := s1.set brEnc_len k (by simpa using hk) 6 (.int .u32 n) { R[k] with tm := n, lf := n } (by omega) (by rw [List.getElem_set_self]; rfl)
    rw [List.set_set] at s2
    exact .inl ⟨_, _, rfl, rfl, ((t2.other _ _ (fun e => hrt2 e.symm)).other _ _ (fun e => hrt2 e.symm)), s2, ((hA2.other _ _ (fun j hj e => hap g rfl (by rw [hj]; exact congrArg some e))).other _ _ (fun j hj e => hap g rfl (by rw [hj]; exact congrArg some e))), ((hU2.trans (Upd.set (S := fun k => False ∨ s + 5 ≤ k) (Or.inr hg1) _) (fun _ h _ => h)).trans (Upd.set (S := fun k => False ∨ s + 5 ≤ k) (Or.inr hg1) _) (fun _ h _ => h)), trivial⟩
  · have hwb : (R[k].why == 0) = false := beq_eq_false_iff_ne.2 h3
    have hD : Hid (timeoutD R A (xf, xg, xb) n = (R.set k { R[k] with tm := n, lf := R[k].lf }, A, 0, 0)) := Lib.hid (by unfold timeoutD; rw [hI.out]; simp only [List.getD_eq_getElem?_getD, List.getElem?_eq_getElem hk, Option.getD_some]; rw [if_pos h1, if_neg h3])
    clear h1 h3
    go_enter Try.func91, Try.ntmps91
    go_wp2_with (first | (go_at_call 54; (with_reducible refine (trow_yes _ tb g R.length cap av R (xf, xg, xb) k t1 (hO1.slc brEnc_len) hr'.out hLR hk hex.out).mono ?_); rintro e w2 ⟨rfl, hB2⟩; have t2 := t1.pure hB2; have x2 := x1.pure hB2; have y2 := y1.pure hB2; have hO2 := hO1.pure hB2; have hA2 := hA1.pure hB2; have hU2 := hU1.trans (Upd.of_below hB2) (fun _ h _ => h); have c2t0 := t2.at 0 rfl; have c2t1 := t2.at 1 rfl; have c2x0 := x2.at 0 rfl; have c2x1 := x2.at 1 rfl; have c2x2 := x2.at 2 rfl; have c2y := y2.at 0 rfl; obtain ⟨r20, r21, r22, r23, r24, r25, r26⟩ := br_cells (hO2.slc brEnc_len) hk; simp only [Nat.zero_add] at r20 r21 r22 r23 r24 r25 r26; have z5 := hO2.frozen (k * 7 + 5); have z6 := hO2.frozen (k * 7 + 6); have y3 := (y2.other ⟨g, k * 7 + 5, none⟩ (.int .u32 n) (by simp only; omega)).at 0 rfl; have s1 := Lib.hid (hO2.set brEnc_len k hk 5 (.int .u32 n) { R[k] with tm := n } (by omega) rfl); obtain ⟨-, -, -, -, q4, -, q6⟩ := br_cells (s1.out.slc brEnc_len) (by simpa using hk); simp only [Nat.zero_add, List.getElem_set_self] at q4 q6) | (go_at_call 50; (with_reducible refine (must_ok _ _).mono ?_); rintro e _ ⟨rfl, rfl⟩))
    (first | go_ret | go_ret2)
    rw [hD.out]
    have s1 := hO2.set brEnc_len k hk 5 (.int .u32 n) { R[k] with tm := n } (by omega) rfl
    exact .inl ⟨_, _, rfl, rfl, (t2.other _ _ (fun e => hrt2 e.symm)), s1, (hA2.other _ _ (fun j hj e => hap g rfl (by rw [hj]; exact congrArg some e))), (hU2.trans (Upd.set (S := fun k => False ∨ s + 5 ≤ k) (Or.inr hg1) _) (fun _ h _ => h)), trivial⟩

set_option maxRecDepth 100000 in
set_option maxHeartbeats 3200000 in
theorem rollback_do (s : Nat) (w1 : World) (tb : Nat) (rv av : Value) (R : List Brn) (A : List Asc) (xb1 : Nat) (x : Xid) (hx1 : Blk w1 xb1 (xidC x)) (hxs : xb1 < s) (hpre : DoPre s w1 tb rv av R A) (hr : RisesB R) (hLR : R.length ≤ 1000000) (hLA : A.length ≤ 1000000) :
    Calls Try.prog 87 #[.pointer (some ⟨tb, 0, none⟩), .pointer (some ⟨xb1, 0, none⟩)] w1 (DoPost s tb (rollbackD R A x) (fun _ => False) (fun _ => True) w1) := by
  obtain ⟨hroom, t1, hhigh, hO1, hA1, hrt, hat, hap⟩ := hpre
  have hU1 := Upd.refl (fun k => False ∨ s + 5 ≤ k) w1
  have hr' := Lib.hid hr
  obtain ⟨xf, xg, xb⟩ := x
  have x1 : Blk w1 xb1 [.int .u32 xf, .string xg, .string xb] := hx1
  clear hx1
  have c1t0 := t1.at 0 rfl
  have c1t1 := t1.at 1 rfl
  have c1x0 := x1.at 0 rfl
  have c1x1 := x1.at 1 rfl
  have c1x2 := x1.at 2 rfl
  rcases Classical.em (MemB R (xf, xg, xb)) with hm | hm
  rotate_left 1
  · have hn := Lib.hid hm
    have hD : Hid (rollbackD R A (xf, xg, xb) = errR 7) := Lib.hid (by unfold rollbackD; rw [idxB_no hm])
    clear hm hr
    go_enter Try.func87, Try.ntmps87
    go_wp2_with (first | (go_at_call 54; (with_reducible refine (trow_no _ tb rv av R (xf, xg, xb) t1 (hO1.slc brEnc_len) hr'.out hLR hn.out).mono ?_); rintro e w2 ⟨rfl, hB2⟩; have hU2 := hU1.trans (Upd.of_below hB2) (fun _ h _ => h)))
    refine ⟨rfl, ?_⟩
    rw [hD.out]
    exact .inr ⟨7, by decide, rfl, rfl, hU2⟩
  obtain ⟨k, hk, hex0⟩ := hm
  obtain ⟨g, cap, rfl, hg1, hg2⟩ := hO1.shape (fun e => by rw [e] at hk; simp at hk)
  have hrt2 : g ≠ tb := fun e => hrt (by simp [Value.ownBlock, e])
  have hI := Lib.hid (idxB_yes hr hk hex0)
  have hex := Lib.hid hex0
  clear hr hex0
  obtain ⟨y, hy0⟩ : ∃ y, answerD R[k].st = y := ⟨_, rfl⟩
  have hy := Lib.hid hy0
  by_cases h4 : y = 0
  rotate_left 1
  · have hv := Lib.hid (show decide (y ≠ 0) = true from decide_eq_true h4)
    have hD : Hid (rollbackD R A (xf, xg, xb) = (R, A, y, 0)) := Lib.hid (by unfold rollbackD; rw [hI.out]; simp only [List.getD_eq_getElem?_getD, List.getElem?_eq_getElem hk, Option.getD_some]; rw [hy0, if_pos h4])
    clear hy0 h4
    go_enter Try.func87, Try.ntmps87
    go_wp2_with (first | (go_at_call 54; (with_reducible refine (trow_yes _ tb g R.length cap av R (xf, xg, xb) k t1 (hO1.slc brEnc_len) hr'.out hLR hk hex.out).mono ?_); rintro e w2 ⟨rfl, hB2⟩; have t2 := t1.pure hB2; have x2 := x1.pure hB2; have hO2 := hO1.pure hB2; have hA2 := hA1.pure hB2; have hU2 := hU1.trans (Upd.of_below hB2) (fun _ h _ => h); have c2t0 := t2.at 0 rfl; have c2t1 := t2.at 1 rfl; have c2x0 := x2.at 0 rfl; have c2x1 := x2.at 1 rfl; have c2x2 := x2.at 2 rfl; obtain ⟨r20, r21, r22, r23, r24, r25, r26⟩ := br_cells (hO2.slc brEnc_len) hk; simp only [Nat.zero_add] at r20 r21 r22 r23 r24 r25 r26) | (go_at_call 80; (with_reducible refine (decided2 _ R[k] _ true hy.out hv.out).mono ?_); rintro e w3 ⟨rfl, hB3⟩; have t3 := t2.pure hB3; have x3 := x2.pure hB3; have hO3 := hO2.pure hB3; have hA3 := hA2.pure hB3; have hU3 := hU2.trans (Upd.of_below hB3) (fun _ h _ => h); have c3t0 := t3.at 0 rfl; have c3t1 := t3.at 1 rfl; have c3x0 := x3.at 0 rfl; have c3x1 := x3.at 1 rfl; have c3x2 := x3.at 2 rfl))
    (first | go_ret | go_ret2)
    rw [hD.out]
    exact .inl ⟨_, _, rfl, rfl, t3, hO3, hA3, hU3, trivial⟩
  have hv := Lib.hid (show decide (y ≠ 0) = false from decide_eq_false (fun h => h h4))
  by_cases h2 : 0 < cntA A (xf, xg, xb)
  · have hbz := Lib.hid (decide_eq_true h2)
    have hD : Hid (rollbackD R A (xf, xg, xb) = errR 9) := Lib.hid (by unfold rollbackD; rw [hI.out]; simp only [List.getD_eq_getElem?_getD, List.getElem?_eq_getElem hk, Option.getD_some]; rw [hy0, if_neg (fun h => h h4), if_pos h2])
    clear h2 hy0 h4
    go_enter Try.func87, Try.ntmps87
    go_wp2_with (first | (go_at_call 54; (with_reducible refine (trow_yes _ tb g R.length cap av R (xf, xg, xb) k t1 (hO1.slc brEnc_len) hr'.out hLR hk hex.out).mono ?_); rintro e w2 ⟨rfl, hB2⟩; have t2 := t1.pure hB2; have x2 := x1.pure hB2; have hO2 := hO1.pure hB2; have hA2 := hA1.pure hB2; have hU2 := hU1.trans (Upd.of_below hB2) (fun _ h _ => h); have c2t0 := t2.at 0 rfl; have c2t1 := t2.at 1 rfl; have c2x0 := x2.at 0 rfl; have c2x1 := x2.at 1 rfl; have c2x2 := x2.at 2 rfl; obtain ⟨r20, r21, r22, r23, r24, r25, r26⟩ := br_cells (hO2.slc brEnc_len) hk; simp only [Nat.zero_add] at r20 r21 r22 r23 r24 r25 r26) | (go_at_call 80; (with_reducible refine (decided2 _ R[k] _ false hy.out hv.out).mono ?_); rintro e w3 ⟨rfl, hB3⟩; have t3 := t2.pure hB3; have x3 := x2.pure hB3; have hO3 := hO2.pure hB3; have hA3 := hA2.pure hB3; have hU3 := hU2.trans (Upd.of_below hB3) (fun _ h _ => h); have c3t0 := t3.at 0 rfl; have c3t1 := t3.at 1 rfl; have c3x0 := x3.at 0 rfl; have c3x1 := x3.at 1 rfl; have c3x2 := x3.at 2 rfl) | (go_at_call 81; (with_reducible refine (tbusy2 _ tb _ av A (xf, xg, xb) true t3 (hA3.slc ascEnc_len) hLA hbz.out).mono ?_); rintro e w4 ⟨rfl, hB4⟩; have t4 := t3.pure hB4; have x4 := x3.pure hB4; have hO4 := hO3.pure hB4; have hA4 := hA3.pure hB4; have hU4 := hU3.trans (Upd.of_below hB4) (fun _ h _ => h); have c4t0 := t4.at 0 rfl; have c4t1 := t4.at 1 rfl; have c4x0 := x4.at 0 rfl; have c4x1 := x4.at 1 rfl; have c4x2 := x4.at 2 rfl) | (go_at_call 50; (with_reducible refine (must_no _ _).mono ?_); rintro e _ ⟨rfl, rfl⟩))
    refine ⟨rfl, ?_⟩
    rw [hD.out]
    exact .inr ⟨9, by decide, rfl, rfl, hU4⟩
  · have hbz := Lib.hid (decide_eq_false h2)
    have hD : Hid (rollbackD R A (xf, xg, xb) = (withoutB R (xf, xg, xb), A, 0, 0)) := Lib.hid (by unfold rollbackD; rw [hI.out]; simp only [List.getD_eq_getElem?_getD, List.getElem?_eq_getElem hk, Option.getD_some]; rw [hy0, if_neg (fun h => h h4), if_neg h2])
    clear h2 hy0 h4
    go_enter Try.func87, Try.ntmps87
    go_wp2_with (first | (go_at_call 54; (with_reducible refine (trow_yes _ tb g R.length cap av R (xf, xg, xb) k t1 (hO1.slc brEnc_len) hr'.out hLR hk hex.out).mono ?_); rintro e w2 ⟨rfl, hB2⟩; have t2 := t1.pure hB2; have x2 := x1.pure hB2; have hO2 := hO1.pure hB2; have hA2 := hA1.pure hB2; have hU2 := hU1.trans (Upd.of_below hB2) (fun _ h _ => h); have c2t0 := t2.at 0 rfl; have c2t1 := t2.at 1 rfl; have c2x0 := x2.at 0 rfl; have c2x1 := x2.at 1 rfl; have c2x2 := x2.at 2 rfl; obtain ⟨r20, r21, r22, r23, r24, r25, r26⟩ := br_cells (hO2.slc brEnc_len) hk; simp only [Nat.zero_add] at r20 r21 r22 r23 r24 r25 r26) | (go_at_call 80; (with_reducible refine (decided2 _ R[k] _ false hy.out hv.out).mono ?_); rintro e w3 ⟨rfl, hB3⟩; have t3 := t2.pure hB3; have x3 := x2.pure hB3; have hO3 := hO2.pure hB3; have hA3 := hA2.pure hB3; have hU3 := hU2.trans (Upd.of_below hB3) (fun _ h _ => h); have c3t0 := t3.at 0 rfl; have c3t1 := t3.at 1 rfl; have c3x0 := x3.at 0 rfl; have c3x1 := x3.at 1 rfl; have c3x2 := x3.at 2 rfl) | (go_at_call 81; (with_reducible refine (tbusy2 _ tb _ av A (xf, xg, xb) false t3 (hA3.slc ascEnc_len) hLA hbz.out).mono ?_); rintro e w4 ⟨rfl, hB4⟩; have t4 := t3.pure hB4; have x4 := x3.pure hB4; have hO4 := hO3.pure hB4; have hA4 := hA3.pure hB4; have hU4 := hU3.trans (Upd.of_below hB4) (fun _ h _ => h); have c4t0 := t4.at 0 rfl; have c4t1 := t4.at 1 rfl; have c4x0 := x4.at 0 rfl; have c4x1 := x4.at 1 rfl; have c4x2 := x4.at 2 rfl) | (go_at_call 50; (with_reducible refine (must_ok _ _).mono ?_); rintro e _ ⟨rfl, rfl⟩) | (go_at_call 82; (with_reducible refine (tgone _ tb (.slice (some ⟨g, 0, none⟩) R.length cap) av R (xf, xg, xb) t4 hO4 hr'.out hLR hrt).mono ?_); rintro e w5 ⟨r5, rfl, t5, hO5, hrb5, hUg5⟩; have hne5 : ∀ k, (k = tb ∨ some g = some k) → False ∨ s + 5 ≤ k := fun k h => (by rcases h with h | h; exact .inr (by omega); (injection h with h; exact .inr (by omega))); have hU5 := hU4.trans (hUg5.mono (fun k h _ => hne5 k h)) (fun _ h _ => h); have hA5 := hA4.upd hUg5 (fun k hk e => (by rcases e with e | e; exact hat (by rw [hk, e]); exact hap k e hk)); have x5 := x4.upd hUg5 (fun e => (by rcases hne5 _ e with h | h; exact h; omega)); obtain ⟨ga5, gc5, rfl⟩ := own_len hO5; have c5t0 := t5.at 0 rfl; have c5t1 := t5.at 1 rfl; have c5x0 := x5.at 0 rfl; have c5x1 := x5.at 1 rfl; have c5x2 := x5.at 2 rfl))
    (first | go_ret | go_ret2)
    rw [hD.out]
    exact .inl ⟨_, _, rfl, rfl, t5, hO5, hA5, hU5, trivial⟩

set_option maxRecDepth 100000 in
set_option maxHeartbeats 3200000 in
theorem forget_do (s : Nat) (w1 : World) (tb : Nat) (rv av : Value) (R : List Brn) (A : List Asc) (xb1 : Nat) (x : Xid) (hx1 : Blk w1 xb1 (xidC x)) (hxs : xb1 < s) (hpre : DoPre s w1 tb rv av R A) (hr : RisesB R) (hLR : R.length ≤ 1000000) (hLA : A.length ≤ 1000000) :
    Calls Try.prog 88 #[.pointer (some ⟨tb, 0, none⟩), .pointer (some ⟨xb1, 0, none⟩)] w1 (DoPost s tb (forgetD R A x) (fun _ => False) (fun _ => True) w1) := by
  obtain ⟨hroom, t1, hhigh, hO1, hA1, hrt, hat, hap⟩ := hpre
  have hU1 := Upd.refl (fun k => False ∨ s + 5 ≤ k) w1
  have hr' := Lib.hid hr
  obtain ⟨xf, xg, xb⟩ := x
  have x1 : Blk w1 xb1 [.int .u32 xf, .string xg, .string xb] := hx1
  clear hx1
  have c1t0 := t1.at 0 rfl
  have c1t1 := t1.at 1 rfl
  have c1x0 := x1.at 0 rfl
  have c1x1 := x1.at 1 rfl
  have c1x2 := x1.at 2 rfl
  rcases Classical.em (MemB R (xf, xg, xb)) with hm | hm
  rotate_left 1
  · have hn := Lib.hid hm
    have hD : Hid (forgetD R A (xf, xg, xb) = errR 7) := Lib.hid (by unfold forgetD; rw [idxB_no hm])
    clear hm hr
    go_enter Try.func88, Try.ntmps88
    go_wp2_with (first | (go_at_call 54; (with_reducible refine (trow_no _ tb rv av R (xf, xg, xb) t1 (hO1.slc brEnc_len) hr'.out hLR hn.out).mono ?_); rintro e w2 ⟨rfl, hB2⟩; have hU2 := hU1.trans (Upd.of_below hB2) (fun _ h _ => h)))
    refine ⟨rfl, ?_⟩
    rw [hD.out]
    exact .inr ⟨7, by decide, rfl, rfl, hU2⟩
  obtain ⟨k, hk, hex0⟩ := hm
  obtain ⟨g, cap, rfl, hg1, hg2⟩ := hO1.shape (fun e => by rw [e] at hk; simp at hk)
  have hrt2 : g ≠ tb := fun e => hrt (by simp [Value.ownBlock, e])
  have hI := Lib.hid (idxB_yes hr hk hex0)
  have hex := Lib.hid hex0
  clear hr hex0
  obtain ⟨y, hy0⟩ : ∃ y, answerD R[k].st = y := ⟨_, rfl⟩
  have hy := Lib.hid hy0
  by_cases h4 : y = 0
  rotate_left 1
  · have hv := Lib.hid (show decide (y ≠ 0) = true from decide_eq_true h4)
    have hD : Hid (forgetD R A (xf, xg, xb) = (withoutB R (xf, xg, xb), A, 0, 0)) := Lib.hid (by unfold forgetD; rw [hI.out]; simp only [List.getD_eq_getElem?_getD, List.getElem?_eq_getElem hk, Option.getD_some]; rw [hy0, if_pos h4])
    clear hy0 h4
    go_enter Try.func88, Try.ntmps88
    go_wp2_with (first | (go_at_call 54; (with_reducible refine (trow_yes _ tb g R.length cap av R (xf, xg, xb) k t1 (hO1.slc brEnc_len) hr'.out hLR hk hex.out).mono ?_); rintro e w2 ⟨rfl, hB2⟩; have t2 := t1.pure hB2; have x2 := x1.pure hB2; have hO2 := hO1.pure hB2; have hA2 := hA1.pure hB2; have hU2 := hU1.trans (Upd.of_below hB2) (fun _ h _ => h); have c2t0 := t2.at 0 rfl; have c2t1 := t2.at 1 rfl; have c2x0 := x2.at 0 rfl; have c2x1 := x2.at 1 rfl; have c2x2 := x2.at 2 rfl; obtain ⟨r20, r21, r22, r23, r24, r25, r26⟩ := br_cells (hO2.slc brEnc_len) hk; simp only [Nat.zero_add] at r20 r21 r22 r23 r24 r25 r26) | (go_at_call 80; (with_reducible refine (decided2 _ R[k] _ true hy.out hv.out).mono ?_); rintro e w3 ⟨rfl, hB3⟩; have t3 := t2.pure hB3; have x3 := x2.pure hB3; have hO3 := hO2.pure hB3; have hA3 := hA2.pure hB3; have hU3 := hU2.trans (Upd.of_below hB3) (fun _ h _ => h); have c3t0 := t3.at 0 rfl; have c3t1 := t3.at 1 rfl; have c3x0 := x3.at 0 rfl; have c3x1 := x3.at 1 rfl; have c3x2 := x3.at 2 rfl) | (go_at_call 50; (with_reducible refine (must_ok _ _).mono ?_); rintro e _ ⟨rfl, rfl⟩) | (go_at_call 82; (with_reducible refine (tgone _ tb (.slice (some ⟨g, 0, none⟩) R.length cap) av R (xf, xg, xb) t3 hO3 hr'.out hLR hrt).mono ?_); rintro e w4 ⟨r4, rfl, t4, hO4, hrb4, hUg4⟩; have hne4 : ∀ k, (k = tb ∨ some g = some k) → False ∨ s + 5 ≤ k := fun k h => (by rcases h with h | h; exact .inr (by omega); (injection h with h; exact .inr (by omega))); have hU4 := hU3.trans (hUg4.mono (fun k h _ => hne4 k h)) (fun _ h _ => h); have hA4 := hA3.upd hUg4 (fun k hk e => (by rcases e with e | e; exact hat (by rw [hk, e]); exact hap k e hk)); have x4 := x3.upd hUg4 (fun e => (by rcases hne4 _ e with h | h; exact h; omega)); obtain ⟨ga4, gc4, rfl⟩ := own_len hO4; have c4t0 := t4.at 0 rfl; have c4t1 := t4.at 1 rfl; have c4x0 := x4.at 0 rfl; have c4x1 := x4.at 1 rfl; have c4x2 := x4.at 2 rfl))
    (first | go_ret | go_ret2)
    rw [hD.out]
    exact .inl ⟨_, _, rfl, rfl, t4, hO4, hA4, hU4, trivial⟩
  have hv := Lib.hid (show decide (y ≠ 0) = false from decide_eq_false (fun h => h h4))
  have hD : Hid (forgetD R A (xf, xg, xb) = errR 9) := Lib.hid (by unfold forgetD; rw [hI.out]; simp only [List.getD_eq_getElem?_getD, List.getElem?_eq_getElem hk, Option.getD_some]; rw [hy0, if_neg (fun h => h h4)])
  clear hy0 h4
  go_enter Try.func88, Try.ntmps88
  go_wp2_with (first | (go_at_call 54; (with_reducible refine (trow_yes _ tb g R.length cap av R (xf, xg, xb) k t1 (hO1.slc brEnc_len) hr'.out hLR hk hex.out).mono ?_); rintro e w2 ⟨rfl, hB2⟩; have t2 := t1.pure hB2; have x2 := x1.pure hB2; have hO2 := hO1.pure hB2; have hA2 := hA1.pure hB2; have hU2 := hU1.trans (Upd.of_below hB2) (fun _ h _ => h); have c2t0 := t2.at 0 rfl; have c2t1 := t2.at 1 rfl; have c2x0 := x2.at 0 rfl; have c2x1 := x2.at 1 rfl; have c2x2 := x2.at 2 rfl; obtain ⟨r20, r21, r22, r23, r24, r25, r26⟩ := br_cells (hO2.slc brEnc_len) hk; simp only [Nat.zero_add] at r20 r21 r22 r23 r24 r25 r26) | (go_at_call 80; (with_reducible refine (decided2 _ R[k] _ false hy.out hv.out).mono ?_); rintro e w3 ⟨rfl, hB3⟩; have t3 := t2.pure hB3; have x3 := x2.pure hB3; have hO3 := hO2.pure hB3; have hA3 := hA2.pure hB3; have hU3 := hU2.trans (Upd.of_below hB3) (fun _ h _ => h); have c3t0 := t3.at 0 rfl; have c3t1 := t3.at 1 rfl; have c3x0 := x3.at 0 rfl; have c3x1 := x3.at 1 rfl; have c3x2 := x3.at 2 rfl) | (go_at_call 50; (with_reducible refine (must_no _ _).mono ?_); rintro e _ ⟨rfl, rfl⟩))
  refine ⟨rfl, ?_⟩
  rw [hD.out]
  exact .inr ⟨9, by decide, rfl, rfl, hU3⟩
end Go.Proofs.Ytcelpincmpjhkaa
