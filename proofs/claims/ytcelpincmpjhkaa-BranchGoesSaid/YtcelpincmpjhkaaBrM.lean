/- The closures of Prepare, Decide, Spoil, SetTimeout. Conditions: what on hands them. Written by gen_brM.py. -/
import Derived.Test.YtcelpincmpjhkaaHJ
import Derived.Test.YtcelpincmpjhkaaHE
namespace Go.Proofs.Ytcelpincmpjhkaa
set_option linter.unusedSimpArgs false
set_option linter.unusedVariables false
open Go.RowKit


theorem tbusy2 (w : World) (tb : Nat) (rv av : Value) (A : List Asc) (x : Xid) (v : Bool) (hT : Blk w tb [rv, av]) (hA : Slc ascEnc 5 w av A) (hL : A.length ≤ 1000000) (hv : decide (0 < cntA A x) = v) :
    Calls Try.prog 81 #[.pointer (some ⟨tb, 0, none⟩), .agg #[.int .u32 x.1, .string x.2.1, .string x.2.2]] w fun e w' => e = .returned (.bool v) ∧ Below w.heap.size w w' := by
  rw [← hv]; exact tbusy w tb rv av A x hT hA hL
theorem decided2 (w : World) (b : Brn) (y : Int) (v : Bool) (hy : answerD b.st = y) (hv : decide (y ≠ 0) = v) :
    Calls Try.prog 80 #[.agg #[.int .u32 b.x.1, .string b.x.2.1, .string b.x.2.2, .int .u8 b.st, .int .u8 b.why, .int .u32 b.tm, .int .u32 b.lf]] w fun e w' => e = .returned (.tuple #[.int .u8 y, .bool v]) ∧ Below w.heap.size w w' := by
  rw [← hv, ← hy]; exact decided_any w b


set_option maxRecDepth 100000 in
set_option maxHeartbeats 3200000 in
theorem prep_do (s : Nat) (w1 : World) (tb : Nat) (rv av : Value) (R : List Brn) (A : List Asc) (xb1 : Nat) (x : Xid) (hx1 : Blk w1 xb1 (xidC x)) (hxs : xb1 < s) (yb : Nat) (empty : Bool) (y1 : Blk w1 yb [.bool empty]) (hys : yb < s) (hpre : DoPre s w1 tb rv av R A) (hr : RisesB R) (hLR : R.length ≤ 1000000) (hLA : A.length ≤ 1000000) :
    Calls Try.prog 83 #[.pointer (some ⟨tb, 0, none⟩), .pointer (some ⟨xb1, 0, none⟩), .pointer (some ⟨yb, 0, none⟩)] w1 (DoPost s tb (prepareD R A x empty) (fun _ => False) (fun _ => True) w1) := by
  obtain ⟨hroom, t1, hhigh, hO1, hA1, hrt, hat, hap⟩ := hpre
  have hU1 := Upd.refl (fun k => False ∨ s + 5 ≤ k) w1
  have hr' := Lib.hid hr
  obtain ⟨xf, xg, xb⟩ := x
  have x1 : Blk w1 xb1 [.int .u32 xf, .string xg, .string xb] := hx1
  clear hx1
  have c1t0 := t1.at 0 rfl
  have c1t1 := t1.at 1 rfl
  have c1x0 := x1.at 0 rfl
  have c1x1 := x1.at 1 rfl
  have c1x2 := x1.at 2 rfl
  have c1y := y1.at 0 rfl
  rcases Classical.em (MemB R (xf, xg, xb)) with hm | hm
  rotate_left 1
  · have hn := Lib.hid hm
    have hD : Hid (prepareD R A (xf, xg, xb) empty = errR 7) := Lib.hid (by unfold prepareD; rw [idxB_no hm])
    clear hm hr
    go_enter Try.func83, Try.ntmps83
    go_wp2_with (first | (go_at_call 54; (with_reducible refine (trow_no _ tb rv av R (xf, xg, xb) t1 (hO1.slc brEnc_len) hr'.out hLR hn.out).mono ?_); rintro e w2 ⟨rfl, hB2⟩; have hU2 := hU1.trans (Upd.of_below hB2) (fun _ h _ => h)))
    refine ⟨rfl, ?_⟩
    rw [hD.out]
    exact .inr ⟨7, by decide, rfl, rfl, hU2⟩
  obtain ⟨k, hk, hex0⟩ := hm
  obtain ⟨g, cap, rfl, hg1, hg2⟩ := hO1.shape (fun e => by rw [e] at hk; simp at hk)
  have hrt2 : g ≠ tb := fun e => hrt (by simp [Value.ownBlock, e])
  have hI := Lib.hid (idxB_yes hr hk hex0)
  have hex := Lib.hid hex0
  clear hr hex0
  by_cases h1 : R[k].st = 1
  rotate_left 1
  · have hsb : (R[k].st == 1) = false := beq_eq_false_iff_ne.2 h1
    have hD : Hid (prepareD R A (xf, xg, xb) empty = errR 9) := Lib.hid (by unfold prepareD; rw [hI.out]; simp only [List.getD_eq_getElem?_getD, List.getElem?_eq_getElem hk, Option.getD_some]; rw [if_pos (Or.inl h1)])
    clear h1
    go_enter Try.func83, Try.ntmps83
    go_wp2_with (first | (go_at_call 54; (with_reducible refine (trow_yes _ tb g R.length cap av R (xf, xg, xb) k t1 (hO1.slc brEnc_len) hr'.out hLR hk hex.out).mono ?_); rintro e w2 ⟨rfl, hB2⟩; have t2 := t1.pure hB2; have x2 := x1.pure hB2; have y2 := y1.pure hB2; have hO2 := hO1.pure hB2; have hA2 := hA1.pure hB2; have hU2 := hU1.trans (Upd.of_below hB2) (fun _ h _ => h); have c2t0 := t2.at 0 rfl; have c2t1 := t2.at 1 rfl; have c2x0 := x2.at 0 rfl; have c2x1 := x2.at 1 rfl; have c2x2 := x2.at 2 rfl; have c2y := y2.at 0 rfl; obtain ⟨r20, r21, r22, r23, r24, r25, r26⟩ := br_cells (hO2.slc brEnc_len) hk; simp only [Nat.zero_add] at r20 r21 r22 r23 r24 r25 r26) | (go_at_call 50; (with_reducible refine (must_no _ _).mono ?_); rintro e _ ⟨rfl, rfl⟩))
    refine ⟨rfl, ?_⟩
    rw [hD.out]
    exact .inr ⟨9, by decide, rfl, rfl, hU2⟩
  have hsb : (R[k].st == 1) = true := by rw [h1]; rfl
  by_cases h2 : 0 < cntA A (xf, xg, xb)
  · have hbz := Lib.hid (decide_eq_true h2)
    have hD : Hid (prepareD R A (xf, xg, xb) empty = errR 9) := Lib.hid (by unfold prepareD; rw [hI.out]; simp only [List.getD_eq_getElem?_getD, List.getElem?_eq_getElem hk, Option.getD_some]; rw [if_pos (Or.inr h2)])
    clear h1 h2
    go_enter Try.func83, Try.ntmps83
    go_wp2_with (first | (go_at_call 54; (with_reducible refine (trow_yes _ tb g R.length cap av R (xf, xg, xb) k t1 (hO1.slc brEnc_len) hr'.out hLR hk hex.out).mono ?_); rintro e w2 ⟨rfl, hB2⟩; have t2 := t1.pure hB2; have x2 := x1.pure hB2; have y2 := y1.pure hB2; have hO2 := hO1.pure hB2; have hA2 := hA1.pure hB2; have hU2 := hU1.trans (Upd.of_below hB2) (fun _ h _ => h); have c2t0 := t2.at 0 rfl; have c2t1 := t2.at 1 rfl; have c2x0 := x2.at 0 rfl; have c2x1 := x2.at 1 rfl; have c2x2 := x2.at 2 rfl; have c2y := y2.at 0 rfl; obtain ⟨r20, r21, r22, r23, r24, r25, r26⟩ := br_cells (hO2.slc brEnc_len) hk; simp only [Nat.zero_add] at r20 r21 r22 r23 r24 r25 r26) | (go_at_call 81; (with_reducible refine (tbusy2 _ tb _ av A (xf, xg, xb) true t2 (hA2.slc ascEnc_len) hLA hbz.out).mono ?_); rintro e w3 ⟨rfl, hB3⟩; have t3 := t2.pure hB3; have x3 := x2.pure hB3; have y3 := y2.pure hB3; have hO3 := hO2.pure hB3; have hA3 := hA2.pure hB3; have hU3 := hU2.trans (Upd.of_below hB3) (fun _ h _ => h); have c3t0 := t3.at 0 rfl; have c3t1 := t3.at 1 rfl; have c3x0 := x3.at 0 rfl; have c3x1 := x3.at 1 rfl; have c3x2 := x3.at 2 rfl; have c3y := y3.at 0 rfl; obtain ⟨r30, r31, r32, r33, r34, r35, r36⟩ := br_cells (hO3.slc brEnc_len) hk; simp only [Nat.zero_add] at r30 r31 r32 r33 r34 r35 r36) | (go_at_call 50; (with_reducible refine (must_no _ _).mono ?_); rintro e _ ⟨rfl, rfl⟩))
    refine ⟨rfl, ?_⟩
    rw [hD.out]
    exact .inr ⟨9, by decide, rfl, rfl, hU3⟩
  have hbz := Lib.hid (decide_eq_false h2)
  have h12 : ¬ (R[k].st ≠ 1 ∨ cntA A (xf, xg, xb) > 0) := fun h => h.elim (fun h => h h1) h2
  by_cases h3 : R[k].why = 0
  rotate_left 1
  · have hwb : (R[k].why != 0) = true := bne_iff_ne.2 h3
    have hD : Hid (prepareD R A (xf, xg, xb) empty = (withoutB R (xf, xg, xb), A, R[k].why, 0)) := Lib.hid (by unfold prepareD; rw [hI.out]; simp only [List.getD_eq_getElem?_getD, List.getElem?_eq_getElem hk, Option.getD_some]; rw [if_neg h12, if_pos h3])
    clear h1 h2 h12 h3
    go_enter Try.func83, Try.ntmps83
    go_wp2_with (first | (go_at_call 54; (with_reducible refine (trow_yes _ tb g R.length cap av R (xf, xg, xb) k t1 (hO1.slc brEnc_len) hr'.out hLR hk hex.out).mono ?_); rintro e w2 ⟨rfl, hB2⟩; have t2 := t1.pure hB2; have x2 := x1.pure hB2; have y2 := y1.pure hB2; have hO2 := hO1.pure hB2; have hA2 := hA1.pure hB2; have hU2 := hU1.trans (Upd.of_below hB2) (fun _ h _ => h); have c2t0 := t2.at 0 rfl; have c2t1 := t2.at 1 rfl; have c2x0 := x2.at 0 rfl; have c2x1 := x2.at 1 rfl; have c2x2 := x2.at 2 rfl; have c2y := y2.at 0 rfl; obtain ⟨r20, r21, r22, r23, r24, r25, r26⟩ := br_cells (hO2.slc brEnc_len) hk; simp only [Nat.zero_add] at r20 r21 r22 r23 r24 r25 r26) | (go_at_call 81; (with_reducible refine (tbusy2 _ tb _ av A (xf, xg, xb) false t2 (hA2.slc ascEnc_len) hLA hbz.out).mono ?_); rintro e w3 ⟨rfl, hB3⟩; have t3 := t2.pure hB3; have x3 := x2.pure hB3; have y3 := y2.pure hB3; have hO3 := hO2.pure hB3; have hA3 := hA2.pure hB3; have hU3 := hU2.trans (Upd.of_below hB3) (fun _ h _ => h); have c3t0 := t3.at 0 rfl; have c3t1 := t3.at 1 rfl; have c3x0 := x3.at 0 rfl; have c3x1 := x3.at 1 rfl; have c3x2 := x3.at 2 rfl; have c3y := y3.at 0 rfl; obtain ⟨r30, r31, r32, r33, r34, r35, r36⟩ := br_cells (hO3.slc brEnc_len) hk; simp only [Nat.zero_add] at r30 r31 r32 r33 r34 r35 r36) | (go_at_call 50; (with_reducible refine (must_ok _ _).mono ?_); rintro e _ ⟨rfl, rfl⟩) | (go_at_call 82; (with_reducible refine (tgone _ tb (.slice (some ⟨g, 0, none⟩) R.length cap) av R (xf, xg, xb) t3 hO3 hr'.out hLR hrt).mono ?_); rintro e w4 ⟨r4, rfl, t4, hO4, hrb4, hUg4⟩; have hne4 : ∀ k, (k = tb ∨ some g = some k) → False ∨ s + 5 ≤ k := fun k h => (by rcases h with h | h; exact .inr (by omega); (injection h with h; exact .inr (by omega))); have hU4 := hU3.trans (hUg4.mono (fun k h _ => hne4 k h)) (fun _ h _ => h); have hA4 := hA3.upd hUg4 (fun k hk e => (by rcases e with e | e; exact hat (by rw [hk, e]); exact hap k e hk)); have x4 := x3.upd hUg4 (fun e => (by rcases hne4 _ e with h | h; exact h; omega)); have y4 := y3.upd hUg4 (fun e => (by rcases hne4 _ e with h | h; exact h; omega)); obtain ⟨ga4, gc4, rfl⟩ := own_len hO4; have c4t0 := t4.at 0 rfl; have c4t1 := t4.at 1 rfl; have c4x0 := x4.at 0 rfl; have c4x1 := x4.at 1 rfl; have c4x2 := x4.at 2 rfl; have c4y := y4.at 0 rfl))
    (first | go_ret | go_ret2)
    rw [hD.out]
    exact .inl ⟨_, _, rfl, rfl, t4, hO4, hA4, hU4, trivial⟩
  have hwb : (R[k].why != 0) = false := by rw [h3]; rfl
  cases empty
  rotate_left 1
  · have hdum := True.intro
    have hD : Hid (prepareD R A (xf, xg, xb) true = (withoutB R (xf, xg, xb), A, 7, 0)) := Lib.hid (by unfold prepareD; rw [hI.out]; simp only [List.getD_eq_getElem?_getD, List.getElem?_eq_getElem hk, Option.getD_some]; rw [if_neg h12, if_neg (fun h => h h3)]; simp)
    clear h1 h2 h12 h3
    go_enter Try.func83, Try.ntmps83
    go_wp2_with (first | (go_at_call 54; (with_reducible refine (trow_yes _ tb g R.length cap av R (xf, xg, xb) k t1 (hO1.slc brEnc_len) hr'.out hLR hk hex.out).mono ?_); rintro e w2 ⟨rfl, hB2⟩; have t2 := t1.pure hB2; have x2 := x1.pure hB2; have y2 := y1.pure hB2; have hO2 := hO1.pure hB2; have hA2 := hA1.pure hB2; have hU2 := hU1.trans (Upd.of_below hB2) (fun _ h _ => h); have c2t0 := t2.at 0 rfl; have c2t1 := t2.at 1 rfl; have c2x0 := x2.at 0 rfl; have c2x1 := x2.at 1 rfl; have c2x2 := x2.at 2 rfl; have c2y := y2.at 0 rfl; obtain ⟨r20, r21, r22, r23, r24, r25, r26⟩ := br_cells (hO2.slc brEnc_len) hk; simp only [Nat.zero_add] at r20 r21 r22 r23 r24 r25 r26) | (go_at_call 81; (with_reducible refine (tbusy2 _ tb _ av A (xf, xg, xb) false t2 (hA2.slc ascEnc_len) hLA hbz.out).mono ?_); rintro e w3 ⟨rfl, hB3⟩; have t3 := t2.pure hB3; have x3 := x2.pure hB3; have y3 := y2.pure hB3; have hO3 := hO2.pure hB3; have hA3 := hA2.pure hB3; have hU3 := hU2.trans (Upd.of_below hB3) (fun _ h _ => h); have c3t0 := t3.at 0 rfl; have c3t1 := t3.at 1 rfl; have c3x0 := x3.at 0 rfl; have c3x1 := x3.at 1 rfl; have c3x2 := x3.at 2 rfl; have c3y := y3.at 0 rfl; obtain ⟨r30, r31, r32, r33, r34, r35, r36⟩ := br_cells (hO3.slc brEnc_len) hk; simp only [Nat.zero_add] at r30 r31 r32 r33 r34 r35 r36) | (go_at_call 50; (with_reducible refine (must_ok _ _).mono ?_); rintro e _ ⟨rfl, rfl⟩) | (go_at_call 82; (with_reducible refine (tgone _ tb (.slice (some ⟨g, 0, none⟩) R.length cap) av R (xf, xg, xb) t3 hO3 hr'.out hLR hrt).mono ?_); rintro e w4 ⟨r4, rfl, t4, hO4, hrb4, hUg4⟩; have hne4 : ∀ k, (k = tb ∨ some g = some k) → False ∨ s + 5 ≤ k := fun k h => (by rcases h with h | h; exact .inr (by omega); (injection h with h; exact .inr (by omega))); have hU4 := hU3.trans (hUg4.mono (fun k h _ => hne4 k h)) (fun _ h _ => h); have hA4 := hA3.upd hUg4 (fun k hk e => (by rcases e with e | e; exact hat (by rw [hk, e]); exact hap k e hk)); have x4 := x3.upd hUg4 (fun e => (by rcases hne4 _ e with h | h; exact h; omega)); have y4 := y3.upd hUg4 (fun e => (by rcases hne4 _ e with h | h; exact h; omega)); obtain ⟨ga4, gc4, rfl⟩ := own_len hO4; have c4t0 := t4.at 0 rfl; have c4t1 := t4.at 1 rfl; have c4x0 := x4.at 0 rfl; have c4x1 := x4.at 1 rfl; have c4x2 := x4.at 2 rfl; have c4y := y4.at 0 rfl))
    (first | go_ret | go_ret2)
    rw [hD.out]
    exact .inl ⟨_, _, rfl, rfl, t4, hO4, hA4, hU4, trivial⟩
  · have hdum := True.intro
    have hD : Hid (prepareD R A (xf, xg, xb) false = (R.set k { R[k] with st := 2, lf := 0 }, A, 0, 0)) := Lib.hid (by unfold prepareD; rw [hI.out]; simp only [List.getD_eq_getElem?_getD, List.getElem?_eq_getElem hk, Option.getD_some]; rw [if_neg h12, if_neg (fun h => h h3), if_neg (by simp)])
    clear h1 h2 h12 h3
    go_enter Try.func83, Try.ntmps83
    go_wp2_with (first | (go_at_call 54; (with_reducible refine (trow_yes _ tb g R.length cap av R (xf, xg, xb) k t1 (hO1.slc brEnc_len) hr'.out hLR hk hex.out).mono ?_); rintro e w2 ⟨rfl, hB2⟩; have t2 := t1.pure hB2; have x2 := x1.pure hB2; have y2 := y1.pure hB2; have hO2 := hO1.pure hB2; have hA2 := hA1.pure hB2; have hU2 := hU1.trans (Upd.of_below hB2) (fun _ h _ => h); have c2t0 := t2.at 0 rfl; have c2t1 := t2.at 1 rfl; have c2x0 := x2.at 0 rfl; have c2x1 := x2.at 1 rfl; have c2x2 := x2.at 2 rfl; have c2y := y2.at 0 rfl; obtain ⟨r20, r21, r22, r23, r24, r25, r26⟩ := br_cells (hO2.slc brEnc_len) hk; simp only [Nat.zero_add] at r20 r21 r22 r23 r24 r25 r26) | (go_at_call 81; (with_reducible refine (tbusy2 _ tb _ av A (xf, xg, xb) false t2 (hA2.slc ascEnc_len) hLA hbz.out).mono ?_); rintro e w3 ⟨rfl, hB3⟩; have t3 := t2.pure hB3; have x3 := x2.pure hB3; have y3 := y2.pure hB3; have hO3 := hO2.pure hB3; have hA3 := hA2.pure hB3; have hU3 := hU2.trans (Upd.of_below hB3) (fun _ h _ => h); have c3t0 := t3.at 0 rfl; have c3t1 := t3.at 1 rfl; have c3x0 := x3.at 0 rfl; have c3x1 := x3.at 1 rfl; have c3x2 := x3.at 2 rfl; have c3y := y3.at 0 rfl; obtain ⟨r30, r31, r32, r33, r34, r35, r36⟩ := br_cells (hO3.slc brEnc_len) hk; simp only [Nat.zero_add] at r30 r31 r32 r33 r34 r35 r36; have z3 := hO3.frozen (k * 7 + 3); have z6 := hO3.frozen (k * 7 + 6); have s1 := Lib.hid (hO3.set brEnc_len k hk 3 (.int .u8 2) { R[k] with st := 2 } (by omega) rfl)) | (go_at_call 50; (with_reducible refine (must_ok _ _).mono ?_); rintro e _ ⟨rfl, rfl⟩))
    go_ret
    rw [hD.out]
    have s2 := s1.out.set brEnc_len k (by simpa using hk) 6 (.int .u32 0) { R[k] with st := 2, lf := 0 } (by omega) (by rw [List.getElem_set_self]; rfl)
    rw [List.set_set] at s2
    have hg5 : s + 5 ≤ g := hg1
    exact .inl ⟨_, _, rfl, rfl, (t3.other _ _ (fun e => hrt2 e.symm)).other _ _ (fun e => hrt2 e.symm), s2, (hA3.other _ _ (fun j hj e => hap g rfl (by rw [hj]; exact congrArg some e))).other _ _ (fun j hj e => hap g rfl (by rw [hj]; exact congrArg some e)), (hU3.trans (Upd.set (S := fun k => False ∨ s + 5 ≤ k) (Or.inr hg5) _) (fun _ h _ => h)).trans (Upd.set (S := fun k => False ∨ s + 5 ≤ k) (Or.inr hg5) _) (fun _ h _ => h), trivial⟩

set_option maxRecDepth 100000 in
set_option maxHeartbeats 3200000 in
theorem decide_do (s : Nat) (w1 : World) (tb : Nat) (rv av : Value) (R : List Brn) (A : List Asc) (xb1 : Nat) (x : Xid) (hx1 : Blk w1 xb1 (xidC x)) (hxs : xb1 < s) (yb : Nat) (commit : Bool) (y1 : Blk w1 yb [.bool commit]) (hys : yb < s) (hpre : DoPre s w1 tb rv av R A) (hr : RisesB R) (hLR : R.length ≤ 1000000) (hLA : A.length ≤ 1000000) :
    Calls Try.prog 89 #[.pointer (some ⟨tb, 0, none⟩), .pointer (some ⟨xb1, 0, none⟩), .pointer (some ⟨yb, 0, none⟩)] w1 (DoPost s tb (decideD R A x commit) (fun _ => False) (fun _ => True) w1) := by
  obtain ⟨hroom, t1, hhigh, hO1, hA1, hrt, hat, hap⟩ := hpre
  have hU1 := Upd.refl (fun k => False ∨ s + 5 ≤ k) w1
  have hr' := Lib.hid hr
  obtain ⟨xf, xg, xb⟩ := x
  have x1 : Blk w1 xb1 [.int .u32 xf, .string xg, .string xb] := hx1
  clear hx1
  have c1t0 := t1.at 0 rfl
  have c1t1 := t1.at 1 rfl
  have c1x0 := x1.at 0 rfl
  have c1x1 := x1.at 1 rfl
  have c1x2 := x1.at 2 rfl
  have c1y := y1.at 0 rfl
  rcases Classical.em (MemB R (xf, xg, xb)) with hm | hm
  rotate_left 1
  · have hn := Lib.hid hm
    have hD : Hid (decideD R A (xf, xg, xb) commit = errR 7) := Lib.hid (by unfold decideD; rw [idxB_no hm])
    clear hm hr
    go_enter Try.func89, Try.ntmps89
    go_wp2_with (first | (go_at_call 54; (with_reducible refine (trow_no _ tb rv av R (xf, xg, xb) t1 (hO1.slc brEnc_len) hr'.out hLR hn.out).mono ?_); rintro e w2 ⟨rfl, hB2⟩; have hU2 := hU1.trans (Upd.of_below hB2) (fun _ h _ => h)))
    refine ⟨rfl, ?_⟩
    rw [hD.out]
    exact .inr ⟨7, by decide, rfl, rfl, hU2⟩
  obtain ⟨k, hk, hex0⟩ := hm
  obtain ⟨g, cap, rfl, hg1, hg2⟩ := hO1.shape (fun e => by rw [e] at hk; simp at hk)
  have hrt2 : g ≠ tb := fun e => hrt (by simp [Value.ownBlock, e])
  have hI := Lib.hid (idxB_yes hr hk hex0)
  have hex := Lib.hid hex0
  clear hr hex0
  by_cases h1 : R[k].st = 2
  rotate_left 1
  · have hsb : (R[k].st == 2) = false := beq_eq_false_iff_ne.2 h1
    have hD : Hid (decideD R A (xf, xg, xb) commit = errR 9) := Lib.hid (by unfold decideD; rw [hI.out]; simp only [List.getD_eq_getElem?_getD, List.getElem?_eq_getElem hk, Option.getD_some]; rw [if_neg h1])
    clear h1
    go_enter Try.func89, Try.ntmps89
    go_wp2_with (first | (go_at_call 54; (with_reducible refine (trow_yes _ tb g R.length cap av R (xf, xg, xb) k t1 (hO1.slc brEnc_len) hr'.out hLR hk hex.out).mono ?_); rintro e w2 ⟨rfl, hB2⟩; have t2 := t1.pure hB2; have x2 := x1.pure hB2; have y2 := y1.pure hB2; have hO2 := hO1.pure hB2; have hA2 := hA1.pure hB2; have hU2 := hU1.trans (Upd.of_below hB2) (fun _ h _ => h); have c2t0 := t2.at 0 rfl; have c2t1 := t2.at 1 rfl; have c2x0 := x2.at 0 rfl; have c2x1 := x2.at 1 rfl; have c2x2 := x2.at 2 rfl; have c2y := y2.at 0 rfl; obtain ⟨r20, r21, r22, r23, r24, r25, r26⟩ := br_cells (hO2.slc brEnc_len) hk; simp only [Nat.zero_add] at r20 r21 r22 r23 r24 r25 r26) | (go_at_call 50; (with_reducible refine (must_no _ _).mono ?_); rintro e _ ⟨rfl, rfl⟩))
    refine ⟨rfl, ?_⟩
    rw [hD.out]
    exact .inr ⟨9, by decide, rfl, rfl, hU2⟩
  have hsb : (R[k].st == 2) = true := by rw [h1]; rfl
  cases commit
  · have hdum := True.intro
    have hD : Hid (decideD R A (xf, xg, xb) false = (R.set k { R[k] with st := 4 }, A, 0, 0)) := Lib.hid (by unfold decideD; rw [hI.out]; simp only [List.getD_eq_getElem?_getD, List.getElem?_eq_getElem hk, Option.getD_some]; rw [if_pos h1]; simp)
    clear h1
    go_enter Try.func89, Try.ntmps89
    go_wp2_with (first | (go_at_call 54; (with_reducible refine (trow_yes _ tb g R.length cap av R (xf, xg, xb) k t1 (hO1.slc brEnc_len) hr'.out hLR hk hex.out).mono ?_); rintro e w2 ⟨rfl, hB2⟩; have t2 := t1.pure hB2; have x2 := x1.pure hB2; have y2 := y1.pure hB2; have hO2 := hO1.pure hB2; have hA2 := hA1.pure hB2; have hU2 := hU1.trans (Upd.of_below hB2) (fun _ h _ => h); have c2t0 := t2.at 0 rfl; have c2t1 := t2.at 1 rfl; have c2x0 := x2.at 0 rfl; have c2x1 := x2.at 1 rfl; have c2x2 := x2.at 2 rfl; have c2y := y2.at 0 rfl; obtain ⟨r20, r21, r22, r23, r24, r25, r26⟩ := br_cells (hO2.slc brEnc_len) hk; simp only [Nat.zero_add] at r20 r21 r22 r23 r24 r25 r26; have z3 := hO2.frozen (k * 7 + 3); have y3 := (y2.other ⟨g, k * 7 + 3, none⟩ (.int .u8 4) (by simp only; omega)).at 0 rfl; have s1 := Lib.hid (hO2.set brEnc_len k hk 3 (.int .u8 4) { R[k] with st := 4 } (by omega) rfl)) | (go_at_call 50; (with_reducible refine (must_ok _ _).mono ?_); rintro e _ ⟨rfl, rfl⟩))
    (first | go_ret | go_ret2)
    rw [hD.out]
    have s1 := hO2.set brEnc_len k hk 3 (.int .u8 4) { R[k] with st := 4 } (by omega) rfl
    exact .inl ⟨_, _, rfl, rfl, (t2.other _ _ (fun e => hrt2 e.symm)), s1, (hA2.other _ _ (fun j hj e => hap g rfl (by rw [hj]; exact congrArg some e))), (hU2.trans (Upd.set (S := fun k => False ∨ s + 5 ≤ k) (Or.inr hg1) _) (fun _ h _ => h)), trivial⟩
  · have hdum := True.intro
    have hD : Hid (decideD R A (xf, xg, xb) true = (R.set k { R[k] with st := 3 }, A, 0, 0)) := Lib.hid (by unfold decideD; rw [hI.out]; simp only [List.getD_eq_getElem?_getD, List.getElem?_eq_getElem hk, Option.getD_some]; rw [if_pos h1]; simp)
    clear h1
    go_enter Try.func89, Try.ntmps89
    go_wp2_with (first | (go_at_call 54; (with_reducible refine (trow_yes _ tb g R.length cap av R (xf, xg, xb) k t1 (hO1.slc brEnc_len) hr'.out hLR hk hex.out).mono ?_); rintro e w2 ⟨rfl, hB2⟩; have t2 := t1.pure hB2; have x2 := x1.pure hB2; have y2 := y1.pure hB2; have hO2 := hO1.pure hB2; have hA2 := hA1.pure hB2; have hU2 := hU1.trans (Upd.of_below hB2) (fun _ h _ => h); have c2t0 := t2.at 0 rfl; have c2t1 := t2.at 1 rfl; have c2x0 := x2.at 0 rfl; have c2x1 := x2.at 1 rfl; have c2x2 := x2.at 2 rfl; have c2y := y2.at 0 rfl; obtain ⟨r20, r21, r22, r23, r24, r25, r26⟩ := br_cells (hO2.slc brEnc_len) hk; simp only [Nat.zero_add] at r20 r21 r22 r23 r24 r25 r26; have z3 := hO2.frozen (k * 7 + 3); have y3 := (y2.other ⟨g, k * 7 + 3, none⟩ (.int .u8 4) (by simp only; omega)).at 0 rfl; have s1 := Lib.hid (hO2.set brEnc_len k hk 3 (.int .u8 4) { R[k] with st := 4 } (by omega) rfl)) | (go_at_call 50; (with_reducible refine (must_ok _ _).mono ?_); rintro e _ ⟨rfl, rfl⟩))
    (first | go_ret | go_ret2)
    rw [hD.out]
    have s1 := hO2.set brEnc_len k hk 3 (.int .u8 4) { R[k] with st := 4 } (by omega) rfl
    have s2 := s1.set brEnc_len k (by simpa using hk) 3 (.int .u8 3) { R[k] with st := 3 } (by omega) (by rw [List.getElem_set_self]; rfl)
    rw [List.set_set] at s2
    exact .inl ⟨_, _, rfl, rfl, ((t2.other _ _ (fun e => hrt2 e.symm)).other _ _ (fun e => hrt2 e.symm)), s2, ((hA2.other _ _ (fun j hj e => hap g rfl (by rw [hj]; exact congrArg some e))).other _ _ (fun j hj e => hap g rfl (by rw [hj]; exact congrArg some e))), ((hU2.trans (Upd.set (S := fun k => False ∨ s + 5 ≤ k) (Or.inr hg1) _) (fun _ h _ => h)).trans (Upd.set (S := fun k => False ∨ s + 5 ≤ k) (Or.inr hg1) _) (fun _ h _ => h)), trivial⟩
end Go.Proofs.Ytcelpincmpjhkaa
