/- The closure of End. Conditions: what on hands it. Written by gen_brM.py. -/
import Derived.Test.YtcelpincmpjhkaaBrM
import Derived.Test.YtcelpincmpjhkaaBrN
namespace Go.Proofs.Ytcelpincmpjhkaa
set_option linter.unusedSimpArgs false
set_option linter.unusedVariables false
open Go.RowKit

theorem mayN_row {A : List Asc} {s : Int} {x : Xid} (h : mayN A s x = 0) : RowA A := by
  rcases rowE_cases A with ⟨h1, h2⟩ | ⟨h1, h2⟩
  · exact h1
  · unfold mayN at h; rw [h2] at h; simp at h
theorem has_no2 (w : World) (v : Value) (L : List Asc) (s : Int) (y : Xid) (hs : Slc ascEnc 5 w v L) (hL : L.length ≤ 1000000) (hn : idxA L s y = none) (hr : RowA L) :
    Calls Try.prog 65 #[v, .int .u64 s, .agg #[.int .u32 y.1, .string y.2.1, .string y.2.2]] w fun e w' => e = .returned (.tuple #[.bool false, .bool false]) ∧ Below w.heap.size w w' := by
  refine (has_any w v L s y hs hL).mono ?_
  rintro e w' ⟨⟨b, z, rfl, h⟩, hB⟩
  refine ⟨?_, hB⟩
  rcases h with ⟨-, rfl, rfl⟩ | ⟨-, -, rfl, rfl⟩ | ⟨hr, k, hk, he, -, -⟩
  · rfl
  · rfl
  · rw [idx_yes hr.rises hk he] at hn; exact absurd hn (by simp)
theorem has_yes2 (w : World) (v : Value) (L : List Asc) (s : Int) (y : Xid) (j : Nat) (z : Bool) (hs : Slc ascEnc 5 w v L) (hL : L.length ≤ 1000000) (hn : idxA L s y = some j) (hr : RowA L) (hz : (L.getD j (0, noX, false)).2.2 = z) :
    Calls Try.prog 65 #[v, .int .u64 s, .agg #[.int .u32 y.1, .string y.2.1, .string y.2.2]] w fun e w' => e = .returned (.tuple #[.bool true, .bool z]) ∧ Below w.heap.size w w' := by
  refine (has_any w v L s y hs hL).mono ?_
  rintro e w' ⟨⟨b, z', rfl, h⟩, hB⟩
  refine ⟨?_, hB⟩
  rcases h with ⟨h, -, -⟩ | ⟨-, hm, -, -⟩ | ⟨-, k, hk, he, rfl, rfl⟩
  · exact absurd (rowE_yes hr) h
  · rw [idx_no hm] at hn; exact absurd hn (by simp)
  · rw [idx_yes hr.rises hk he] at hn
    injection hn with hn
    subst hn
    rw [← hz]
    simp only [List.getD_eq_getElem?_getD, List.getElem?_eq_getElem hk, Option.getD_some]
theorem suspend_done {A : List Asc} {se : Int} {x : Xid} {j : Nat} (hm : mayN A se x = 0) (hj : idxA A se x = some j) (hz : (A.getD j (0, noX, false)).2.2 = false) : (suspendF A se x).2 = 0 := by
  unfold suspendF; rw [if_pos hm, hj]; simp only [hz]; rfl
theorem end_done {A : List Asc} {se : Int} {x : Xid} {j : Nat} (hm : mayN A se x = 0) (hj : idxA A se x = some j) : (endF A se x).2 = 0 := by
  unfold endF; rw [if_pos hm, hj]


set_option maxRecDepth 100000 in
set_option maxHeartbeats 3200000 in
theorem end_do (s : Nat) (w1 : World) (tb : Nat) (rv av : Value) (R : List Brn) (A : List Asc) (xb1 sb rb jb : Nat) (se : Int) (fail susp : Bool) (x : Xid) (hx1 : Blk w1 xb1 (xidC x)) (s1 : Blk w1 sb [.int .u64 se]) (q1 : Blk w1 rb [.bool susp]) (j1 : Blk w1 jb [.bool fail]) (hxs : xb1 < s) (hss : sb < s) (hqs : rb < s) (hjs : jb < s) (hmay : mayN A se x = 0) (hpre : DoPre s w1 tb rv av R A) (hr : RisesB R) (hLR : R.length ≤ 1000000) (hLA : A.length ≤ 1000000) :
    Calls Try.prog 64 #[.pointer (some ⟨tb, 0, none⟩), .pointer (some ⟨xb1, 0, none⟩), .pointer (some ⟨sb, 0, none⟩), .pointer (some ⟨rb, 0, none⟩), .pointer (some ⟨jb, 0, none⟩)] w1 (DoPost s tb (endD R A se x fail susp) (fun _ => False) (fun _ => True) w1) := by
  obtain ⟨hroom, t1, hhigh, hO1, hA1, hrt, hat, hap⟩ := hpre
  have hU1 := Upd.refl (fun k => False ∨ s + 5 ≤ k) w1
  have hr' := Lib.hid hr
  obtain ⟨xf, xg, xb⟩ := x
  have x1 : Blk w1 xb1 [.int .u32 xf, .string xg, .string xb] := hx1
  clear hx1
  have c1t0 := t1.at 0 rfl
  have c1t1 := t1.at 1 rfl
  have c1x0 := x1.at 0 rfl
  have c1x1 := x1.at 1 rfl
  have c1x2 := x1.at 2 rfl
  have c1s := s1.at 0 rfl
  have c1q := q1.at 0 rfl
  have c1j := j1.at 0 rfl
  have hRow := Lib.hid (mayN_row hmay)
  have hmay' := Lib.hid hmay; clear hmay
  obtain ⟨aa, ac, rfl⟩ := own_len hA1
  rcases Classical.em (MemB R (xf, xg, xb)) with hm | hm
  rotate_left 1
  · have hn := Lib.hid hm
    have hD : Hid (endD R A se (xf, xg, xb) fail susp = errR 7) := Lib.hid (by unfold endD; rw [idxB_no hm])
    clear hm hr
    go_enter Try.func64, Try.ntmps64
    go_wp2_with (first | (go_at_call 54; (with_reducible refine (trow_no _ tb rv (.slice aa A.length ac) R (xf, xg, xb) t1 (hO1.slc brEnc_len) hr'.out hLR hn.out).mono ?_); rintro e w2 ⟨rfl, hB2⟩; have hU2 := hU1.trans (Upd.of_below hB2) (fun _ h _ => h)))
    refine ⟨rfl, ?_⟩
    rw [hD.out]
    exact .inr ⟨7, by decide, rfl, rfl, hU2⟩
  obtain ⟨k, hk, hex0⟩ := hm
  obtain ⟨g, cap, rfl, hg1, hg2⟩ := hO1.shape (fun e => by rw [e] at hk; simp at hk)
  have hrt2 : g ≠ tb := fun e => hrt (by simp [Value.ownBlock, e])
  have hI := Lib.hid (idxB_yes hr hk hex0)
  have hex := Lib.hid hex0
  clear hr hex0
  rcases hj0 : idxA A se (xf, xg, xb) with _ | j
  · have hJ := Lib.hid hj0
    have hD : Hid (endD R A se (xf, xg, xb) fail susp = errR 9) := Lib.hid (by unfold endD; rw [hI.out]; simp only [hj0])
    clear hj0
    go_enter Try.func64, Try.ntmps64
    go_wp2_with (first | (go_at_call 54; (with_reducible refine (trow_yes _ tb g R.length cap (.slice aa A.length ac) R (xf, xg, xb) k t1 (hO1.slc brEnc_len) hr'.out hLR hk hex.out).mono ?_); rintro e w2 ⟨rfl, hB2⟩; have t2 := t1.pure hB2; have x2 := x1.pure hB2; have s2 := s1.pure hB2; have q2 := q1.pure hB2; have j2 := j1.pure hB2; have hO2 := hO1.pure hB2; have hA2 := hA1.pure hB2; have hU2 := hU1.trans (Upd.of_below hB2) (fun _ h _ => h); have c2t0 := t2.at 0 rfl; have c2t1 := t2.at 1 rfl; have c2x0 := x2.at 0 rfl; have c2x1 := x2.at 1 rfl; have c2x2 := x2.at 2 rfl; have c2s := s2.at 0 rfl; have c2q := q2.at 0 rfl; have c2j := j2.at 0 rfl; obtain ⟨r20, r21, r22, r23, r24, r25, r26⟩ := br_cells (hO2.slc brEnc_len) hk; simp only [Nat.zero_add] at r20 r21 r22 r23 r24 r25 r26))
    go_region_held3 (fun w' => w'.cell? ⟨tb, 1, none⟩ = some (.slice aa A.length ac) ∧ w'.cell? ⟨sb, 0, none⟩ = some (.int .u64 se) ∧ w'.cell? ⟨xb1, 0, none⟩ = some (.int .u32 xf) ∧ w'.cell? ⟨xb1, 1, none⟩ = some (.string xg) ∧ w'.cell? ⟨xb1, 2, none⟩ = some (.string xb)) (first | exact ⟨c2t1, c2s, c2x0, c2x1, c2x2⟩ | exact ⟨c3t1, c3s, c3x0, c3x1, c3x2⟩) (first | (go_at_call 65; (with_reducible refine (has_no2 _ _ A se (xf, xg, xb) (hA2.drew.slc ascEnc_len) hLA hJ.out hRow.out).mono ?_); rintro e w3 ⟨rfl, hB3⟩; have t3 := t2.drew.pure hB3; have x3 := x2.drew.pure hB3; have s3 := s2.drew.pure hB3; have q3 := q2.drew.pure hB3; have j3 := j2.drew.pure hB3; have hO3 := hO2.drew.pure hB3; have hA3 := hA2.drew.pure hB3; have hU3 := hU2.drew.trans (Upd.of_below hB3) (fun _ h _ => h); have c3t0 := t3.at 0 rfl; have c3t1 := t3.at 1 rfl; have c3x0 := x3.at 0 rfl; have c3x1 := x3.at 1 rfl; have c3x2 := x3.at 2 rfl; have c3s := s3.at 0 rfl; have c3q := q3.at 0 rfl; have c3j := j3.at 0 rfl; obtain ⟨r30, r31, r32, r33, r34, r35, r36⟩ := br_cells (hO3.slc brEnc_len) hk; simp only [Nat.zero_add] at r30 r31 r32 r33 r34 r35 r36))
    go_wp2_with (first | (go_at_call 50; (with_reducible refine (must_no _ _).mono ?_); rintro e _ ⟨rfl, rfl⟩))
    refine ⟨rfl, ?_⟩
    rw [hD.out]
    exact .inr ⟨9, by decide, rfl, rfl, hU3⟩
  have hJ := Lib.hid hj0
  obtain ⟨z, hz0⟩ : ∃ z, (A.getD j (0, noX, false)).2.2 = z := ⟨_, rfl⟩
  have hz := Lib.hid hz0
  have hz1 : (A[j]?.getD (0, noX, false)).2.2 = z := by rw [← List.getD_eq_getElem?_getD]; exact hz0
  clear hj0
  cases susp
  rotate_left 1
  · have hdum := True.intro
    cases z
    rotate_left 1
    · have hdum := True.intro
      have hD : Hid (endD R A se (xf, xg, xb) fail true = errR 9) := Lib.hid (by unfold endD; rw [hI.out]; simp only [hJ.out]; simp [hz1])
      clear hz0 hz1
      go_enter Try.func64, Try.ntmps64
      go_wp2_with (first | (go_at_call 54; (with_reducible refine (trow_yes _ tb g R.length cap (.slice aa A.length ac) R (xf, xg, xb) k t1 (hO1.slc brEnc_len) hr'.out hLR hk hex.out).mono ?_); rintro e w2 ⟨rfl, hB2⟩; have t2 := t1.pure hB2; have x2 := x1.pure hB2; have s2 := s1.pure hB2; have q2 := q1.pure hB2; have j2 := j1.pure hB2; have hO2 := hO1.pure hB2; have hA2 := hA1.pure hB2; have hU2 := hU1.trans (Upd.of_below hB2) (fun _ h _ => h); have c2t0 := t2.at 0 rfl; have c2t1 := t2.at 1 rfl; have c2x0 := x2.at 0 rfl; have c2x1 := x2.at 1 rfl; have c2x2 := x2.at 2 rfl; have c2s := s2.at 0 rfl; have c2q := q2.at 0 rfl; have c2j := j2.at 0 rfl; obtain ⟨r20, r21, r22, r23, r24, r25, r26⟩ := br_cells (hO2.slc brEnc_len) hk; simp only [Nat.zero_add] at r20 r21 r22 r23 r24 r25 r26))
      go_region_held3 (fun w' => w'.cell? ⟨tb, 1, none⟩ = some (.slice aa A.length ac) ∧ w'.cell? ⟨sb, 0, none⟩ = some (.int .u64 se) ∧ w'.cell? ⟨xb1, 0, none⟩ = some (.int .u32 xf) ∧ w'.cell? ⟨xb1, 1, none⟩ = some (.string xg) ∧ w'.cell? ⟨xb1, 2, none⟩ = some (.string xb)) (first | exact ⟨c2t1, c2s, c2x0, c2x1, c2x2⟩ | exact ⟨c3t1, c3s, c3x0, c3x1, c3x2⟩) (first | (go_at_call 65; (with_reducible refine (has_yes2 _ _ A se (xf, xg, xb) j true (hA2.drew.slc ascEnc_len) hLA hJ.out hRow.out hz.out).mono ?_); rintro e w3 ⟨rfl, hB3⟩; have t3 := t2.drew.pure hB3; have x3 := x2.drew.pure hB3; have s3 := s2.drew.pure hB3; have q3 := q2.drew.pure hB3; have j3 := j2.drew.pure hB3; have hO3 := hO2.drew.pure hB3; have hA3 := hA2.drew.pure hB3; have hU3 := hU2.drew.trans (Upd.of_below hB3) (fun _ h _ => h); have c3t0 := t3.at 0 rfl; have c3t1 := t3.at 1 rfl; have c3x0 := x3.at 0 rfl; have c3x1 := x3.at 1 rfl; have c3x2 := x3.at 2 rfl; have c3s := s3.at 0 rfl; have c3q := q3.at 0 rfl; have c3j := j3.at 0 rfl; obtain ⟨r30, r31, r32, r33, r34, r35, r36⟩ := br_cells (hO3.slc brEnc_len) hk; simp only [Nat.zero_add] at r30 r31 r32 r33 r34 r35 r36))
      go_wp2_with (first | (go_at_call 50; (with_reducible refine (must_no _ _).mono ?_); rintro e _ ⟨rfl, rfl⟩))
      refine ⟨rfl, ?_⟩
      rw [hD.out]
      exact .inr ⟨9, by decide, rfl, rfl, hU3⟩
    have hzn : ¬ (true = true ∧ (A.getD j (0, noX, false)).2.2 = true) := fun h => by rw [hz0] at h; simp at h
    by_cases h3 : R[k].why = 0
    · have hwb : (R[k].why == 0) = true := by rw [h3]; rfl
      have hD : Hid (endD R A se (xf, xg, xb) fail true = (R, (suspendF A se (xf, xg, xb)).1, 0, 0)) := Lib.hid (by unfold endD; rw [hI.out]; simp only [hJ.out]; simp [hz1, List.getElem?_eq_getElem hk, h3])
      have hF2 := Lib.hid (suspend_done hmay'.out hJ.out hz0)
      clear hz0 hz1 hzn h3
      go_enter Try.func64, Try.ntmps64
      go_wp2_with (first | (go_at_call 54; (with_reducible refine (trow_yes _ tb g R.length cap (.slice aa A.length ac) R (xf, xg, xb) k t1 (hO1.slc brEnc_len) hr'.out hLR hk hex.out).mono ?_); rintro e w2 ⟨rfl, hB2⟩; have t2 := t1.pure hB2; have x2 := x1.pure hB2; have s2 := s1.pure hB2; have q2 := q1.pure hB2; have j2 := j1.pure hB2; have hO2 := hO1.pure hB2; have hA2 := hA1.pure hB2; have hU2 := hU1.trans (Upd.of_below hB2) (fun _ h _ => h); have c2t0 := t2.at 0 rfl; have c2t1 := t2.at 1 rfl; have c2x0 := x2.at 0 rfl; have c2x1 := x2.at 1 rfl; have c2x2 := x2.at 2 rfl; have c2s := s2.at 0 rfl; have c2q := q2.at 0 rfl; have c2j := j2.at 0 rfl; obtain ⟨r20, r21, r22, r23, r24, r25, r26⟩ := br_cells (hO2.slc brEnc_len) hk; simp only [Nat.zero_add] at r20 r21 r22 r23 r24 r25 r26))
      go_region_held3 (fun w' => w'.cell? ⟨tb, 1, none⟩ = some (.slice aa A.length ac) ∧ w'.cell? ⟨sb, 0, none⟩ = some (.int .u64 se) ∧ w'.cell? ⟨xb1, 0, none⟩ = some (.int .u32 xf) ∧ w'.cell? ⟨xb1, 1, none⟩ = some (.string xg) ∧ w'.cell? ⟨xb1, 2, none⟩ = some (.string xb)) (first | exact ⟨c2t1, c2s, c2x0, c2x1, c2x2⟩ | exact ⟨c3t1, c3s, c3x0, c3x1, c3x2⟩) (first | (go_at_call 65; (with_reducible refine (has_yes2 _ _ A se (xf, xg, xb) j false (hA2.drew.slc ascEnc_len) hLA hJ.out hRow.out hz.out).mono ?_); rintro e w3 ⟨rfl, hB3⟩; have t3 := t2.drew.pure hB3; have x3 := x2.drew.pure hB3; have s3 := s2.drew.pure hB3; have q3 := q2.drew.pure hB3; have j3 := j2.drew.pure hB3; have hO3 := hO2.drew.pure hB3; have hA3 := hA2.drew.pure hB3; have hU3 := hU2.drew.trans (Upd.of_below hB3) (fun _ h _ => h); have c3t0 := t3.at 0 rfl; have c3t1 := t3.at 1 rfl; have c3x0 := x3.at 0 rfl; have c3x1 := x3.at 1 rfl; have c3x2 := x3.at 2 rfl; have c3s := s3.at 0 rfl; have c3q := q3.at 0 rfl; have c3j := j3.at 0 rfl; obtain ⟨r30, r31, r32, r33, r34, r35, r36⟩ := br_cells (hO3.slc brEnc_len) hk; simp only [Nat.zero_add] at r30 r31 r32 r33 r34 r35 r36))
      go_wp2_with (first | (go_at_call 50; (with_reducible refine (must_ok _ _).mono ?_); rintro e _ ⟨rfl, rfl⟩))
      refine wp_region_held_drew (S := (fun w' => w'.cell? ⟨sb, 0, none⟩ = some (.int .u64 se) ∧ w'.cell? ⟨xb1, 0, none⟩ = some (.int .u32 xf) ∧ w'.cell? ⟨xb1, 1, none⟩ = some (.string xg) ∧ w'.cell? ⟨xb1, 2, none⟩ = some (.string xb))) (by kernel_rfl) ?_ (fun hHeld => ?_)
      · (first | exact ⟨c3s, c3x0, c3x1, c3x2⟩ | exact ⟨cms, cmx0, cmx1, cmx2⟩ | exact ⟨cns, cnx0, cnx1, cnx2⟩)
      refine takeY 0 41 rfl rfl (v := ?_) ?_ hHeld ?_
      rotate_left 1
      · (intro w hSw; (try dsimp only at hSw); go_simp; (try with_reducible rfl))
      try simp only [Act.put, lsT, lsZ, lsS]
      refine takeY 1 42 rfl rfl (v := ?_) ?_ hHeld ?_
      rotate_left 1
      · (intro w hSw; (try dsimp only at hSw); go_simp; (try with_reducible rfl))
      try simp only [Act.put, lsT, lsZ, lsS]
      refine takeY 2 43 rfl rfl (v := ?_) ?_ hHeld ?_
      rotate_left 1
      · (intro w hSw; (try dsimp only at hSw); go_simp; (try with_reducible rfl))
      try simp only [Act.put, lsT, lsZ, lsS]
      refine takeY 3 44 rfl rfl (v := ?_) ?_ hHeld ?_
      rotate_left 1
      · (intro w hSw; (try dsimp only at hSw); go_simp; (try with_reducible rfl))
      try simp only [Act.put, lsT, lsZ, lsS]
      refine takeY 4 45 rfl rfl (v := ?_) ?_ hHeld ?_
      rotate_left 1
      · (intro w hSw; (try dsimp only at hSw); go_simp; (try with_reducible rfl))
      try simp only [Act.put, lsT, lsZ, lsS]
      refine takeY 6 47 rfl rfl (v := ?_) ?_ hHeld ?_
      rotate_left 1
      · (intro w hSw; (try dsimp only at hSw); go_simp; (try with_reducible rfl))
      try simp only [Act.put, lsT, lsZ, lsS]
      refine takeY 7 48 rfl rfl (v := ?_) ?_ hHeld ?_
      rotate_left 1
      · (intro w hSw; (try dsimp only at hSw); go_simp; (try with_reducible rfl))
      try simp only [Act.put, lsT, lsZ, lsS]
      refine wpAnyH_ready (rs := [5]) (by kernel_rfl) (by simp) ?_
      refine AllReadyH.cons rfl (fun K hK => ?_) AllReadyH.nil
      go_simp
      refine hK.out _ _ ?_ (fun hHeld => ?_)
      · (first | exact ⟨c3s, c3x0, c3x1, c3x2⟩ | exact ⟨cms, cmx0, cmx1, cmx2⟩ | exact ⟨cns, cnx0, cnx1, cnx2⟩)
      clear hK K
      try simp only [Act.put, lsT, lsZ, lsS]
      refine wpAnyH_ready (rs := [8]) (by kernel_rfl) (by simp) ?_
      refine AllReadyH.cons rfl (fun K hK => ?_) AllReadyH.nil
      go_simp
      go_at_call 66
      refine (suspend_any _ (.slice aa A.length ac) A se (xf, xg, xb) (hA3.drew.slc ascEnc_len) hLA).mono ?_
      rintro e wm ⟨v, rfl, hM, hBm⟩
      have tm := t3.drew.pure hBm
      have xm := x3.drew.pure hBm
      have sm := s3.drew.pure hBm
      have qm := q3.drew.pure hBm
      have jm := j3.drew.pure hBm
      have hOm := hO3.drew.pure hBm
      have hAm := hA3.drew.pure hBm
      have hUm := hU3.drew.trans (Upd.of_below hBm) (fun _ h _ => h)
      have cmt0 := tm.at 0 rfl
      have cmt1 := tm.at 1 rfl
      have cmx0 := xm.at 0 rfl
      have cmx1 := xm.at 1 rfl
      have cmx2 := xm.at 2 rfl
      have cms := sm.at 0 rfl
      have cmq := qm.at 0 rfl
      have cmj := jm.at 0 rfl
      obtain ⟨va, vc, rfl⟩ := own_len hM
      rw [hF2.out]
      refine hK.out _ _ ?_ (fun hHeld => ?_)
      · (first | exact ⟨c3s, c3x0, c3x1, c3x2⟩ | exact ⟨cms, cmx0, cmx1, cmx2⟩ | exact ⟨cns, cnx0, cnx1, cnx2⟩)
      clear hK K
      try simp only [Act.put, lsT, lsZ, lsS]
      refine takeY 9 50 rfl rfl (v := ?_) ?_ hHeld ?_
      rotate_left 1
      · (intro w hSw; (try dsimp only at hSw); go_simp; (try with_reducible rfl))
      try simp only [Act.put, lsT, lsZ, lsS]
      refine takeY 10 51 rfl rfl (v := ?_) ?_ hHeld ?_
      rotate_left 1
      · (intro w hSw; (try dsimp only at hSw); go_simp; (try with_reducible rfl))
      try simp only [Act.put, lsT, lsZ, lsS]
      refine wpAnyH_ready (rs := [11]) (by kernel_rfl) (by simp) ?_
      refine AllReadyH.cons rfl (fun K hK => ?_) AllReadyH.nil
      go_simp
      go_at_call 52
      refine (tlink_ok _ tb (.slice (some ⟨g, 0, none⟩) R.length cap) (.slice aa A.length ac) _ tm hM).mono ?_
      rintro e wn ⟨rfl, tn, hUl⟩
      have hMs : s + 5 ≤ w3.heap.size := Nat.le_trans hroom (hU3.size)
      have hAn := (hM.upd hUl (fun k hk e => by have := hM.ge hk; have := t3.lt; simp at *; omega)).rebase (b' := s + 5) (fun k hk => by have := hM.ge hk; simp at *; omega)
      have hOn := hOm.upd hUl (fun k hk e => hrt (by rw [hk, e]))
      have xn := xm.upd hUl (by omega)
      have sn := sm.upd hUl (by omega)
      have hUn := hUm.trans (hUl.mono (T := fun k => False ∨ s + 5 ≤ k) (fun k h _ => Or.inr (by rw [h]; exact hhigh))) (fun _ h _ => h)
      have cnx0 := xn.at 0 rfl; have cnx1 := xn.at 1 rfl; have cnx2 := xn.at 2 rfl; have cns := sn.at 0 rfl
      refine hK.out _ _ ?_ (fun hHeld => ?_)
      · (first | exact ⟨c3s, c3x0, c3x1, c3x2⟩ | exact ⟨cms, cmx0, cmx1, cmx2⟩ | exact ⟨cns, cnx0, cnx1, cnx2⟩)
      clear hK K
      try simp only [Act.put, lsT, lsZ, lsS]
      refine wpAnyH_done (by kernel_rfl) ?_ _
      have qn := qm.upd hUl (by omega); have jn := jm.upd hUl (by omega); have cnq := qn.at 0 rfl; have cnj := jn.at 0 rfl; have cnt0 := tn.at 0 rfl
      obtain ⟨rn0, rn1, rn2, rn3, rn4, rn5, rn6⟩ := br_cells (hOn.slc brEnc_len) hk
      simp only [Nat.zero_add] at rn0 rn1 rn2 rn3 rn4 rn5 rn6
      have hapn : ∀ k, (Value.slice (some ⟨g, 0, none⟩) R.length cap).ownBlock = some k → (Value.slice va (suspendF A se (xf, xg, xb)).1.length vc).ownBlock ≠ some k := fun k h e => by have h2 : some g = some k := h; injection h2 with h2; have := hM.ge e; have := hU3.size; simp at *; omega
      go_wp2
      (first | go_ret | go_ret2)
      rw [hD.out]
      exact .inl ⟨_, _, rfl, rfl, tn, hOn, hAn, hUn, trivial⟩
    have hwb : (R[k].why == 0) = false := beq_eq_false_iff_ne.2 h3
    cases fail
    rotate_left 1
    · have hdum := True.intro
      have hD : Hid (endD R A se (xf, xg, xb) true true = (R.set k (R[k].spoil 1), (endF A se (xf, xg, xb)).1, (R[k].spoil 1).why, 0)) := Lib.hid (by unfold endD; rw [hI.out]; simp only [hJ.out]; simp [hz1, List.getElem?_eq_getElem hk, h3])
      have hF2 := Lib.hid (end_done hmay'.out hJ.out)
      clear hz0 hz1 hzn h3
      go_enter Try.func64, Try.ntmps64
      go_wp2_with (first | (go_at_call 54; (with_reducible refine (trow_yes _ tb g R.length cap (.slice aa A.length ac) R (xf, xg, xb) k t1 (hO1.slc brEnc_len) hr'.out hLR hk hex.out).mono ?_); rintro e w2 ⟨rfl, hB2⟩; have t2 := t1.pure hB2; have x2 := x1.pure hB2; have s2 := s1.pure hB2; have q2 := q1.pure hB2; have j2 := j1.pure hB2; have hO2 := hO1.pure hB2; have hA2 := hA1.pure hB2; have hU2 := hU1.trans (Upd.of_below hB2) (fun _ h _ => h); have c2t0 := t2.at 0 rfl; have c2t1 := t2.at 1 rfl; have c2x0 := x2.at 0 rfl; have c2x1 := x2.at 1 rfl; have c2x2 := x2.at 2 rfl; have c2s := s2.at 0 rfl; have c2q := q2.at 0 rfl; have c2j := j2.at 0 rfl; obtain ⟨r20, r21, r22, r23, r24, r25, r26⟩ := br_cells (hO2.slc brEnc_len) hk; simp only [Nat.zero_add] at r20 r21 r22 r23 r24 r25 r26))
      go_region_held3 (fun w' => w'.cell? ⟨tb, 1, none⟩ = some (.slice aa A.length ac) ∧ w'.cell? ⟨sb, 0, none⟩ = some (.int .u64 se) ∧ w'.cell? ⟨xb1, 0, none⟩ = some (.int .u32 xf) ∧ w'.cell? ⟨xb1, 1, none⟩ = some (.string xg) ∧ w'.cell? ⟨xb1, 2, none⟩ = some (.string xb)) (first | exact ⟨c2t1, c2s, c2x0, c2x1, c2x2⟩ | exact ⟨c3t1, c3s, c3x0, c3x1, c3x2⟩) (first | (go_at_call 65; (with_reducible refine (has_yes2 _ _ A se (xf, xg, xb) j false (hA2.drew.slc ascEnc_len) hLA hJ.out hRow.out hz.out).mono ?_); rintro e w3 ⟨rfl, hB3⟩; have t3 := t2.drew.pure hB3; have x3 := x2.drew.pure hB3; have s3 := s2.drew.pure hB3; have q3 := q2.drew.pure hB3; have j3 := j2.drew.pure hB3; have hO3 := hO2.drew.pure hB3; have hA3 := hA2.drew.pure hB3; have hU3 := hU2.drew.trans (Upd.of_below hB3) (fun _ h _ => h); have c3t0 := t3.at 0 rfl; have c3t1 := t3.at 1 rfl; have c3x0 := x3.at 0 rfl; have c3x1 := x3.at 1 rfl; have c3x2 := x3.at 2 rfl; have c3s := s3.at 0 rfl; have c3q := q3.at 0 rfl; have c3j := j3.at 0 rfl; obtain ⟨r30, r31, r32, r33, r34, r35, r36⟩ := br_cells (hO3.slc brEnc_len) hk; simp only [Nat.zero_add] at r30 r31 r32 r33 r34 r35 r36))
      go_wp2_with (first | (go_at_call 50; (with_reducible refine (must_ok _ _).mono ?_); rintro e _ ⟨rfl, rfl⟩))
      refine wp_region_held_drew (S := (fun w' => w'.cell? ⟨sb, 0, none⟩ = some (.int .u64 se) ∧ w'.cell? ⟨xb1, 0, none⟩ = some (.int .u32 xf) ∧ w'.cell? ⟨xb1, 1, none⟩ = some (.string xg) ∧ w'.cell? ⟨xb1, 2, none⟩ = some (.string xb))) (by kernel_rfl) ?_ (fun hHeld => ?_)
      · (first | exact ⟨c3s, c3x0, c3x1, c3x2⟩ | exact ⟨cms, cmx0, cmx1, cmx2⟩ | exact ⟨cns, cnx0, cnx1, cnx2⟩)
      refine takeY 0 53 rfl rfl (v := ?_) ?_ hHeld ?_
      rotate_left 1
      · (intro w hSw; (try dsimp only at hSw); go_simp; (try with_reducible rfl))
      try simp only [Act.put, lsT, lsZ, lsS]
      refine takeY 1 54 rfl rfl (v := ?_) ?_ hHeld ?_
      rotate_left 1
      · (intro w hSw; (try dsimp only at hSw); go_simp; (try with_reducible rfl))
      try simp only [Act.put, lsT, lsZ, lsS]
      refine takeY 2 55 rfl rfl (v := ?_) ?_ hHeld ?_
      rotate_left 1
      · (intro w hSw; (try dsimp only at hSw); go_simp; (try with_reducible rfl))
      try simp only [Act.put, lsT, lsZ, lsS]
      refine takeY 3 56 rfl rfl (v := ?_) ?_ hHeld ?_
      rotate_left 1
      · (intro w hSw; (try dsimp only at hSw); go_simp; (try with_reducible rfl))
      try simp only [Act.put, lsT, lsZ, lsS]
      refine takeY 4 57 rfl rfl (v := ?_) ?_ hHeld ?_
      rotate_left 1
      · (intro w hSw; (try dsimp only at hSw); go_simp; (try with_reducible rfl))
      try simp only [Act.put, lsT, lsZ, lsS]
      refine takeY 6 59 rfl rfl (v := ?_) ?_ hHeld ?_
      rotate_left 1
      · (intro w hSw; (try dsimp only at hSw); go_simp; (try with_reducible rfl))
      try simp only [Act.put, lsT, lsZ, lsS]
      refine takeY 7 60 rfl rfl (v := ?_) ?_ hHeld ?_
      rotate_left 1
      · (intro w hSw; (try dsimp only at hSw); go_simp; (try with_reducible rfl))
      try simp only [Act.put, lsT, lsZ, lsS]
      refine wpAnyH_ready (rs := [5]) (by kernel_rfl) (by simp) ?_
      refine AllReadyH.cons rfl (fun K hK => ?_) AllReadyH.nil
      go_simp
      refine hK.out _ _ ?_ (fun hHeld => ?_)
      · (first | exact ⟨c3s, c3x0, c3x1, c3x2⟩ | exact ⟨cms, cmx0, cmx1, cmx2⟩ | exact ⟨cns, cnx0, cnx1, cnx2⟩)
      clear hK K
      try simp only [Act.put, lsT, lsZ, lsS]
      refine wpAnyH_ready (rs := [8]) (by kernel_rfl) (by simp) ?_
      refine AllReadyH.cons rfl (fun K hK => ?_) AllReadyH.nil
      go_simp
      go_at_call 67
      refine (end_any _ (.slice aa A.length ac) A se (xf, xg, xb) (hA3.drew.slc ascEnc_len) hLA).mono ?_
      rintro e wm ⟨v, rfl, hM, hBm⟩
      have tm := t3.drew.pure hBm
      have xm := x3.drew.pure hBm
      have sm := s3.drew.pure hBm
      have qm := q3.drew.pure hBm
      have jm := j3.drew.pure hBm
      have hOm := hO3.drew.pure hBm
      have hAm := hA3.drew.pure hBm
      have hUm := hU3.drew.trans (Upd.of_below hBm) (fun _ h _ => h)
      have cmt0 := tm.at 0 rfl
      have cmt1 := tm.at 1 rfl
      have cmx0 := xm.at 0 rfl
      have cmx1 := xm.at 1 rfl
      have cmx2 := xm.at 2 rfl
      have cms := sm.at 0 rfl
      have cmq := qm.at 0 rfl
      have cmj := jm.at 0 rfl
      obtain ⟨va, vc, rfl⟩ := own_len hM
      rw [hF2.out]
      refine hK.out _ _ ?_ (fun hHeld => ?_)
      · (first | exact ⟨c3s, c3x0, c3x1, c3x2⟩ | exact ⟨cms, cmx0, cmx1, cmx2⟩ | exact ⟨cns, cnx0, cnx1, cnx2⟩)
      clear hK K
      try simp only [Act.put, lsT, lsZ, lsS]
      refine takeY 9 62 rfl rfl (v := ?_) ?_ hHeld ?_
      rotate_left 1
      · (intro w hSw; (try dsimp only at hSw); go_simp; (try with_reducible rfl))
      try simp only [Act.put, lsT, lsZ, lsS]
      refine takeY 10 63 rfl rfl (v := ?_) ?_ hHeld ?_
      rotate_left 1
      · (intro w hSw; (try dsimp only at hSw); go_simp; (try with_reducible rfl))
      try simp only [Act.put, lsT, lsZ, lsS]
      refine wpAnyH_ready (rs := [11]) (by kernel_rfl) (by simp) ?_
      refine AllReadyH.cons rfl (fun K hK => ?_) AllReadyH.nil
      go_simp
      go_at_call 52
      refine (tlink_ok _ tb (.slice (some ⟨g, 0, none⟩) R.length cap) (.slice aa A.length ac) _ tm hM).mono ?_
      rintro e wn ⟨rfl, tn, hUl⟩
      have hMs : s + 5 ≤ w3.heap.size := Nat.le_trans hroom (hU3.size)
      have hAn := (hM.upd hUl (fun k hk e => by have := hM.ge hk; have := t3.lt; simp at *; omega)).rebase (b' := s + 5) (fun k hk => by have := hM.ge hk; simp at *; omega)
      have hOn := hOm.upd hUl (fun k hk e => hrt (by rw [hk, e]))
      have xn := xm.upd hUl (by omega)
      have sn := sm.upd hUl (by omega)
      have hUn := hUm.trans (hUl.mono (T := fun k => False ∨ s + 5 ≤ k) (fun k h _ => Or.inr (by rw [h]; exact hhigh))) (fun _ h _ => h)
      have cnx0 := xn.at 0 rfl; have cnx1 := xn.at 1 rfl; have cnx2 := xn.at 2 rfl; have cns := sn.at 0 rfl
      refine hK.out _ _ ?_ (fun hHeld => ?_)
      · (first | exact ⟨c3s, c3x0, c3x1, c3x2⟩ | exact ⟨cms, cmx0, cmx1, cmx2⟩ | exact ⟨cns, cnx0, cnx1, cnx2⟩)
      clear hK K
      try simp only [Act.put, lsT, lsZ, lsS]
      refine wpAnyH_done (by kernel_rfl) ?_ _
      have qn := qm.upd hUl (by omega); have jn := jm.upd hUl (by omega); have cnq := qn.at 0 rfl; have cnj := jn.at 0 rfl; have cnt0 := tn.at 0 rfl
      obtain ⟨rn0, rn1, rn2, rn3, rn4, rn5, rn6⟩ := br_cells (hOn.slc brEnc_len) hk
      simp only [Nat.zero_add] at rn0 rn1 rn2 rn3 rn4 rn5 rn6
      have hapn : ∀ k, (Value.slice (some ⟨g, 0, none⟩) R.length cap).ownBlock = some k → (Value.slice va (endF A se (xf, xg, xb)).1.length vc).ownBlock ≠ some k := fun k h e => by have h2 : some g = some k := h; injection h2 with h2; have := hM.ge e; have := hU3.size; simp at *; omega
      have hap := hapn
      go_wp2_with (first | (go_at_call 68; (with_reducible refine (spoil_any _ g R.length cap k R 1 hOn hk).mono ?_); rintro e w4 ⟨rfl, hO4, hUg4⟩; have hU4 := hUn.trans (hUg4.mono (T := fun k => False ∨ s + 5 ≤ k) (fun k h _ => Or.inr (by rw [h]; exact hg1))) (fun _ h _ => h); have t4 := tn.upd hUg4 (fun e => hrt2 e.symm); have hA4 := hAn.upd hUg4 (fun k hk e => hap g rfl (by rw [hk, e])); have x4 := xn.upd hUg4 (by omega); have s4 := sn.upd hUg4 (by omega); have q4 := qn.upd hUg4 (by omega); have j4 := jn.upd hUg4 (by omega); have c4t0 := t4.at 0 rfl; have c4t1 := t4.at 1 rfl; have c4x0 := x4.at 0 rfl; have c4x1 := x4.at 1 rfl; have c4x2 := x4.at 2 rfl; have c4s := s4.at 0 rfl; have c4q := q4.at 0 rfl; have c4j := j4.at 0 rfl; obtain ⟨r40, r41, r42, r43, r44, r45, r46⟩ := br_cells (hO4.slc brEnc_len) (by simpa using hk); simp only [Nat.zero_add, List.getElem_set_self] at r40 r41 r42 r43 r44 r45 r46))
      (first | go_ret | go_ret2)
      rw [hD.out]
      exact .inl ⟨_, _, rfl, rfl, t4, hO4, hA4, hU4, trivial⟩
    · have hdum := True.intro
      have hD : Hid (endD R A se (xf, xg, xb) false true = (R, (endF A se (xf, xg, xb)).1, R[k].why, 0)) := Lib.hid (by unfold endD; rw [hI.out]; simp only [hJ.out]; simp [hz1, List.getElem?_eq_getElem hk, h3])
      have hF2 := Lib.hid (end_done hmay'.out hJ.out)
      clear hz0 hz1 hzn h3
      go_enter Try.func64, Try.ntmps64
      go_wp2_with (first | (go_at_call 54; (with_reducible refine (trow_yes _ tb g R.length cap (.slice aa A.length ac) R (xf, xg, xb) k t1 (hO1.slc brEnc_len) hr'.out hLR hk hex.out).mono ?_); rintro e w2 ⟨rfl, hB2⟩; have t2 := t1.pure hB2; have x2 := x1.pure hB2; have s2 := s1.pure hB2; have q2 := q1.pure hB2; have j2 := j1.pure hB2; have hO2 := hO1.pure hB2; have hA2 := hA1.pure hB2; have hU2 := hU1.trans (Upd.of_below hB2) (fun _ h _ => h); have c2t0 := t2.at 0 rfl; have c2t1 := t2.at 1 rfl; have c2x0 := x2.at 0 rfl; have c2x1 := x2.at 1 rfl; have c2x2 := x2.at 2 rfl; have c2s := s2.at 0 rfl; have c2q := q2.at 0 rfl; have c2j := j2.at 0 rfl; obtain ⟨r20, r21, r22, r23, r24, r25, r26⟩ := br_cells (hO2.slc brEnc_len) hk; simp only [Nat.zero_add] at r20 r21 r22 r23 r24 r25 r26))
      go_region_held3 (fun w' => w'.cell? ⟨tb, 1, none⟩ = some (.slice aa A.length ac) ∧ w'.cell? ⟨sb, 0, none⟩ = some (.int .u64 se) ∧ w'.cell? ⟨xb1, 0, none⟩ = some (.int .u32 xf) ∧ w'.cell? ⟨xb1, 1, none⟩ = some (.string xg) ∧ w'.cell? ⟨xb1, 2, none⟩ = some (.string xb)) (first | exact ⟨c2t1, c2s, c2x0, c2x1, c2x2⟩ | exact ⟨c3t1, c3s, c3x0, c3x1, c3x2⟩) (first | (go_at_call 65; (with_reducible refine (has_yes2 _ _ A se (xf, xg, xb) j false (hA2.drew.slc ascEnc_len) hLA hJ.out hRow.out hz.out).mono ?_); rintro e w3 ⟨rfl, hB3⟩; have t3 := t2.drew.pure hB3; have x3 := x2.drew.pure hB3; have s3 := s2.drew.pure hB3; have q3 := q2.drew.pure hB3; have j3 := j2.drew.pure hB3; have hO3 := hO2.drew.pure hB3; have hA3 := hA2.drew.pure hB3; have hU3 := hU2.drew.trans (Upd.of_below hB3) (fun _ h _ => h); have c3t0 := t3.at 0 rfl; have c3t1 := t3.at 1 rfl; have c3x0 := x3.at 0 rfl; have c3x1 := x3.at 1 rfl; have c3x2 := x3.at 2 rfl; have c3s := s3.at 0 rfl; have c3q := q3.at 0 rfl; have c3j := j3.at 0 rfl; obtain ⟨r30, r31, r32, r33, r34, r35, r36⟩ := br_cells (hO3.slc brEnc_len) hk; simp only [Nat.zero_add] at r30 r31 r32 r33 r34 r35 r36))
      go_wp2_with (first | (go_at_call 50; (with_reducible refine (must_ok _ _).mono ?_); rintro e _ ⟨rfl, rfl⟩))
      refine wp_region_held_drew (S := (fun w' => w'.cell? ⟨sb, 0, none⟩ = some (.int .u64 se) ∧ w'.cell? ⟨xb1, 0, none⟩ = some (.int .u32 xf) ∧ w'.cell? ⟨xb1, 1, none⟩ = some (.string xg) ∧ w'.cell? ⟨xb1, 2, none⟩ = some (.string xb))) (by kernel_rfl) ?_ (fun hHeld => ?_)
      · (first | exact ⟨c3s, c3x0, c3x1, c3x2⟩ | exact ⟨cms, cmx0, cmx1, cmx2⟩ | exact ⟨cns, cnx0, cnx1, cnx2⟩)
      refine takeY 0 53 rfl rfl (v := ?_) ?_ hHeld ?_
      rotate_left 1
      · (intro w hSw; (try dsimp only at hSw); go_simp; (try with_reducible rfl))
      try simp only [Act.put, lsT, lsZ, lsS]
      refine takeY 1 54 rfl rfl (v := ?_) ?_ hHeld ?_
      rotate_left 1
      · (intro w hSw; (try dsimp only at hSw); go_simp; (try with_reducible rfl))
      try simp only [Act.put, lsT, lsZ, lsS]
      refine takeY 2 55 rfl rfl (v := ?_) ?_ hHeld ?_
      rotate_left 1
      · (intro w hSw; (try dsimp only at hSw); go_simp; (try with_reducible rfl))
      try simp only [Act.put, lsT, lsZ, lsS]
      refine takeY 3 56 rfl rfl (v := ?_) ?_ hHeld ?_
      rotate_left 1
      · (intro w hSw; (try dsimp only at hSw); go_simp; (try with_reducible rfl))
      try simp only [Act.put, lsT, lsZ, lsS]
      refine takeY 4 57 rfl rfl (v := ?_) ?_ hHeld ?_
      rotate_left 1
      · (intro w hSw; (try dsimp only at hSw); go_simp; (try with_reducible rfl))
      try simp only [Act.put, lsT, lsZ, lsS]
      refine takeY 6 59 rfl rfl (v := ?_) ?_ hHeld ?_
      rotate_left 1
      · (intro w hSw; (try dsimp only at hSw); go_simp; (try with_reducible rfl))
      try simp only [Act.put, lsT, lsZ, lsS]
      refine takeY 7 60 rfl rfl (v := ?_) ?_ hHeld ?_
      rotate_left 1
      · (intro w hSw; (try dsimp only at hSw); go_simp; (try with_reducible rfl))
      try simp only [Act.put, lsT, lsZ, lsS]
      refine wpAnyH_ready (rs := [5]) (by kernel_rfl) (by simp) ?_
      refine AllReadyH.cons rfl (fun K hK => ?_) AllReadyH.nil
      go_simp
      refine hK.out _ _ ?_ (fun hHeld => ?_)
      · (first | exact ⟨c3s, c3x0, c3x1, c3x2⟩ | exact ⟨cms, cmx0, cmx1, cmx2⟩ | exact ⟨cns, cnx0, cnx1, cnx2⟩)
      clear hK K
      try simp only [Act.put, lsT, lsZ, lsS]
      refine wpAnyH_ready (rs := [8]) (by kernel_rfl) (by simp) ?_
      refine AllReadyH.cons rfl (fun K hK => ?_) AllReadyH.nil
      go_simp
      go_at_call 67
      refine (end_any _ (.slice aa A.length ac) A se (xf, xg, xb) (hA3.drew.slc ascEnc_len) hLA).mono ?_
      rintro e wm ⟨v, rfl, hM, hBm⟩
      have tm := t3.drew.pure hBm
      have xm := x3.drew.pure hBm
      have sm := s3.drew.pure hBm
      have qm := q3.drew.pure hBm
      have jm := j3.drew.pure hBm
      have hOm := hO3.drew.pure hBm
      have hAm := hA3.drew.pure hBm
      have hUm := hU3.drew.trans (Upd.of_below hBm) (fun _ h _ => h)
      have cmt0 := tm.at 0 rfl
      have cmt1 := tm.at 1 rfl
      have cmx0 := xm.at 0 rfl
      have cmx1 := xm.at 1 rfl
      have cmx2 := xm.at 2 rfl
      have cms := sm.at 0 rfl
      have cmq := qm.at 0 rfl
      have cmj := jm.at 0 rfl
      obtain ⟨va, vc, rfl⟩ := own_len hM
      rw [hF2.out]
      refine hK.out _ _ ?_ (fun hHeld => ?_)
      · (first | exact ⟨c3s, c3x0, c3x1, c3x2⟩ | exact ⟨cms, cmx0, cmx1, cmx2⟩ | exact ⟨cns, cnx0, cnx1, cnx2⟩)
      clear hK K
      try simp only [Act.put, lsT, lsZ, lsS]
      refine takeY 9 62 rfl rfl (v := ?_) ?_ hHeld ?_
      rotate_left 1
      · (intro w hSw; (try dsimp only at hSw); go_simp; (try with_reducible rfl))
      try simp only [Act.put, lsT, lsZ, lsS]
      refine takeY 10 63 rfl rfl (v := ?_) ?_ hHeld ?_
      rotate_left 1
      · (intro w hSw; (try dsimp only at hSw); go_simp; (try with_reducible rfl))
      try simp only [Act.put, lsT, lsZ, lsS]
      refine wpAnyH_ready (rs := [11]) (by kernel_rfl) (by simp) ?_
      refine AllReadyH.cons rfl (fun K hK => ?_) AllReadyH.nil
      go_simp
      go_at_call 52
      refine (tlink_ok _ tb (.slice (some ⟨g, 0, none⟩) R.length cap) (.slice aa A.length ac) _ tm hM).mono ?_
      rintro e wn ⟨rfl, tn, hUl⟩
      have hMs : s + 5 ≤ w3.heap.size := Nat.le_trans hroom (hU3.size)
      have hAn := (hM.upd hUl (fun k hk e => by have := hM.ge hk; have := t3.lt; simp at *; omega)).rebase (b' := s + 5) (fun k hk => by have := hM.ge hk; simp at *; omega)
      have hOn := hOm.upd hUl (fun k hk e => hrt (by rw [hk, e]))
      have xn := xm.upd hUl (by omega)
      have sn := sm.upd hUl (by omega)
      have hUn := hUm.trans (hUl.mono (T := fun k => False ∨ s + 5 ≤ k) (fun k h _ => Or.inr (by rw [h]; exact hhigh))) (fun _ h _ => h)
      have cnx0 := xn.at 0 rfl; have cnx1 := xn.at 1 rfl; have cnx2 := xn.at 2 rfl; have cns := sn.at 0 rfl
      refine hK.out _ _ ?_ (fun hHeld => ?_)
      · (first | exact ⟨c3s, c3x0, c3x1, c3x2⟩ | exact ⟨cms, cmx0, cmx1, cmx2⟩ | exact ⟨cns, cnx0, cnx1, cnx2⟩)
      clear hK K
      try simp only [Act.put, lsT, lsZ, lsS]
      refine wpAnyH_done (by kernel_rfl) ?_ _
      have qn := qm.upd hUl (by omega); have jn := jm.upd hUl (by omega); have cnq := qn.at 0 rfl; have cnj := jn.at 0 rfl; have cnt0 := tn.at 0 rfl
      obtain ⟨rn0, rn1, rn2, rn3, rn4, rn5, rn6⟩ := br_cells (hOn.slc brEnc_len) hk
      simp only [Nat.zero_add] at rn0 rn1 rn2 rn3 rn4 rn5 rn6
      have hapn : ∀ k, (Value.slice (some ⟨g, 0, none⟩) R.length cap).ownBlock = some k → (Value.slice va (endF A se (xf, xg, xb)).1.length vc).ownBlock ≠ some k := fun k h e => by have h2 : some g = some k := h; injection h2 with h2; have := hM.ge e; have := hU3.size; simp at *; omega
      go_wp2
      (first | go_ret | go_ret2)
      rw [hD.out]
      exact .inl ⟨_, _, rfl, rfl, tn, hOn, hAn, hUn, trivial⟩
  · have hdum := True.intro
    cases fail
    rotate_left 1
    · have hdum := True.intro
      have hD : Hid (endD R A se (xf, xg, xb) true false = (R.set k (R[k].spoil 1), (endF A se (xf, xg, xb)).1, (R[k].spoil 1).why, 0)) := Lib.hid (by unfold endD; rw [hI.out]; simp only [hJ.out]; simp [List.getElem?_eq_getElem hk])
      have hF2 := Lib.hid (end_done hmay'.out hJ.out)
      clear hz0 hz1
      go_enter Try.func64, Try.ntmps64
      go_wp2_with (first | (go_at_call 54; (with_reducible refine (trow_yes _ tb g R.length cap (.slice aa A.length ac) R (xf, xg, xb) k t1 (hO1.slc brEnc_len) hr'.out hLR hk hex.out).mono ?_); rintro e w2 ⟨rfl, hB2⟩; have t2 := t1.pure hB2; have x2 := x1.pure hB2; have s2 := s1.pure hB2; have q2 := q1.pure hB2; have j2 := j1.pure hB2; have hO2 := hO1.pure hB2; have hA2 := hA1.pure hB2; have hU2 := hU1.trans (Upd.of_below hB2) (fun _ h _ => h); have c2t0 := t2.at 0 rfl; have c2t1 := t2.at 1 rfl; have c2x0 := x2.at 0 rfl; have c2x1 := x2.at 1 rfl; have c2x2 := x2.at 2 rfl; have c2s := s2.at 0 rfl; have c2q := q2.at 0 rfl; have c2j := j2.at 0 rfl; obtain ⟨r20, r21, r22, r23, r24, r25, r26⟩ := br_cells (hO2.slc brEnc_len) hk; simp only [Nat.zero_add] at r20 r21 r22 r23 r24 r25 r26))
      go_region_held3 (fun w' => w'.cell? ⟨tb, 1, none⟩ = some (.slice aa A.length ac) ∧ w'.cell? ⟨sb, 0, none⟩ = some (.int .u64 se) ∧ w'.cell? ⟨xb1, 0, none⟩ = some (.int .u32 xf) ∧ w'.cell? ⟨xb1, 1, none⟩ = some (.string xg) ∧ w'.cell? ⟨xb1, 2, none⟩ = some (.string xb)) (first | exact ⟨c2t1, c2s, c2x0, c2x1, c2x2⟩ | exact ⟨c3t1, c3s, c3x0, c3x1, c3x2⟩) (first | (go_at_call 65; (with_reducible refine (has_yes2 _ _ A se (xf, xg, xb) j z (hA2.drew.slc ascEnc_len) hLA hJ.out hRow.out hz.out).mono ?_); rintro e w3 ⟨rfl, hB3⟩; have t3 := t2.drew.pure hB3; have x3 := x2.drew.pure hB3; have s3 := s2.drew.pure hB3; have q3 := q2.drew.pure hB3; have j3 := j2.drew.pure hB3; have hO3 := hO2.drew.pure hB3; have hA3 := hA2.drew.pure hB3; have hU3 := hU2.drew.trans (Upd.of_below hB3) (fun _ h _ => h); have c3t0 := t3.at 0 rfl; have c3t1 := t3.at 1 rfl; have c3x0 := x3.at 0 rfl; have c3x1 := x3.at 1 rfl; have c3x2 := x3.at 2 rfl; have c3s := s3.at 0 rfl; have c3q := q3.at 0 rfl; have c3j := j3.at 0 rfl; obtain ⟨r30, r31, r32, r33, r34, r35, r36⟩ := br_cells (hO3.slc brEnc_len) hk; simp only [Nat.zero_add] at r30 r31 r32 r33 r34 r35 r36))
      go_wp2_with (first | (go_at_call 50; (with_reducible refine (must_ok _ _).mono ?_); rintro e _ ⟨rfl, rfl⟩))
      refine wp_region_held_drew (S := (fun w' => w'.cell? ⟨sb, 0, none⟩ = some (.int .u64 se) ∧ w'.cell? ⟨xb1, 0, none⟩ = some (.int .u32 xf) ∧ w'.cell? ⟨xb1, 1, none⟩ = some (.string xg) ∧ w'.cell? ⟨xb1, 2, none⟩ = some (.string xb))) (by kernel_rfl) ?_ (fun hHeld => ?_)
      · (first | exact ⟨c3s, c3x0, c3x1, c3x2⟩ | exact ⟨cms, cmx0, cmx1, cmx2⟩ | exact ⟨cns, cnx0, cnx1, cnx2⟩)
      refine takeY 0 53 rfl rfl (v := ?_) ?_ hHeld ?_
      rotate_left 1
      · (intro w hSw; (try dsimp only at hSw); go_simp; (try with_reducible rfl))
      try simp only [Act.put, lsT, lsZ, lsS]
      refine takeY 1 54 rfl rfl (v := ?_) ?_ hHeld ?_
      rotate_left 1
      · (intro w hSw; (try dsimp only at hSw); go_simp; (try with_reducible rfl))
      try simp only [Act.put, lsT, lsZ, lsS]
      refine takeY 2 55 rfl rfl (v := ?_) ?_ hHeld ?_
      rotate_left 1
      · (intro w hSw; (try dsimp only at hSw); go_simp; (try with_reducible rfl))
      try simp only [Act.put, lsT, lsZ, lsS]
      refine takeY 3 56 rfl rfl (v := ?_) ?_ hHeld ?_
      rotate_left 1
      · (intro w hSw; (try dsimp only at hSw); go_simp; (try with_reducible rfl))
      try simp only [Act.put, lsT, lsZ, lsS]
      refine takeY 4 57 rfl rfl (v := ?_) ?_ hHeld ?_
      rotate_left 1
      · (intro w hSw; (try dsimp only at hSw); go_simp; (try with_reducible rfl))
      try simp only [Act.put, lsT, lsZ, lsS]
      refine takeY 6 59 rfl rfl (v := ?_) ?_ hHeld ?_
      rotate_left 1
      · (intro w hSw; (try dsimp only at hSw); go_simp; (try with_reducible rfl))
      try simp only [Act.put, lsT, lsZ, lsS]
      refine takeY 7 60 rfl rfl (v := ?_) ?_ hHeld ?_
      rotate_left 1
      · (intro w hSw; (try dsimp only at hSw); go_simp; (try with_reducible rfl))
      try simp only [Act.put, lsT, lsZ, lsS]
      refine wpAnyH_ready (rs := [5]) (by kernel_rfl) (by simp) ?_
      refine AllReadyH.cons rfl (fun K hK => ?_) AllReadyH.nil
      go_simp
      refine hK.out _ _ ?_ (fun hHeld => ?_)
      · (first | exact ⟨c3s, c3x0, c3x1, c3x2⟩ | exact ⟨cms, cmx0, cmx1, cmx2⟩ | exact ⟨cns, cnx0, cnx1, cnx2⟩)
      clear hK K
      try simp only [Act.put, lsT, lsZ, lsS]
      refine wpAnyH_ready (rs := [8]) (by kernel_rfl) (by simp) ?_
      refine AllReadyH.cons rfl (fun K hK => ?_) AllReadyH.nil
      go_simp
      go_at_call 67
      refine (end_any _ (.slice aa A.length ac) A se (xf, xg, xb) (hA3.drew.slc ascEnc_len) hLA).mono ?_
      rintro e wm ⟨v, rfl, hM, hBm⟩
      have tm := t3.drew.pure hBm
      have xm := x3.drew.pure hBm
      have sm := s3.drew.pure hBm
      have qm := q3.drew.pure hBm
      have jm := j3.drew.pure hBm
      have hOm := hO3.drew.pure hBm
      have hAm := hA3.drew.pure hBm
      have hUm := hU3.drew.trans (Upd.of_below hBm) (fun _ h _ => h)
      have cmt0 := tm.at 0 rfl
      have cmt1 := tm.at 1 rfl
      have cmx0 := xm.at 0 rfl
      have cmx1 := xm.at 1 rfl
      have cmx2 := xm.at 2 rfl
      have cms := sm.at 0 rfl
      have cmq := qm.at 0 rfl
      have cmj := jm.at 0 rfl
      obtain ⟨va, vc, rfl⟩ := own_len hM
      rw [hF2.out]
      refine hK.out _ _ ?_ (fun hHeld => ?_)
      · (first | exact ⟨c3s, c3x0, c3x1, c3x2⟩ | exact ⟨cms, cmx0, cmx1, cmx2⟩ | exact ⟨cns, cnx0, cnx1, cnx2⟩)
      clear hK K
      try simp only [Act.put, lsT, lsZ, lsS]
      refine takeY 9 62 rfl rfl (v := ?_) ?_ hHeld ?_
      rotate_left 1
      · (intro w hSw; (try dsimp only at hSw); go_simp; (try with_reducible rfl))
      try simp only [Act.put, lsT, lsZ, lsS]
      refine takeY 10 63 rfl rfl (v := ?_) ?_ hHeld ?_
      rotate_left 1
      · (intro w hSw; (try dsimp only at hSw); go_simp; (try with_reducible rfl))
      try simp only [Act.put, lsT, lsZ, lsS]
      refine wpAnyH_ready (rs := [11]) (by kernel_rfl) (by simp) ?_
      refine AllReadyH.cons rfl (fun K hK => ?_) AllReadyH.nil
      go_simp
      go_at_call 52
      refine (tlink_ok _ tb (.slice (some ⟨g, 0, none⟩) R.length cap) (.slice aa A.length ac) _ tm hM).mono ?_
      rintro e wn ⟨rfl, tn, hUl⟩
      have hMs : s + 5 ≤ w3.heap.size := Nat.le_trans hroom (hU3.size)
      have hAn := (hM.upd hUl (fun k hk e => by have := hM.ge hk; have := t3.lt; simp at *; omega)).rebase (b' := s + 5) (fun k hk => by have := hM.ge hk; simp at *; omega)
      have hOn := hOm.upd hUl (fun k hk e => hrt (by rw [hk, e]))
      have xn := xm.upd hUl (by omega)
      have sn := sm.upd hUl (by omega)
      have hUn := hUm.trans (hUl.mono (T := fun k => False ∨ s + 5 ≤ k) (fun k h _ => Or.inr (by rw [h]; exact hhigh))) (fun _ h _ => h)
      have cnx0 := xn.at 0 rfl; have cnx1 := xn.at 1 rfl; have cnx2 := xn.at 2 rfl; have cns := sn.at 0 rfl
      refine hK.out _ _ ?_ (fun hHeld => ?_)
      · (first | exact ⟨c3s, c3x0, c3x1, c3x2⟩ | exact ⟨cms, cmx0, cmx1, cmx2⟩ | exact ⟨cns, cnx0, cnx1, cnx2⟩)
      clear hK K
      try simp only [Act.put, lsT, lsZ, lsS]
      refine wpAnyH_done (by kernel_rfl) ?_ _
      have qn := qm.upd hUl (by omega); have jn := jm.upd hUl (by omega); have cnq := qn.at 0 rfl; have cnj := jn.at 0 rfl; have cnt0 := tn.at 0 rfl
      obtain ⟨rn0, rn1, rn2, rn3, rn4, rn5, rn6⟩ := br_cells (hOn.slc brEnc_len) hk
      simp only [Nat.zero_add] at rn0 rn1 rn2 rn3 rn4 rn5 rn6
      have hapn : ∀ k, (Value.slice (some ⟨g, 0, none⟩) R.length cap).ownBlock = some k → (Value.slice va (endF A se (xf, xg, xb)).1.length vc).ownBlock ≠ some k := fun k h e => by have h2 : some g = some k := h; injection h2 with h2; have := hM.ge e; have := hU3.size; simp at *; omega
      have hap := hapn
      go_wp2_with (first | (go_at_call 68; (with_reducible refine (spoil_any _ g R.length cap k R 1 hOn hk).mono ?_); rintro e w4 ⟨rfl, hO4, hUg4⟩; have hU4 := hUn.trans (hUg4.mono (T := fun k => False ∨ s + 5 ≤ k) (fun k h _ => Or.inr (by rw [h]; exact hg1))) (fun _ h _ => h); have t4 := tn.upd hUg4 (fun e => hrt2 e.symm); have hA4 := hAn.upd hUg4 (fun k hk e => hap g rfl (by rw [hk, e])); have x4 := xn.upd hUg4 (by omega); have s4 := sn.upd hUg4 (by omega); have q4 := qn.upd hUg4 (by omega); have j4 := jn.upd hUg4 (by omega); have c4t0 := t4.at 0 rfl; have c4t1 := t4.at 1 rfl; have c4x0 := x4.at 0 rfl; have c4x1 := x4.at 1 rfl; have c4x2 := x4.at 2 rfl; have c4s := s4.at 0 rfl; have c4q := q4.at 0 rfl; have c4j := j4.at 0 rfl; obtain ⟨r40, r41, r42, r43, r44, r45, r46⟩ := br_cells (hO4.slc brEnc_len) (by simpa using hk); simp only [Nat.zero_add, List.getElem_set_self] at r40 r41 r42 r43 r44 r45 r46))
      (first | go_ret | go_ret2)
      rw [hD.out]
      exact .inl ⟨_, _, rfl, rfl, t4, hO4, hA4, hU4, trivial⟩
    · have hdum := True.intro
      have hD : Hid (endD R A se (xf, xg, xb) false false = (R, (endF A se (xf, xg, xb)).1, R[k].why, 0)) := Lib.hid (by unfold endD; rw [hI.out]; simp only [hJ.out]; simp [List.getElem?_eq_getElem hk])
      have hF2 := Lib.hid (end_done hmay'.out hJ.out)
      clear hz0 hz1
      go_enter Try.func64, Try.ntmps64
      go_wp2_with (first | (go_at_call 54; (with_reducible refine (trow_yes _ tb g R.length cap (.slice aa A.length ac) R (xf, xg, xb) k t1 (hO1.slc brEnc_len) hr'.out hLR hk hex.out).mono ?_); rintro e w2 ⟨rfl, hB2⟩; have t2 := t1.pure hB2; have x2 := x1.pure hB2; have s2 := s1.pure hB2; have q2 := q1.pure hB2; have j2 := j1.pure hB2; have hO2 := hO1.pure hB2; have hA2 := hA1.pure hB2; have hU2 := hU1.trans (Upd.of_below hB2) (fun _ h _ => h); have c2t0 := t2.at 0 rfl; have c2t1 := t2.at 1 rfl; have c2x0 := x2.at 0 rfl; have c2x1 := x2.at 1 rfl; have c2x2 := x2.at 2 rfl; have c2s := s2.at 0 rfl; have c2q := q2.at 0 rfl; have c2j := j2.at 0 rfl; obtain ⟨r20, r21, r22, r23, r24, r25, r26⟩ := br_cells (hO2.slc brEnc_len) hk; simp only [Nat.zero_add] at r20 r21 r22 r23 r24 r25 r26))
      go_region_held3 (fun w' => w'.cell? ⟨tb, 1, none⟩ = some (.slice aa A.length ac) ∧ w'.cell? ⟨sb, 0, none⟩ = some (.int .u64 se) ∧ w'.cell? ⟨xb1, 0, none⟩ = some (.int .u32 xf) ∧ w'.cell? ⟨xb1, 1, none⟩ = some (.string xg) ∧ w'.cell? ⟨xb1, 2, none⟩ = some (.string xb)) (first | exact ⟨c2t1, c2s, c2x0, c2x1, c2x2⟩ | exact ⟨c3t1, c3s, c3x0, c3x1, c3x2⟩) (first | (go_at_call 65; (with_reducible refine (has_yes2 _ _ A se (xf, xg, xb) j z (hA2.drew.slc ascEnc_len) hLA hJ.out hRow.out hz.out).mono ?_); rintro e w3 ⟨rfl, hB3⟩; have t3 := t2.drew.pure hB3; have x3 := x2.drew.pure hB3; have s3 := s2.drew.pure hB3; have q3 := q2.drew.pure hB3; have j3 := j2.drew.pure hB3; have hO3 := hO2.drew.pure hB3; have hA3 := hA2.drew.pure hB3; have hU3 := hU2.drew.trans (Upd.of_below hB3) (fun _ h _ => h); have c3t0 := t3.at 0 rfl; have c3t1 := t3.at 1 rfl; have c3x0 := x3.at 0 rfl; have c3x1 := x3.at 1 rfl; have c3x2 := x3.at 2 rfl; have c3s := s3.at 0 rfl; have c3q := q3.at 0 rfl; have c3j := j3.at 0 rfl; obtain ⟨r30, r31, r32, r33, r34, r35, r36⟩ := br_cells (hO3.slc brEnc_len) hk; simp only [Nat.zero_add] at r30 r31 r32 r33 r34 r35 r36))
      go_wp2_with (first | (go_at_call 50; (with_reducible refine (must_ok _ _).mono ?_); rintro e _ ⟨rfl, rfl⟩))
      refine wp_region_held_drew (S := (fun w' => w'.cell? ⟨sb, 0, none⟩ = some (.int .u64 se) ∧ w'.cell? ⟨xb1, 0, none⟩ = some (.int .u32 xf) ∧ w'.cell? ⟨xb1, 1, none⟩ = some (.string xg) ∧ w'.cell? ⟨xb1, 2, none⟩ = some (.string xb))) (by kernel_rfl) ?_ (fun hHeld => ?_)
      · (first | exact ⟨c3s, c3x0, c3x1, c3x2⟩ | exact ⟨cms, cmx0, cmx1, cmx2⟩ | exact ⟨cns, cnx0, cnx1, cnx2⟩)
      refine takeY 0 53 rfl rfl (v := ?_) ?_ hHeld ?_
      rotate_left 1
      · (intro w hSw; (try dsimp only at hSw); go_simp; (try with_reducible rfl))
      try simp only [Act.put, lsT, lsZ, lsS]
      refine takeY 1 54 rfl rfl (v := ?_) ?_ hHeld ?_
      rotate_left 1
      · (intro w hSw; (try dsimp only at hSw); go_simp; (try with_reducible rfl))
      try simp only [Act.put, lsT, lsZ, lsS]
      refine takeY 2 55 rfl rfl (v := ?_) ?_ hHeld ?_
      rotate_left 1
      · (intro w hSw; (try dsimp only at hSw); go_simp; (try with_reducible rfl))
      try simp only [Act.put, lsT, lsZ, lsS]
      refine takeY 3 56 rfl rfl (v := ?_) ?_ hHeld ?_
      rotate_left 1
      · (intro w hSw; (try dsimp only at hSw); go_simp; (try with_reducible rfl))
      try simp only [Act.put, lsT, lsZ, lsS]
      refine takeY 4 57 rfl rfl (v := ?_) ?_ hHeld ?_
      rotate_left 1
      · (intro w hSw; (try dsimp only at hSw); go_simp; (try with_reducible rfl))
      try simp only [Act.put, lsT, lsZ, lsS]
      refine takeY 6 59 rfl rfl (v := ?_) ?_ hHeld ?_
      rotate_left 1
      · (intro w hSw; (try dsimp only at hSw); go_simp; (try with_reducible rfl))
      try simp only [Act.put, lsT, lsZ, lsS]
      refine takeY 7 60 rfl rfl (v := ?_) ?_ hHeld ?_
      rotate_left 1
      · (intro w hSw; (try dsimp only at hSw); go_simp; (try with_reducible rfl))
      try simp only [Act.put, lsT, lsZ, lsS]
      refine wpAnyH_ready (rs := [5]) (by kernel_rfl) (by simp) ?_
      refine AllReadyH.cons rfl (fun K hK => ?_) AllReadyH.nil
      go_simp
      refine hK.out _ _ ?_ (fun hHeld => ?_)
      · (first | exact ⟨c3s, c3x0, c3x1, c3x2⟩ | exact ⟨cms, cmx0, cmx1, cmx2⟩ | exact ⟨cns, cnx0, cnx1, cnx2⟩)
      clear hK K
      try simp only [Act.put, lsT, lsZ, lsS]
      refine wpAnyH_ready (rs := [8]) (by kernel_rfl) (by simp) ?_
      refine AllReadyH.cons rfl (fun K hK => ?_) AllReadyH.nil
      go_simp
      go_at_call 67
      refine (end_any _ (.slice aa A.length ac) A se (xf, xg, xb) (hA3.drew.slc ascEnc_len) hLA).mono ?_
      rintro e wm ⟨v, rfl, hM, hBm⟩
      have tm := t3.drew.pure hBm
      have xm := x3.drew.pure hBm
      have sm := s3.drew.pure hBm
      have qm := q3.drew.pure hBm
      have jm := j3.drew.pure hBm
      have hOm := hO3.drew.pure hBm
      have hAm := hA3.drew.pure hBm
      have hUm := hU3.drew.trans (Upd.of_below hBm) (fun _ h _ => h)
      have cmt0 := tm.at 0 rfl
      have cmt1 := tm.at 1 rfl
      have cmx0 := xm.at 0 rfl
      have cmx1 := xm.at 1 rfl
      have cmx2 := xm.at 2 rfl
      have cms := sm.at 0 rfl
      have cmq := qm.at 0 rfl
      have cmj := jm.at 0 rfl
      obtain ⟨va, vc, rfl⟩ := own_len hM
      rw [hF2.out]
      refine hK.out _ _ ?_ (fun hHeld => ?_)
      · (first | exact ⟨c3s, c3x0, c3x1, c3x2⟩ | exact ⟨cms, cmx0, cmx1, cmx2⟩ | exact ⟨cns, cnx0, cnx1, cnx2⟩)
      clear hK K
      try simp only [Act.put, lsT, lsZ, lsS]
      refine takeY 9 62 rfl rfl (v := ?_) ?_ hHeld ?_
      rotate_left 1
      · (intro w hSw; (try dsimp only at hSw); go_simp; (try with_reducible rfl))
      try simp only [Act.put, lsT, lsZ, lsS]
      refine takeY 10 63 rfl rfl (v := ?_) ?_ hHeld ?_
      rotate_left 1
      · (intro w hSw; (try dsimp only at hSw); go_simp; (try with_reducible rfl))
      try simp only [Act.put, lsT, lsZ, lsS]
      refine wpAnyH_ready (rs := [11]) (by kernel_rfl) (by simp) ?_
      refine AllReadyH.cons rfl (fun K hK => ?_) AllReadyH.nil
      go_simp
      go_at_call 52
      refine (tlink_ok _ tb (.slice (some ⟨g, 0, none⟩) R.length cap) (.slice aa A.length ac) _ tm hM).mono ?_
      rintro e wn ⟨rfl, tn, hUl⟩
      have hMs : s + 5 ≤ w3.heap.size := Nat.le_trans hroom (hU3.size)
      have hAn := (hM.upd hUl (fun k hk e => by have := hM.ge hk; have := t3.lt; simp at *; omega)).rebase (b' := s + 5) (fun k hk => by have := hM.ge hk; simp at *; omega)
      have hOn := hOm.upd hUl (fun k hk e => hrt (by rw [hk, e]))
      have xn := xm.upd hUl (by omega)
      have sn := sm.upd hUl (by omega)
      have hUn := hUm.trans (hUl.mono (T := fun k => False ∨ s + 5 ≤ k) (fun k h _ => Or.inr (by rw [h]; exact hhigh))) (fun _ h _ => h)
      have cnx0 := xn.at 0 rfl; have cnx1 := xn.at 1 rfl; have cnx2 := xn.at 2 rfl; have cns := sn.at 0 rfl
      refine hK.out _ _ ?_ (fun hHeld => ?_)
      · (first | exact ⟨c3s, c3x0, c3x1, c3x2⟩ | exact ⟨cms, cmx0, cmx1, cmx2⟩ | exact ⟨cns, cnx0, cnx1, cnx2⟩)
      clear hK K
      try simp only [Act.put, lsT, lsZ, lsS]
      refine wpAnyH_done (by kernel_rfl) ?_ _
      have qn := qm.upd hUl (by omega); have jn := jm.upd hUl (by omega); have cnq := qn.at 0 rfl; have cnj := jn.at 0 rfl; have cnt0 := tn.at 0 rfl
      obtain ⟨rn0, rn1, rn2, rn3, rn4, rn5, rn6⟩ := br_cells (hOn.slc brEnc_len) hk
      simp only [Nat.zero_add] at rn0 rn1 rn2 rn3 rn4 rn5 rn6
      have hapn : ∀ k, (Value.slice (some ⟨g, 0, none⟩) R.length cap).ownBlock = some k → (Value.slice va (endF A se (xf, xg, xb)).1.length vc).ownBlock ≠ some k := fun k h e => by have h2 : some g = some k := h; injection h2 with h2; have := hM.ge e; have := hU3.size; simp at *; omega
      go_wp2
      (first | go_ret | go_ret2)
      rw [hD.out]
      exact .inl ⟨_, _, rfl, rfl, tn, hOn, hAn, hUn, trivial⟩
end Go.Proofs.Ytcelpincmpjhkaa
