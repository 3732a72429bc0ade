/- The law BranchSure of chapter 19. Conditions: rows and associations read. Written by gen_bsure.py. -/
import Derived.Test.YtcelpincmpjhkaaBrX
import Derived.Test.YtcelpincmpjhkaaBrY
namespace Go.Proofs.Ytcelpincmpjhkaa
open Go.RowKit
set_option linter.unusedVariables false

theorem any_snoc (A : List Asc) (x : Xid) {k : Nat} (h : k < A.length) : (A.take (k + 1)).any (fun a => a.2.1 == x) = ((A.take k).any (fun a => a.2.1 == x) || A[k].2.1 == x) := by
  rw [take_snoc A h, List.any_append]; simp
theorem any_not {A : List Asc} {x : Xid} (h : ∀ a ∈ A, a.2.1 ≠ x) : A.any (fun a => a.2.1 == x) = false := by
  rw [List.any_eq_false]
  intro a ha e
  exact h a ha (by
    have := neX_decide a.2.1 x
    by_cases h2 : a.2.1 = x
    · exact h2
    · exfalso; rw [decide_eq_true h2] at this
      have h3 : (!(a.2.1 == x)) = true := this
      rw [e] at h3; simp at h3)
set_option maxRecDepth 100000 in
set_option maxHeartbeats 8000000 in
theorem branchSure_any (w : World) (rv av : Value) (R : List Brn) (A : List Asc) (x : Xid) (one : Bool) (hR : Slc brEnc 7 w rv R) (hA : Slc ascEnc 5 w av A) :
    Calls Try.prog 5 #[.agg #[rv, av], .agg #[.int .u32 x.1, .string x.2.1, .string x.2.2], .bool one] w fun e w' => e = .returned (.bool true) ∧ Below w.heap.size w w' := by
  obtain ⟨ra, rc, rfl, hm1⟩ := hR.len
  obtain ⟨aa, ac, rfl, hm2⟩ := hA.len
  unfold maxLen at hm1 hm2
  obtain ⟨xf, xg, xb⟩ := x
  simp only
  have hT0 : Below w.heap.size w ((w.alloc (.cells #[.slice ra R.length rc, .slice aa A.length ac] 25)).alloc (.cells #[.int .u32 xf, .string xg, .string xb] 28)) := ((Below.refl _ _).alloc (Nat.le_refl _) _).alloc (by simp) _
  have tt0 : Blk ((w.alloc (.cells #[.slice ra R.length rc, .slice aa A.length ac] 25)).alloc (.cells #[.int .u32 xf, .string xg, .string xb] 28)) w.heap.size [.slice ra R.length rc, .slice aa A.length ac] := (Blk.new w [.slice ra R.length rc, .slice aa A.length ac] 25).alloc (.cells #[.int .u32 xf, .string xg, .string xb] 28)
  have xx0 : Blk ((w.alloc (.cells #[.slice ra R.length rc, .slice aa A.length ac] 25)).alloc (.cells #[.int .u32 xf, .string xg, .string xb] 28)) (w.heap.size + 1) [.int .u32 xf, .string xg, .string xb] := Blk.newAt2 (w.alloc (.cells #[.slice ra R.length rc, .slice aa A.length ac] 25)) [.int .u32 xf, .string xg, .string xb] 28 (w.heap.size + 1) (by simp)
  have ct0 := tt0.at 0 rfl; have ct1 := tt0.at 1 rfl; have cx0 := xx0.at 0 rfl; have cx1 := xx0.at 1 rfl; have cx2 := xx0.at 2 rfl
  have hR0 := hR.pure hT0
  have hA0 := hA.pure hT0
  obtain ⟨gb, hgb⟩ : ∃ gb, (decide (20 < R.length) || decide (20 < A.length)) = gb := ⟨_, rfl⟩
  have hgb2 := Lib.hid hgb
  cases gb
  rotate_left 1
  · have hdum := True.intro
    clear hgb
    go_enter Try.func5, Try.ntmps5
    go_wp2_with (first | (go_at_call 10; (with_reducible refine (great_any _ _ _ R A _ hR0 hA0 hgb2.out).mono ?_); rintro e w1 ⟨rfl, hB1⟩; have hT1 := hT0.trans (hB1.mono hT0.size); have tt1 := tt0.pure hB1; have xx1 := xx0.pure hB1; have hR1 := hR0.pure hB1; have hA1 := hA0.pure hB1; clear ct0 ct1 cx0 cx1 cx2; have ct0 := tt1.at 0 rfl; have ct1 := tt1.at 1 rfl; have cx0 := xx1.at 0 rfl; have cx1 := xx1.at 1 rfl; have cx2 := xx1.at 2 rfl) | (go_at_call 11; (with_reducible refine (bhead_any _).mono ?_); rintro e w2 ⟨rfl, hB2⟩; have hT2 := hT1.trans (hB2.mono hT1.size)))
    go_ret
    exact ⟨rfl, hT2⟩
  have hLR : R.length ≤ 1000000 := by simp only [Bool.or_eq_false_iff, decide_eq_false_iff_not] at hgb; omega
  have hLA : A.length ≤ 1000000 := by simp only [Bool.or_eq_false_iff, decide_eq_false_iff_not] at hgb; omega
  clear hgb
  rcases tabE_cases R A with ⟨h1, h2⟩ | ⟨h1, h2⟩
  rotate_left 1
  · have htab := Lib.hid h2
    clear h1 h2
    go_enter Try.func5, Try.ntmps5
    go_wp2_with (first | (go_at_call 10; (with_reducible refine (great_any _ _ _ R A _ hR0 hA0 hgb2.out).mono ?_); rintro e w1 ⟨rfl, hB1⟩; have hT1 := hT0.trans (hB1.mono hT0.size); have tt1 := tt0.pure hB1; have xx1 := xx0.pure hB1; have hR1 := hR0.pure hB1; have hA1 := hA0.pure hB1; clear ct0 ct1 cx0 cx1 cx2; have ct0 := tt1.at 0 rfl; have ct1 := tt1.at 1 rfl; have cx0 := xx1.at 0 rfl; have cx1 := xx1.at 1 rfl; have cx2 := xx1.at 2 rfl) | (go_at_call 21; (with_reducible refine (tcheck2 _ _ _ R A 190 hR1 hA1 hLR hLA htab.out).mono ?_); rintro e w2 ⟨rfl, hB2⟩; have hT2 := hT1.trans (hB2.mono hT1.size); have tt2 := tt1.pure hB2; have xx2 := xx1.pure hB2; have hR2 := hR1.pure hB2; have hA2 := hA1.pure hB2; clear ct0 ct1 cx0 cx1 cx2; have ct0 := tt2.at 0 rfl; have ct1 := tt2.at 1 rfl; have cx0 := xx2.at 0 rfl; have cx1 := xx2.at 1 rfl; have cx2 := xx2.at 2 rfl) | (go_at_call 11; (with_reducible refine (bhead_any _).mono ?_); rintro e w3 ⟨rfl, hB3⟩; have hT3 := hT2.trans (hB3.mono hT2.size)))
    go_ret
    exact ⟨rfl, hT3⟩
  have htab := Lib.hid h2
  have hTab := Lib.hid h1
  clear h1 h2
  obtain ⟨D1, hD1⟩ : ∃ D, overB (mayB R A true (xf, xg, xb)) (commitD R A (xf, xg, xb) one) = D := ⟨_, rfl⟩
  obtain ⟨D2, hD2⟩ : ∃ D, overB (mayB R A true (xf, xg, xb)) (prepareD R A (xf, xg, xb) false) = D := ⟨_, rfl⟩
  obtain ⟨R1, A1, a1, e1⟩ := D1
  obtain ⟨R2, A2, a2, e2⟩ := D2
  have hS1 := Lib.hid (fun (p : e1 = 0) (q : a1 = 0) => sure_commit (x := (xf, xg, xb)) (one := one) hTab.out (by rw [hD1]; exact p) (by rw [hD1]; exact q))
  have hS2 := Lib.hid (fun (p : e2 = 0) (q : a2 = 0) => sure_prepare (x := (xf, xg, xb)) hTab.out (by rw [hD2]; exact p) (by rw [hD2]; exact q))
  have hcom := Lib.hid (fun (u : World) (r v : Value) (h1 : Slc brEnc 7 u r R) (h2 : Slc ascEnc 5 u v A) => show Calls Try.prog 25 #[.agg #[r, v], .agg #[.int .u32 xf, .string xg, .string xb], .bool one] u (TabPost u (R1, A1, a1, e1)) from hD1 ▸ commit_fn u r v R A (xf, xg, xb) one h1 h2 hLR hLA)
  have hpre := Lib.hid (fun (u : World) (r v : Value) (h1 : Slc brEnc 7 u r R) (h2 : Slc ascEnc 5 u v A) => show Calls Try.prog 26 #[.agg #[r, v], .agg #[.int .u32 xf, .string xg, .string xb], .bool false] u (TabPost u (R2, A2, a2, e2)) from hD2 ▸ prepare_fn u r v R A (xf, xg, xb) false h1 h2 hLR hLA)
  have hD1' := Lib.hid hD1
  have hD2' := Lib.hid hD2
  clear hD1 hD2
  obtain ⟨b, hb⟩ : ∃ b, (findD R A (xf, xg, xb)).getD zeroB = b := ⟨_, rfl⟩
  obtain ⟨is, his⟩ : ∃ is, (findD R A (xf, xg, xb)).isSome = is := ⟨_, rfl⟩
  have hfnd := Lib.hid (fun (u : World) (r v : Value) (h1 : Slc brEnc 7 u r R) (h2 : Slc ascEnc 5 u v A) => show Calls Try.prog 18 #[.agg #[r, v], .agg #[.int .u32 xf, .string xg, .string xb]] u (fun e w' => e = .returned (.tuple #[brVal b, .bool is]) ∧ Below u.heap.size u w') from by have := find_fn u r v R A (xf, xg, xb) h1 h2 hLR hLA; rw [hb, his] at this; exact this)
  have hb' := Lib.hid hb
  have his' := Lib.hid his
  clear hb his
  have qE := xid_eql
  obtain ⟨⟨bf, bg, bh⟩, bs, bw, bt, bl⟩ := b
  go_enter Try.func5, Try.ntmps5
  go_wp2_with (first | (go_at_call 10; (with_reducible refine (great_any _ _ _ R A _ hR0 hA0 hgb2.out).mono ?_); rintro e w1 ⟨rfl, hB1⟩; have hT1 := hT0.trans (hB1.mono hT0.size); have tt1 := tt0.pure hB1; have xx1 := xx0.pure hB1; have hR1 := hR0.pure hB1; have hA1 := hA0.pure hB1; clear ct0 ct1 cx0 cx1 cx2; have ct0 := tt1.at 0 rfl; have ct1 := tt1.at 1 rfl; have cx0 := xx1.at 0 rfl; have cx1 := xx1.at 1 rfl; have cx2 := xx1.at 2 rfl) | (go_at_call 21; (with_reducible refine (tcheck2 _ _ _ R A 0 hR1 hA1 hLR hLA htab.out).mono ?_); rintro e w2 ⟨rfl, hB2⟩; have hT2 := hT1.trans (hB2.mono hT1.size); have tt2 := tt1.pure hB2; have xx2 := xx1.pure hB2; have hR2 := hR1.pure hB2; have hA2 := hA1.pure hB2; clear ct0 ct1 cx0 cx1 cx2; have ct0 := tt2.at 0 rfl; have ct1 := tt2.at 1 rfl; have cx0 := xx2.at 0 rfl; have cx1 := xx2.at 1 rfl; have cx2 := xx2.at 2 rfl) | (go_at_call 18; (with_reducible refine (hfnd.out _ _ _ hR2 hA2).mono ?_); rintro e w3 ⟨rfl, hB3⟩; have hN3 := Blk.new w3 [.int .u32 bf, .string bg, .string bh, .int .u8 bs, .int .u8 bw, .int .u32 bt, .int .u32 bl] 44; have hB3 := hB3.alloc hB3.size (.cells #[.int .u32 bf, .string bg, .string bh, .int .u8 bs, .int .u8 bw, .int .u32 bt, .int .u32 bl] 44); have hZ3 := (Below.refl w3.heap.size w3).alloc (Nat.le_refl _) (.cells #[.int .u32 bf, .string bg, .string bh, .int .u8 bs, .int .u8 bw, .int .u32 bt, .int .u32 bl] 44); have hT3 := hT2.trans (hB3.mono hT2.size); have tt3 := tt2.pure hB3; have xx3 := xx2.pure hB3; have hR3 := hR2.pure hB3; have hA3 := hA2.pure hB3; clear ct0 ct1 cx0 cx1 cx2; have ct0 := tt3.at 0 rfl; have ct1 := tt3.at 1 rfl; have cx0 := xx3.at 0 rfl; have cx1 := xx3.at 1 rfl; have cx2 := xx3.at 2 rfl; have bb3 := hN3; have cb3 := bb3.at 3 rfl; have cb4 := bb3.at 4 rfl) | (go_at_call 25; (with_reducible refine (hcom.out _ _ _ hR3 hA3).mono ?_); rintro e w4 ⟨r1, v1, rfl, hq1, hp1, hB4⟩; obtain ⟨ga1, gc1, rfl⟩ : ∃ a c, r1 = .slice a R1.length c := own_len hq1; obtain ⟨ha1, hc1, rfl⟩ : ∃ a c, v1 = .slice a A1.length c := own_len hp1; have hN4 := Blk.new w4 [.slice ga1 R1.length gc1, .slice ha1 A1.length hc1] 25; have hB4 := hB4.alloc hB4.size (.cells #[.slice ga1 R1.length gc1, .slice ha1 A1.length hc1] 25); have hZ4 := (Below.refl w4.heap.size w4).alloc (Nat.le_refl _) (.cells #[.slice ga1 R1.length gc1, .slice ha1 A1.length hc1] 25); have hu14 := (hq1.slc brEnc_len).pure hZ4; have hv14 := (hp1.slc ascEnc_len).pure hZ4; have ub14 := hN4; have cu10 := ub14.at 0 rfl; have cu11 := ub14.at 1 rfl; have hT4 := hT3.trans (hB4.mono hT3.size); have tt4 := tt3.pure hB4; have xx4 := xx3.pure hB4; have hR4 := hR3.pure hB4; have hA4 := hA3.pure hB4; have bb4 := bb3.pure hB4; clear ct0 ct1 cx0 cx1 cx2; have ct0 := tt4.at 0 rfl; have ct1 := tt4.at 1 rfl; have cx0 := xx4.at 0 rfl; have cx1 := xx4.at 1 rfl; have cx2 := xx4.at 2 rfl; clear cb3 cb4; have cb3 := bb4.at 3 rfl; have cb4 := bb4.at 4 rfl) | (go_at_call 26; (with_reducible refine (hpre.out _ _ _ hR4 hA4).mono ?_); rintro e w5 ⟨r2, v2, rfl, hq2, hp2, hB5⟩; obtain ⟨ga2, gc2, rfl⟩ : ∃ a c, r2 = .slice a R2.length c := own_len hq2; obtain ⟨ha2, hc2, rfl⟩ : ∃ a c, v2 = .slice a A2.length c := own_len hp2; have hN5 := Blk.new w5 [.slice ga2 R2.length gc2, .slice ha2 A2.length hc2] 25; have hB5 := hB5.alloc hB5.size (.cells #[.slice ga2 R2.length gc2, .slice ha2 A2.length hc2] 25); have hZ5 := (Below.refl w5.heap.size w5).alloc (Nat.le_refl _) (.cells #[.slice ga2 R2.length gc2, .slice ha2 A2.length hc2] 25); have hu25 := (hq2.slc brEnc_len).pure hZ5; have hv25 := (hp2.slc ascEnc_len).pure hZ5; have ub25 := hN5; have cu20 := ub25.at 0 rfl; have cu21 := ub25.at 1 rfl; have hT5 := hT4.trans (hB5.mono hT4.size); have tt5 := tt4.pure hB5; have xx5 := xx4.pure hB5; have hR5 := hR4.pure hB5; have hA5 := hA4.pure hB5; have bb5 := bb4.pure hB5; have hu15 := hu14.pure hB5; have hv15 := hv14.pure hB5; have ub15 := ub14.pure hB5; clear ct0 ct1 cx0 cx1 cx2; have ct0 := tt5.at 0 rfl; have ct1 := tt5.at 1 rfl; have cx0 := xx5.at 0 rfl; have cx1 := xx5.at 1 rfl; have cx2 := xx5.at 2 rfl; clear cb3 cb4; have cb3 := bb5.at 3 rfl; have cb4 := bb5.at 4 rfl; clear cu10 cu11; have cu10 := ub15.at 0 rfl; have cu11 := ub15.at 1 rfl))
  clear ct0 ct1 cx0 cx1 cx2 cb3 cb4 cu10 cu11 cu20 cu21
  generalize hWW : w5.alloc _ = W5 at *
  clear hWW
  go_loopw [15, 16] (fun s15 s16 wr => ∃ k : Nat, k ≤ A.length ∧ s15 = .bool ((A.take k).any (fun a => a.2.1 == (xf, xg, xb))) ∧ s16 = .int .i64 k ∧ Below W5.heap.size W5 wr) (fun _ s16 _ => A.length - (intOf s16).toNat)
  case atStart => exact ⟨0, by omega, rfl, rfl, Below.refl _ _⟩
  case round =>
    obtain ⟨k, hk, rfl, rfl, hB6⟩ := hrel
    have tt6 := tt5.pure hB6; have xx6 := xx5.pure hB6; have bb6 := bb5.pure hB6; have ub16 := ub15.pure hB6; have ub26 := ub25.pure hB6
    have hA6 := hA5.pure hB6; have hu16 := hu15.pure hB6; have hv16 := hv15.pure hB6; have hu26 := hu25.pure hB6; have hv26 := hv25.pure hB6; have hT6 := hT5.trans (hB6.mono hT5.size)
    have ct0 := tt6.at 0 rfl; have ct1 := tt6.at 1 rfl; have cx0 := xx6.at 0 rfl; have cx1 := xx6.at 1 rfl; have cx2 := xx6.at 2 rfl
    by_cases hlt : k < A.length
    · have hsn := Lib.hid (any_snoc A (xf, xg, xb) hlt)
      obtain ⟨g, off, rfl⟩ := hA6.addr hlt
      obtain ⟨c0, c1, c2, c3, c4⟩ := asc_cells hA6 hlt
      have hk0 : (0 : Int) ≤ (k : Int) := by omega
      have hk1 : (k : Int) < (A.length : Int) := by omega
      obtain ⟨bz, hbz⟩ : ∃ bz, (A.take k).any (fun a => a.2.1 == (xf, xg, xb)) = bz := ⟨_, rfl⟩
      rw [hbz]
      obtain ⟨y, hy⟩ : ∃ y, y = A[k].2.1 := ⟨_, rfl⟩
      rw [← hy] at c1 c2 c3 hsn
      obtain ⟨yf, yg, yb⟩ := y
      obtain ⟨eq, heq⟩ : ∃ eq, ((yf, yg, yb) == ((xf, xg, xb) : Xid)) = eq := ⟨_, rfl⟩
      have heq2 : (yf == xf && (yg == xg && yb == xb)) = eq := heq
      have hnew : Hid ((A.take (k + 1)).any (fun a => a.2.1 == (xf, xg, xb)) = (bz || eq)) := Lib.hid (by rw [hsn.out, hbz, heq])
      clear hbz hy heq hsn
      cases bz <;> cases eq
      all_goals
        go_wp2
        go_quiet (fail)
        go_wp2
        go_roundw
        case rel => exact ⟨k + 1, by omega, by rw [hnew.out]; rfl, by go_num, below_drewN hB6 _⟩
        case measure => simp [intOf]; omega
    · obtain rfl : k = A.length := by omega
      rw [List.take_length]
      have cb3 := bb6.at 3 rfl; have cb4 := bb6.at 4 rfl; have cu10 := ub16.at 0 rfl; have cu11 := ub16.at 1 rfl; have cu20 := ub26.at 0 rfl; have cu21 := ub26.at 1 rfl
      clear hlt hk
      by_cases p1 : e1 = 0
      rotate_left 1
      · have p1b : (e1 == 0) = false := beq_eq_false_iff_ne.2 p1
        clear p1
        by_cases p2 : e2 = 0
        rotate_left 1
        · have p2b : (e2 == 0) = false := beq_eq_false_iff_ne.2 p2
          clear p2
          clear hS1 hS2 hD1' hD2' hb' his'
          go_wp2_with (first | (go_at_call 11; (with_reducible refine (bhead_any _).mono ?_); rintro e w9 ⟨rfl, hB9⟩; have hT9 := hT6.trans (hB9.mono hT6.size)))
          go_ret
          exact ⟨rfl, hT9⟩
        have p2b : (e2 == 0) = true := by rw [p2]; rfl
        by_cases q2 : a2 = 0
        rotate_left 1
        · have q2b : (a2 == 0) = false := beq_eq_false_iff_ne.2 q2
          clear p2 q2
          clear hS1 hS2 hD1' hD2' hb' his'
          go_wp2_with (first | (go_at_call 11; (with_reducible refine (bhead_any _).mono ?_); rintro e w9 ⟨rfl, hB9⟩; have hT9 := hT6.trans (hB9.mono hT6.size)))
          go_ret
          exact ⟨rfl, hT9⟩
        have q2b : (a2 == 0) = true := by rw [q2]; rfl
        obtain ⟨k2, hk2, hx2, hw2, hs2, hc2, hDe2⟩ := hS2.out p2 q2
        have h9 := hD2'.out.symm.trans hDe2
        simp only [Prod.mk.injEq] at h9
        obtain ⟨h91, h92, -, -⟩ := h9
        have h93 := h92.symm
        have hfp := find_prep hTab.out hk2 hx2 hw2 (by omega)
        obtain ⟨b2, hb2⟩ : ∃ b2 : Brn, ({ R[k2] with st := 2, lf := 0 } : Brn) = b2 := ⟨_, rfl⟩
        have hst2 : (b2.st != 2) = false := by rw [← hb2]; rfl
        rw [hb2] at h91 hfp
        subst h91
        subst h93
        have hfv := Lib.hid (fun (u : World) (r v : Value) (h1 : Slc brEnc 7 u r (R.set k2 b2)) (h2 : Slc ascEnc 5 u v A) => show Calls Try.prog 18 #[.agg #[r, v], .agg #[.int .u32 xf, .string xg, .string xb]] u (fun e w' => e = .returned (.tuple #[brVal b2, .bool true]) ∧ Below u.heap.size u w') from by have := find_fn u r v (R.set k2 b2) A (xf, xg, xb) h1 h2 (by rw [List.length_set]; exact hLR) hLA; rw [hfp] at this; exact this)
        clear h92 hDe2 hb2 hfp
        simp only [List.length_set] at hu26 ub26 cu20
        have hfy := findD_yes hTab.out hk2 hx2
        have hisv := his'.out
        have hbv := hb'.out
        rw [hfy] at hisv hbv
        simp only [Option.isSome_some, Option.getD_some] at hisv hbv
        subst hisv
        have hwz : (bw != 0) = false := by rw [show bw = R[k2].why from (congrArg Brn.why hbv).symm, hw2]; rfl
        have hany := any_not (cnt_any hTab.out.2.1 (show ¬ 0 < cntA A (xf, xg, xb) by omega))
        have hbs : (bs == 1) = true := by rw [show bs = R[k2].st from (congrArg Brn.st hbv).symm, hs2]; rfl
        have hbs3 : (bs != 1) = false := by unfold bne; rw [hbs]; rfl
        clear hfy hbv hx2 hw2 hs2 hc2 p2 q2
        rw [hany]
        clear hany
        clear hS1 hS2 hD1' hD2' hb' his'
        go_wp2_with (first | (go_at_call 18; (with_reducible refine (hfv.out _ _ _ hu26 hv26).mono ?_); rintro e w8 ⟨rfl, hB8⟩; have hN8 := Blk.new w8 [.int .u32 b2.x.1, .string b2.x.2.1, .string b2.x.2.2, .int .u8 b2.st, .int .u8 b2.why, .int .u32 b2.tm, .int .u32 b2.lf] 44; have hB8 := hB8.alloc hB8.size (.cells #[.int .u32 b2.x.1, .string b2.x.2.1, .string b2.x.2.2, .int .u8 b2.st, .int .u8 b2.why, .int .u32 b2.tm, .int .u32 b2.lf] 44); have hZ8 := (Below.refl w8.heap.size w8).alloc (Nat.le_refl _) (.cells #[.int .u32 b2.x.1, .string b2.x.2.1, .string b2.x.2.2, .int .u8 b2.st, .int .u8 b2.why, .int .u32 b2.tm, .int .u32 b2.lf] 44); have hT8 := hT6.trans (hB8.mono hT6.size); have xx8 := xx6.pure hB8; have bb8 := bb6.pure hB8; have ub28 := ub26.pure hB8; have hu28 := hu26.pure hB8; have hv28 := hv26.pure hB8; clear cx0 cx1 cx2 cb3 cb4 cu20 cu21; have cx0 := xx8.at 0 rfl; have cx1 := xx8.at 1 rfl; have cx2 := xx8.at 2 rfl; have cb3 := bb8.at 3 rfl; have cb4 := bb8.at 4 rfl; have cu20 := ub28.at 0 rfl; have cu21 := ub28.at 1 rfl; have ce3 := hN8.at 3 rfl) | (go_at_call 11; (with_reducible refine (bhead_any _).mono ?_); rintro e w9 ⟨rfl, hB9⟩; have hT9 := hT8.trans (hB9.mono hT8.size)))
        go_ret
        exact ⟨rfl, hT9⟩
      have p1b : (e1 == 0) = true := by rw [p1]; rfl
      by_cases q1 : a1 = 0
      rotate_left 1
      · have q1b : (a1 == 0) = false := beq_eq_false_iff_ne.2 q1
        clear p1 q1
        by_cases p2 : e2 = 0
        rotate_left 1
        · have p2b : (e2 == 0) = false := beq_eq_false_iff_ne.2 p2
          clear p2
          clear hS1 hS2 hD1' hD2' hb' his'
          go_wp2_with (first | (go_at_call 11; (with_reducible refine (bhead_any _).mono ?_); rintro e w9 ⟨rfl, hB9⟩; have hT9 := hT6.trans (hB9.mono hT6.size)))
          go_ret
          exact ⟨rfl, hT9⟩
        have p2b : (e2 == 0) = true := by rw [p2]; rfl
        by_cases q2 : a2 = 0
        rotate_left 1
        · have q2b : (a2 == 0) = false := beq_eq_false_iff_ne.2 q2
          clear p2 q2
          clear hS1 hS2 hD1' hD2' hb' his'
          go_wp2_with (first | (go_at_call 11; (with_reducible refine (bhead_any _).mono ?_); rintro e w9 ⟨rfl, hB9⟩; have hT9 := hT6.trans (hB9.mono hT6.size)))
          go_ret
          exact ⟨rfl, hT9⟩
        have q2b : (a2 == 0) = true := by rw [q2]; rfl
        obtain ⟨k2, hk2, hx2, hw2, hs2, hc2, hDe2⟩ := hS2.out p2 q2
        have h9 := hD2'.out.symm.trans hDe2
        simp only [Prod.mk.injEq] at h9
        obtain ⟨h91, h92, -, -⟩ := h9
        have h93 := h92.symm
        have hfp := find_prep hTab.out hk2 hx2 hw2 (by omega)
        obtain ⟨b2, hb2⟩ : ∃ b2 : Brn, ({ R[k2] with st := 2, lf := 0 } : Brn) = b2 := ⟨_, rfl⟩
        have hst2 : (b2.st != 2) = false := by rw [← hb2]; rfl
        rw [hb2] at h91 hfp
        subst h91
        subst h93
        have hfv := Lib.hid (fun (u : World) (r v : Value) (h1 : Slc brEnc 7 u r (R.set k2 b2)) (h2 : Slc ascEnc 5 u v A) => show Calls Try.prog 18 #[.agg #[r, v], .agg #[.int .u32 xf, .string xg, .string xb]] u (fun e w' => e = .returned (.tuple #[brVal b2, .bool true]) ∧ Below u.heap.size u w') from by have := find_fn u r v (R.set k2 b2) A (xf, xg, xb) h1 h2 (by rw [List.length_set]; exact hLR) hLA; rw [hfp] at this; exact this)
        clear h92 hDe2 hb2 hfp
        simp only [List.length_set] at hu26 ub26 cu20
        have hfy := findD_yes hTab.out hk2 hx2
        have hisv := his'.out
        have hbv := hb'.out
        rw [hfy] at hisv hbv
        simp only [Option.isSome_some, Option.getD_some] at hisv hbv
        subst hisv
        have hwz : (bw != 0) = false := by rw [show bw = R[k2].why from (congrArg Brn.why hbv).symm, hw2]; rfl
        have hany := any_not (cnt_any hTab.out.2.1 (show ¬ 0 < cntA A (xf, xg, xb) by omega))
        have hbs : (bs == 1) = true := by rw [show bs = R[k2].st from (congrArg Brn.st hbv).symm, hs2]; rfl
        have hbs3 : (bs != 1) = false := by unfold bne; rw [hbs]; rfl
        clear hfy hbv hx2 hw2 hs2 hc2 p2 q2
        rw [hany]
        clear hany
        clear hS1 hS2 hD1' hD2' hb' his'
        go_wp2_with (first | (go_at_call 18; (with_reducible refine (hfv.out _ _ _ hu26 hv26).mono ?_); rintro e w8 ⟨rfl, hB8⟩; have hN8 := Blk.new w8 [.int .u32 b2.x.1, .string b2.x.2.1, .string b2.x.2.2, .int .u8 b2.st, .int .u8 b2.why, .int .u32 b2.tm, .int .u32 b2.lf] 44; have hB8 := hB8.alloc hB8.size (.cells #[.int .u32 b2.x.1, .string b2.x.2.1, .string b2.x.2.2, .int .u8 b2.st, .int .u8 b2.why, .int .u32 b2.tm, .int .u32 b2.lf] 44); have hZ8 := (Below.refl w8.heap.size w8).alloc (Nat.le_refl _) (.cells #[.int .u32 b2.x.1, .string b2.x.2.1, .string b2.x.2.2, .int .u8 b2.st, .int .u8 b2.why, .int .u32 b2.tm, .int .u32 b2.lf] 44); have hT8 := hT6.trans (hB8.mono hT6.size); have xx8 := xx6.pure hB8; have bb8 := bb6.pure hB8; have ub28 := ub26.pure hB8; have hu28 := hu26.pure hB8; have hv28 := hv26.pure hB8; clear cx0 cx1 cx2 cb3 cb4 cu20 cu21; have cx0 := xx8.at 0 rfl; have cx1 := xx8.at 1 rfl; have cx2 := xx8.at 2 rfl; have cb3 := bb8.at 3 rfl; have cb4 := bb8.at 4 rfl; have cu20 := ub28.at 0 rfl; have cu21 := ub28.at 1 rfl; have ce3 := hN8.at 3 rfl) | (go_at_call 11; (with_reducible refine (bhead_any _).mono ?_); rintro e w9 ⟨rfl, hB9⟩; have hT9 := hT8.trans (hB9.mono hT8.size)))
        go_ret
        exact ⟨rfl, hT9⟩
      have q1b : (a1 == 0) = true := by rw [q1]; rfl
      obtain ⟨k1, hk1, hx1, hw1, hs1, hc1, hDe⟩ := hS1.out p1 q1
      have h9 := hD1'.out.symm.trans hDe
      simp only [Prod.mk.injEq] at h9
      obtain ⟨h91, h92, -, -⟩ := h9
      have h93 := h92.symm
      subst h91
      subst h93
      clear h92 hDe
      have hfu := Lib.hid (fun (u : World) (r v : Value) (h1 : Slc brEnc 7 u r (withoutB R (xf, xg, xb))) (h2 : Slc ascEnc 5 u v A) => show Calls Try.prog 18 #[.agg #[r, v], .agg #[.int .u32 xf, .string xg, .string xb]] u (fun e w' => e = .returned (.tuple #[brVal zeroB, .bool false]) ∧ Below u.heap.size u w') from by have := find_fn u r v (withoutB R (xf, xg, xb)) A (xf, xg, xb) h1 h2 (Nat.le_trans (without_len _ _) hLR) hLA; rw [find_gone] at this; exact this)
      have hfy := findD_yes hTab.out hk1 hx1
      have hisv := his'.out
      have hbv := hb'.out
      rw [hfy] at hisv hbv
      simp only [Option.isSome_some, Option.getD_some] at hisv hbv
      subst hisv
      have hwz : (bw != 0) = false := by rw [show bw = R[k1].why from (congrArg Brn.why hbv).symm, hw1]; rfl
      have hany := any_not (cnt_any hTab.out.2.1 (show ¬ 0 < cntA A (xf, xg, xb) by omega))
      have hbs1 : (bs == 1) = one := by rw [show bs = R[k1].st from (congrArg Brn.st hbv).symm, hs1]
      rw [hany]
      clear hany hfy hw1 hs1 hc1 p1 q1
      have hone : (one != one) = false := by cases one <;> rfl
      by_cases p2 : e2 = 0
      rotate_left 1
      · have p2b : (e2 == 0) = false := beq_eq_false_iff_ne.2 p2
        clear p2
        clear hS1 hS2 hD1' hD2' hb' his'
        go_wp2_with (first | (go_at_call 18; (with_reducible refine (hfu.out _ _ _ hu16 hv16).mono ?_); rintro e w7 ⟨rfl, hB7⟩; have hN7 := Blk.new w7 [.int .u32 zeroB.x.1, .string zeroB.x.2.1, .string zeroB.x.2.2, .int .u8 zeroB.st, .int .u8 zeroB.why, .int .u32 zeroB.tm, .int .u32 zeroB.lf] 44; have hB7 := hB7.alloc hB7.size (.cells #[.int .u32 zeroB.x.1, .string zeroB.x.2.1, .string zeroB.x.2.2, .int .u8 zeroB.st, .int .u8 zeroB.why, .int .u32 zeroB.tm, .int .u32 zeroB.lf] 44); have hZ7 := (Below.refl w7.heap.size w7).alloc (Nat.le_refl _) (.cells #[.int .u32 zeroB.x.1, .string zeroB.x.2.1, .string zeroB.x.2.2, .int .u8 zeroB.st, .int .u8 zeroB.why, .int .u32 zeroB.tm, .int .u32 zeroB.lf] 44); have hT7 := hT6.trans (hB7.mono hT6.size); have xx7 := xx6.pure hB7; have bb7 := bb6.pure hB7; have ub27 := ub26.pure hB7; have hu27 := hu26.pure hB7; have hv27 := hv26.pure hB7; clear cx0 cx1 cx2 cb3 cb4 cu20 cu21; have cx0 := xx7.at 0 rfl; have cx1 := xx7.at 1 rfl; have cx2 := xx7.at 2 rfl; have cb3 := bb7.at 3 rfl; have cb4 := bb7.at 4 rfl; have cu20 := ub27.at 0 rfl; have cu21 := ub27.at 1 rfl) | (go_at_call 11; (with_reducible refine (bhead_any _).mono ?_); rintro e w9 ⟨rfl, hB9⟩; have hT9 := hT7.trans (hB9.mono hT7.size)))
        go_ret
        exact ⟨rfl, hT9⟩
      have p2b : (e2 == 0) = true := by rw [p2]; rfl
      by_cases q2 : a2 = 0
      rotate_left 1
      · have q2b : (a2 == 0) = false := beq_eq_false_iff_ne.2 q2
        clear p2 q2
        clear hS1 hS2 hD1' hD2' hb' his'
        go_wp2_with (first | (go_at_call 18; (with_reducible refine (hfu.out _ _ _ hu16 hv16).mono ?_); rintro e w7 ⟨rfl, hB7⟩; have hN7 := Blk.new w7 [.int .u32 zeroB.x.1, .string zeroB.x.2.1, .string zeroB.x.2.2, .int .u8 zeroB.st, .int .u8 zeroB.why, .int .u32 zeroB.tm, .int .u32 zeroB.lf] 44; have hB7 := hB7.alloc hB7.size (.cells #[.int .u32 zeroB.x.1, .string zeroB.x.2.1, .string zeroB.x.2.2, .int .u8 zeroB.st, .int .u8 zeroB.why, .int .u32 zeroB.tm, .int .u32 zeroB.lf] 44); have hZ7 := (Below.refl w7.heap.size w7).alloc (Nat.le_refl _) (.cells #[.int .u32 zeroB.x.1, .string zeroB.x.2.1, .string zeroB.x.2.2, .int .u8 zeroB.st, .int .u8 zeroB.why, .int .u32 zeroB.tm, .int .u32 zeroB.lf] 44); have hT7 := hT6.trans (hB7.mono hT6.size); have xx7 := xx6.pure hB7; have bb7 := bb6.pure hB7; have ub27 := ub26.pure hB7; have hu27 := hu26.pure hB7; have hv27 := hv26.pure hB7; clear cx0 cx1 cx2 cb3 cb4 cu20 cu21; have cx0 := xx7.at 0 rfl; have cx1 := xx7.at 1 rfl; have cx2 := xx7.at 2 rfl; have cb3 := bb7.at 3 rfl; have cb4 := bb7.at 4 rfl; have cu20 := ub27.at 0 rfl; have cu21 := ub27.at 1 rfl) | (go_at_call 11; (with_reducible refine (bhead_any _).mono ?_); rintro e w9 ⟨rfl, hB9⟩; have hT9 := hT7.trans (hB9.mono hT7.size)))
        go_ret
        exact ⟨rfl, hT9⟩
      have q2b : (a2 == 0) = true := by rw [q2]; rfl
      obtain ⟨k2, hk2, hx2, hw2, hs2, hc2, hDe2⟩ := hS2.out p2 q2
      have h9 := hD2'.out.symm.trans hDe2
      simp only [Prod.mk.injEq] at h9
      obtain ⟨h91, h92, -, -⟩ := h9
      have h93 := h92.symm
      have hfp := find_prep hTab.out hk2 hx2 hw2 (by omega)
      obtain ⟨b2, hb2⟩ : ∃ b2 : Brn, ({ R[k2] with st := 2, lf := 0 } : Brn) = b2 := ⟨_, rfl⟩
      have hst2 : (b2.st != 2) = false := by rw [← hb2]; rfl
      rw [hb2] at h91 hfp
      subst h91
      subst h93
      have hfv := Lib.hid (fun (u : World) (r v : Value) (h1 : Slc brEnc 7 u r (R.set k2 b2)) (h2 : Slc ascEnc 5 u v A) => show Calls Try.prog 18 #[.agg #[r, v], .agg #[.int .u32 xf, .string xg, .string xb]] u (fun e w' => e = .returned (.tuple #[brVal b2, .bool true]) ∧ Below u.heap.size u w') from by have := find_fn u r v (R.set k2 b2) A (xf, xg, xb) h1 h2 (by rw [List.length_set]; exact hLR) hLA; rw [hfp] at this; exact this)
      clear h92 hDe2 hb2 hfp
      simp only [List.length_set] at hu26 ub26 cu20
      have hbs2 : bs = 1 := by
        have e := sameB_idx hTab.out.1.2 hk2 hk1 (hx2.trans hx1.symm)
        subst e
        rw [show bs = R[k2].st from (congrArg Brn.st hbv).symm, hs2]
      have hbs3 : (bs != 1) = false := by rw [hbs2]; rfl
      clear hbs2
      clear hbv hx2 hw2 hs2 hc2 p2 q2
      clear hS1 hS2 hD1' hD2' hb' his'
      go_wp2_with (first | (go_at_call 18; (with_reducible refine (hfu.out _ _ _ hu16 hv16).mono ?_); rintro e w7 ⟨rfl, hB7⟩; have hN7 := Blk.new w7 [.int .u32 zeroB.x.1, .string zeroB.x.2.1, .string zeroB.x.2.2, .int .u8 zeroB.st, .int .u8 zeroB.why, .int .u32 zeroB.tm, .int .u32 zeroB.lf] 44; have hB7 := hB7.alloc hB7.size (.cells #[.int .u32 zeroB.x.1, .string zeroB.x.2.1, .string zeroB.x.2.2, .int .u8 zeroB.st, .int .u8 zeroB.why, .int .u32 zeroB.tm, .int .u32 zeroB.lf] 44); have hZ7 := (Below.refl w7.heap.size w7).alloc (Nat.le_refl _) (.cells #[.int .u32 zeroB.x.1, .string zeroB.x.2.1, .string zeroB.x.2.2, .int .u8 zeroB.st, .int .u8 zeroB.why, .int .u32 zeroB.tm, .int .u32 zeroB.lf] 44); have hT7 := hT6.trans (hB7.mono hT6.size); have xx7 := xx6.pure hB7; have bb7 := bb6.pure hB7; have ub27 := ub26.pure hB7; have hu27 := hu26.pure hB7; have hv27 := hv26.pure hB7; clear cx0 cx1 cx2 cb3 cb4 cu20 cu21; have cx0 := xx7.at 0 rfl; have cx1 := xx7.at 1 rfl; have cx2 := xx7.at 2 rfl; have cb3 := bb7.at 3 rfl; have cb4 := bb7.at 4 rfl; have cu20 := ub27.at 0 rfl; have cu21 := ub27.at 1 rfl) | (go_at_call 18; (with_reducible refine (hfv.out _ _ _ hu27 hv27).mono ?_); rintro e w8 ⟨rfl, hB8⟩; have hN8 := Blk.new w8 [.int .u32 b2.x.1, .string b2.x.2.1, .string b2.x.2.2, .int .u8 b2.st, .int .u8 b2.why, .int .u32 b2.tm, .int .u32 b2.lf] 44; have hB8 := hB8.alloc hB8.size (.cells #[.int .u32 b2.x.1, .string b2.x.2.1, .string b2.x.2.2, .int .u8 b2.st, .int .u8 b2.why, .int .u32 b2.tm, .int .u32 b2.lf] 44); have hZ8 := (Below.refl w8.heap.size w8).alloc (Nat.le_refl _) (.cells #[.int .u32 b2.x.1, .string b2.x.2.1, .string b2.x.2.2, .int .u8 b2.st, .int .u8 b2.why, .int .u32 b2.tm, .int .u32 b2.lf] 44); have hT8 := hT7.trans (hB8.mono hT7.size); have xx8 := xx7.pure hB8; have bb8 := bb7.pure hB8; have ub28 := ub27.pure hB8; have hu28 := hu27.pure hB8; have hv28 := hv27.pure hB8; clear cx0 cx1 cx2 cb3 cb4 cu20 cu21; have cx0 := xx8.at 0 rfl; have cx1 := xx8.at 1 rfl; have cx2 := xx8.at 2 rfl; have cb3 := bb8.at 3 rfl; have cb4 := bb8.at 4 rfl; have cu20 := ub28.at 0 rfl; have cu21 := ub28.at 1 rfl; have ce3 := hN8.at 3 rfl) | (go_at_call 11; (with_reducible refine (bhead_any _).mono ?_); rintro e w9 ⟨rfl, hB9⟩; have hT9 := hT8.trans (hB9.mono hT8.size)))
      go_ret
      exact ⟨rfl, hT9⟩
end Go.Proofs.Ytcelpincmpjhkaa
