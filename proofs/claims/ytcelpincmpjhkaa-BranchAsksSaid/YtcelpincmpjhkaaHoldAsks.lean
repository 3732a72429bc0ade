/- The statement BranchAsksSaid: whatever its arguments are, the law BranchAsks returns true, and leaves its arguments as they were. Conditions: none beyond the statement's own. (Texts joined; the heads of the others stand below.) -/
import Derived.Test.YtcelpincmpjhkaaHW
import Derived.Test.YtcelpincmpjhkaaHM
import Derived.Test.YtcelpincmpjhkaaHB
import Derived.Test.YtcelpincmpjhkaaRows
import Derived.ProofKit
import Derived.OpenShut

/- The law BranchAsks of chapter 19. Conditions: rows and associations read; no timeout is negative. Written by gen_basks.py. -/
namespace Go.Proofs.Ytcelpincmpjhkaa
set_option linter.unusedSimpArgs false
set_option linter.unusedVariables false
open Go.RowKit

theorem find_none (w : World) (rv av : Value) (R : List Brn) (A : List Asc) (x : Xid) (hR : Slc brEnc 7 w rv R) (hA : Slc ascEnc 5 w av A) (hLR : R.length ≤ 1000000) (hLA : A.length ≤ 1000000) (hf : findD R A x = none) :
    Calls Try.prog 18 #[.agg #[rv, av], .agg #[.int .u32 x.1, .string x.2.1, .string x.2.2]] w fun e w' => e = .returned (.tuple #[.agg #[.int .u32 0, .string ⟨#[]⟩, .string ⟨#[]⟩, .int .u8 0, .int .u8 0, .int .u32 0, .int .u32 0], .bool false]) ∧ Below w.heap.size w w' := by
  have h := find_fn w rv av R A x hR hA hLR hLA
  rw [hf] at h
  exact h
theorem find_some (w : World) (rv av : Value) (R : List Brn) (A : List Asc) (x : Xid) (b : Brn) (hR : Slc brEnc 7 w rv R) (hA : Slc ascEnc 5 w av A) (hLR : R.length ≤ 1000000) (hLA : A.length ≤ 1000000) (hf : findD R A x = some b) :
    Calls Try.prog 18 #[.agg #[rv, av], .agg #[.int .u32 x.1, .string x.2.1, .string x.2.2]] w fun e w' => e = .returned (.tuple #[brVal b, .bool true]) ∧ Below w.heap.size w w' := by
  have h := find_fn w rv av R A x hR hA hLR hLA
  rw [hf] at h
  exact h

set_option maxRecDepth 100000 in
set_option maxHeartbeats 8000000 in
theorem branchAsks_any (w : World) (rv av : Value) (R : List Brn) (A : List Asc) (x : Xid) (hR : Slc brEnc 7 w rv R) (hA : Slc ascEnc 5 w av A) (htm : ∀ b ∈ R, 0 ≤ b.tm) :
    Calls Try.prog 4 #[.agg #[rv, av], .agg #[.int .u32 x.1, .string x.2.1, .string x.2.2]] w fun e w' => e = .returned (.bool true) ∧ Below w.heap.size w w' := by
  obtain ⟨ra, rc, rfl, hm1⟩ := hR.len
  obtain ⟨aa, ac, rfl, hm2⟩ := hA.len
  unfold maxLen at hm1 hm2
  obtain ⟨xf, xg, xb⟩ := x
  simp only
  have hT0 : Below w.heap.size w ((w.alloc (.cells #[.slice ra R.length rc, .slice aa A.length ac] 25)).alloc (.cells #[.int .u32 xf, .string xg, .string xb] 28)) := ((Below.refl _ _).alloc (Nat.le_refl _) _).alloc (by simp) _
  have tt0 : Blk ((w.alloc (.cells #[.slice ra R.length rc, .slice aa A.length ac] 25)).alloc (.cells #[.int .u32 xf, .string xg, .string xb] 28)) w.heap.size [.slice ra R.length rc, .slice aa A.length ac] := (Blk.new w [.slice ra R.length rc, .slice aa A.length ac] 25).alloc (.cells #[.int .u32 xf, .string xg, .string xb] 28)
  have xx0 : Blk ((w.alloc (.cells #[.slice ra R.length rc, .slice aa A.length ac] 25)).alloc (.cells #[.int .u32 xf, .string xg, .string xb] 28)) (w.heap.size + 1) [.int .u32 xf, .string xg, .string xb] := Blk.newAt2 (w.alloc (.cells #[.slice ra R.length rc, .slice aa A.length ac] 25)) [.int .u32 xf, .string xg, .string xb] 28 (w.heap.size + 1) (by simp)
  have ct0 := tt0.at 0 rfl; have ct1 := tt0.at 1 rfl; have cx0 := xx0.at 0 rfl; have cx1 := xx0.at 1 rfl; have cx2 := xx0.at 2 rfl
  have hR0 := hR.pure hT0
  have hA0 := hA.pure hT0
  obtain ⟨gb, hgb⟩ : ∃ gb, (decide (20 < R.length) || decide (20 < A.length)) = gb := ⟨_, rfl⟩
  have hgb2 := Lib.hid hgb
  cases gb
  rotate_left 1
  · have hdum := True.intro
    clear hgb
    go_enter Try.func4, Try.ntmps4
    go_wp2_with (first | (go_at_call 10; (with_reducible refine (great_any _ _ _ R A _ hR0 hA0 hgb2.out).mono ?_); rintro e w1 ⟨rfl, hB1⟩; have hT1 := hT0.trans (hB1.mono hT0.size); have tt1 := tt0.pure hB1; have xx1 := xx0.pure hB1; have hR1 := hR0.pure hB1; have hA1 := hA0.pure hB1; clear ct0 ct1 cx0 cx1 cx2; have ct0 := tt1.at 0 rfl; have ct1 := tt1.at 1 rfl; have cx0 := xx1.at 0 rfl; have cx1 := xx1.at 1 rfl; have cx2 := xx1.at 2 rfl) | (go_at_call 11; (with_reducible refine (bhead_any _).mono ?_); rintro e w2 ⟨rfl, hB2⟩; have hT2 := hT1.trans (hB2.mono hT1.size)))
    go_ret
    exact ⟨rfl, hT2⟩
  have hLR : R.length ≤ 1000000 := by simp only [Bool.or_eq_false_iff, decide_eq_false_iff_not] at hgb; omega
  have hLA : A.length ≤ 1000000 := by simp only [Bool.or_eq_false_iff, decide_eq_false_iff_not] at hgb; omega
  have hl20 : R.length ≤ 20 := by simp only [Bool.or_eq_false_iff, decide_eq_false_iff_not] at hgb; omega
  clear hgb
  obtain ⟨N, hN⟩ : ∃ N, recD R A = N := ⟨_, rfl⟩
  have hNl : N.length ≤ 1000000 := by
    rw [← hN]; unfold recD; split
    · unfold held; rw [List.length_map]; exact Nat.le_trans (List.length_filter_le _ _) hLR
    · simp
  have hrec := Lib.hid (fun (u : World) (r v : Value) (h1 : Slc brEnc 7 u r R) (h2 : Slc ascEnc 5 u v A) => show Calls Try.prog 23 #[.agg #[r, v]] u (fun e w' => ∃ l, e = .returned l ∧ Own u.heap.size 28 3 xEnc w' l N ∧ Below u.heap.size u w') from hN ▸ recover_fn u r v R A h1 h2 hLR hLA)
  have hdrc := Lib.hid (fun (u : World) (r v : Value) (h1 : Slc brEnc 7 u r R) (h2 : Slc ascEnc 5 u v A) => show Calls Try.prog 24 #[.agg #[r, v]] u (fun e w' => ∃ l, e = .returned l ∧ Own u.heap.size 28 3 xEnc w' l N ∧ Below u.heap.size u w') from hN ▸ drecover_any u r v R A h1 h2 hLR hLA htm)
  have htm' := Lib.hid htm
  clear hN htm
  have qB := br_neq_self
  rcases tabE_cases R A with ⟨h1, h2⟩ | ⟨h1, h2⟩
  rotate_left 1
  · have htab := Lib.hid h2
    have hfd := Lib.hid (findD_bad h1 (xf, xg, xb))
    clear h1 h2
    go_enter Try.func4, Try.ntmps4
    go_wp2_with (first | (go_at_call 10; (with_reducible refine (great_any _ _ _ R A _ hR0 hA0 hgb2.out).mono ?_); rintro e w1 ⟨rfl, hB1⟩; have hT1 := hT0.trans (hB1.mono hT0.size); have tt1 := tt0.pure hB1; have xx1 := xx0.pure hB1; have hR1 := hR0.pure hB1; have hA1 := hA0.pure hB1; clear ct0 ct1 cx0 cx1 cx2; have ct0 := tt1.at 0 rfl; have ct1 := tt1.at 1 rfl; have cx0 := xx1.at 0 rfl; have cx1 := xx1.at 1 rfl; have cx2 := xx1.at 2 rfl) | (go_at_call 18; (with_reducible refine (find_none _ _ _ R A (xf, xg, xb) hR1 hA1 hLR hLA hfd.out).mono ?_); rintro e w2 ⟨rfl, hB2⟩; have hN2 := Blk.new w2 [.int .u32 0, .string ⟨#[]⟩, .string ⟨#[]⟩, .int .u8 0, .int .u8 0, .int .u32 0, .int .u32 0] 44; have hB2 := hB2.alloc hB2.size (.cells #[.int .u32 0, .string ⟨#[]⟩, .string ⟨#[]⟩, .int .u8 0, .int .u8 0, .int .u32 0, .int .u32 0] 44); have hT2 := hT1.trans (hB2.mono hT1.size); have tt2 := tt1.pure hB2; have xx2 := xx1.pure hB2; have hR2 := hR1.pure hB2; have hA2 := hA1.pure hB2; clear ct0 ct1 cx0 cx1 cx2; have ct0 := tt2.at 0 rfl; have ct1 := tt2.at 1 rfl; have cx0 := xx2.at 0 rfl; have cx1 := xx2.at 1 rfl; have cx2 := xx2.at 2 rfl; have bb2 := hN2; have cb0 := bb2.at 0 rfl; have cb1 := bb2.at 1 rfl; have cb2 := bb2.at 2 rfl; have cb3 := bb2.at 3 rfl; have cb4 := bb2.at 4 rfl; have cb5 := bb2.at 5 rfl; have cb6 := bb2.at 6 rfl) | (go_at_call 19; (with_reducible refine (dat_any _ _ _ R A (xf, xg, xb) hR2 hA2).mono ?_); rintro e w3 ⟨v3, rfl, -, hB3⟩; have hT3 := hT2.trans (hB3.mono hT2.size); have tt3 := tt2.pure hB3; have xx3 := xx2.pure hB3; have hR3 := hR2.pure hB3; have hA3 := hA2.pure hB3; clear ct0 ct1 cx0 cx1 cx2; have ct0 := tt3.at 0 rfl; have ct1 := tt3.at 1 rfl; have cx0 := xx3.at 0 rfl; have cx1 := xx3.at 1 rfl; have cx2 := xx3.at 2 rfl; clear cb0 cb1 cb2 cb3 cb4 cb5 cb6; have bb3 := bb2.pure hB3; have cb0 := bb3.at 0 rfl; have cb1 := bb3.at 1 rfl; have cb2 := bb3.at 2 rfl; have cb3 := bb3.at 3 rfl; have cb4 := bb3.at 4 rfl; have cb5 := bb3.at 5 rfl; have cb6 := bb3.at 6 rfl) | (go_at_call 20; (with_reducible refine (dcheck2 _ _ _ R A 190 hR3 hA3 hLR hLA htm'.out htab.out).mono ?_); rintro e w4 ⟨rfl, hB4⟩; have hT4 := hT3.trans (hB4.mono hT3.size); have tt4 := tt3.pure hB4; have xx4 := xx3.pure hB4; have hR4 := hR3.pure hB4; have hA4 := hA3.pure hB4; clear ct0 ct1 cx0 cx1 cx2; have ct0 := tt4.at 0 rfl; have ct1 := tt4.at 1 rfl; have cx0 := xx4.at 0 rfl; have cx1 := xx4.at 1 rfl; have cx2 := xx4.at 2 rfl; clear cb0 cb1 cb2 cb3 cb4 cb5 cb6; have bb4 := bb3.pure hB4; have cb0 := bb4.at 0 rfl; have cb1 := bb4.at 1 rfl; have cb2 := bb4.at 2 rfl; have cb3 := bb4.at 3 rfl; have cb4 := bb4.at 4 rfl; have cb5 := bb4.at 5 rfl; have cb6 := bb4.at 6 rfl))
    go_quiet (fail)
    go_wp2
    have hT4d := below_drewN hT4 nq; have tt4d := tt4.pure (below_drewN (Below.refl _ _) nq); have s0a := tt4d.at 0 rfl; have s0b := tt4d.at 1 rfl
    refine wp_region_held_drew (S := (fun w' => w'.cell? ⟨w.heap.size, 0, none⟩ = some (.slice ra R.length rc) ∧ w'.cell? ⟨w.heap.size, 1, none⟩ = some (.slice aa A.length ac))) (by kernel_rfl) ?_ (fun hHeld => ?_)
    · (first | exact ⟨s0a, s0b⟩ | exact ⟨s9a, s9b⟩ | exact ⟨s8a, s8b⟩ | exact ⟨s7a, s7b⟩ | exact ⟨s6a, s6b⟩ | exact ⟨s5a, s5b⟩ | exact ⟨s10a, s10b⟩)
    refine takeH 0 48 (v := ?_) rfl rfl (by kernel_rfl) (by kernel_rfl) (by kernel_rfl) (fun _ _ _ h => h) (Or.inl ⟨by kernel_rfl, ?_⟩) hHeld ?_
    rotate_left 1
    · (intro w hSw; (try dsimp only at hSw); go_simp; (try with_reducible rfl))
    try simp only [Act.put, List.setIfInBounds_toArray, List.set_cons_zero, List.set_cons_succ]
    refine takeH 2 50 (v := ?_) rfl rfl (by kernel_rfl) (by kernel_rfl) (by kernel_rfl) (fun _ _ _ h => h) (Or.inl ⟨by kernel_rfl, ?_⟩) hHeld ?_
    rotate_left 1
    · (intro w hSw; (try dsimp only at hSw); go_simp; (try with_reducible rfl))
    try simp only [Act.put, List.setIfInBounds_toArray, List.set_cons_zero, List.set_cons_succ]
    refine wpAnyH_ready (rs := [1]) (by kernel_rfl) (by simp) ?_
    refine AllReadyH.cons rfl (fun K hK => ?_) AllReadyH.nil
    go_simp
    (go_at_call 21; refine (tcheck2 _ _ _ R A 190 (hR.pure (below_dr hT4d)) (hA.pure (below_dr hT4d)) hLR hLA htab.out).mono ?_; rintro e w5 ⟨rfl, hB5⟩; have hT5 := (below_dr hT4d).trans (hB5.mono hT4d.size); have tt5 := tt4d.drew.pure hB5; have s5a := tt5.at 0 rfl; have s5b := tt5.at 1 rfl; have hR5 := hR.pure hT5; have hA5 := hA.pure hT5)
    refine hK.out _ _ ?_ (fun hHeld => ?_)
    · (first | exact ⟨s0a, s0b⟩ | exact ⟨s9a, s9b⟩ | exact ⟨s8a, s8b⟩ | exact ⟨s7a, s7b⟩ | exact ⟨s6a, s6b⟩ | exact ⟨s5a, s5b⟩ | exact ⟨s10a, s10b⟩)
    clear hK K
    try simp only [Act.put, List.setIfInBounds_toArray, List.set_cons_zero, List.set_cons_succ]
    refine wpAnyH_ready (rs := [3]) (by kernel_rfl) (by simp) ?_
    refine AllReadyH.cons rfl (fun K hK => ?_) AllReadyH.nil
    go_simp
    (go_at_call 20; refine (dcheck2 _ _ _ R A 190 hR5 hA5 hLR hLA htm'.out htab.out).mono ?_; rintro e w6 ⟨rfl, hB6⟩; have hR6 := hR5.pure hB6; have hA6 := hA5.pure hB6; have tt6 := tt5.pure hB6; have hT6 := hT5.trans (hB6.mono hT5.size); have s6a := tt6.at 0 rfl; have s6b := tt6.at 1 rfl)
    refine hK.out _ _ ?_ (fun hHeld => ?_)
    · (first | exact ⟨s0a, s0b⟩ | exact ⟨s9a, s9b⟩ | exact ⟨s8a, s8b⟩ | exact ⟨s7a, s7b⟩ | exact ⟨s6a, s6b⟩ | exact ⟨s5a, s5b⟩ | exact ⟨s10a, s10b⟩)
    clear hK K
    try simp only [Act.put, List.setIfInBounds_toArray, List.set_cons_zero, List.set_cons_succ]
    refine takeH 4 52 (v := ?_) rfl rfl (by kernel_rfl) (by kernel_rfl) (by kernel_rfl) (fun _ _ _ h => h) (Or.inl ⟨by kernel_rfl, ?_⟩) hHeld ?_
    rotate_left 1
    · (intro w hSw; (try dsimp only at hSw); go_simp; (try with_reducible rfl))
    try simp only [Act.put, List.setIfInBounds_toArray, List.set_cons_zero, List.set_cons_succ]
    refine takeH 5 53 (v := ?_) rfl rfl (by kernel_rfl) (by kernel_rfl) (by kernel_rfl) (fun _ _ _ h => h) (Or.inl ⟨by kernel_rfl, ?_⟩) hHeld ?_
    rotate_left 1
    · (intro w hSw; (try dsimp only at hSw); go_simp; (try with_reducible rfl))
    try simp only [Act.put, List.setIfInBounds_toArray, List.set_cons_zero, List.set_cons_succ]
    refine takeH 6 54 (v := ?_) rfl rfl (by kernel_rfl) (by kernel_rfl) (by kernel_rfl) (fun _ _ _ h => h) (Or.inl ⟨by kernel_rfl, ?_⟩) hHeld ?_
    rotate_left 1
    · (intro w hSw; (try dsimp only at hSw); go_simp; (try with_reducible rfl))
    try simp only [Act.put, List.setIfInBounds_toArray, List.set_cons_zero, List.set_cons_succ]
    refine takeH 8 56 (v := ?_) rfl rfl (by kernel_rfl) (by kernel_rfl) (by kernel_rfl) (fun _ _ _ h => h) (Or.inl ⟨by kernel_rfl, ?_⟩) hHeld ?_
    rotate_left 1
    · (intro w hSw; (try dsimp only at hSw); go_simp; (try with_reducible rfl))
    try simp only [Act.put, List.setIfInBounds_toArray, List.set_cons_zero, List.set_cons_succ]
    refine wpAnyH_ready (rs := [7]) (by kernel_rfl) (by simp) ?_
    refine AllReadyH.cons rfl (fun K hK => ?_) AllReadyH.nil
    go_simp
    (go_at_call 23; refine (hrec.out _ _ _ hR6 hA6).mono ?_; rintro e w7 ⟨l1, rfl, hO7, hB7⟩; obtain ⟨l1a, l1c, rfl⟩ := own_len hO7; have hR7 := hR6.pure hB7; have hA7 := hA6.pure hB7; have tt7 := tt6.pure hB7; have hT7 := hT6.trans (hB7.mono hT6.size); have s7a := tt7.at 0 rfl; have s7b := tt7.at 1 rfl)
    refine hK.out _ _ ?_ (fun hHeld => ?_)
    · (first | exact ⟨s0a, s0b⟩ | exact ⟨s9a, s9b⟩ | exact ⟨s8a, s8b⟩ | exact ⟨s7a, s7b⟩ | exact ⟨s6a, s6b⟩ | exact ⟨s5a, s5b⟩ | exact ⟨s10a, s10b⟩)
    clear hK K
    try simp only [Act.put, List.setIfInBounds_toArray, List.set_cons_zero, List.set_cons_succ]
    refine wpAnyH_ready (rs := [9]) (by kernel_rfl) (by simp) ?_
    refine AllReadyH.cons rfl (fun K hK => ?_) AllReadyH.nil
    go_simp
    (go_at_call 24; refine (hdrc.out _ _ _ hR7 hA7).mono ?_; rintro e w8 ⟨l2, rfl, hO8, hB8⟩; obtain ⟨l2a, l2c, rfl⟩ := own_len hO8; have hO7b := hO7.pure hB8; have hR8 := hR7.pure hB8; have hA8 := hA7.pure hB8; have tt8 := tt7.pure hB8; have hT8 := hT7.trans (hB8.mono hT7.size); have s8a := tt8.at 0 rfl; have s8b := tt8.at 1 rfl)
    refine hK.out _ _ ?_ (fun hHeld => ?_)
    · (first | exact ⟨s0a, s0b⟩ | exact ⟨s9a, s9b⟩ | exact ⟨s8a, s8b⟩ | exact ⟨s7a, s7b⟩ | exact ⟨s6a, s6b⟩ | exact ⟨s5a, s5b⟩ | exact ⟨s10a, s10b⟩)
    clear hK K
    try simp only [Act.put, List.setIfInBounds_toArray, List.set_cons_zero, List.set_cons_succ]
    refine wpAnyH_ready (rs := [10]) (by kernel_rfl) (by simp) ?_
    refine AllReadyH.cons rfl (fun K hK => ?_) AllReadyH.nil
    go_simp
    (go_at_call 22; refine (xsame_eq _ _ _ N (hO7b.slc xEnc_len) (hO8.slc xEnc_len) hNl).mono ?_; rintro e w9 ⟨rfl, hB9⟩; have hR9 := hR8.pure hB9; have hA9 := hA8.pure hB9; have tt9 := tt8.pure hB9; have hT9 := hT8.trans (hB9.mono hT8.size); have s9a := tt9.at 0 rfl; have s9b := tt9.at 1 rfl)
    refine hK.out _ _ ?_ (fun hHeld => ?_)
    · (first | exact ⟨s0a, s0b⟩ | exact ⟨s9a, s9b⟩ | exact ⟨s8a, s8b⟩ | exact ⟨s7a, s7b⟩ | exact ⟨s6a, s6b⟩ | exact ⟨s5a, s5b⟩ | exact ⟨s10a, s10b⟩)
    clear hK K
    try simp only [Act.put, List.setIfInBounds_toArray, List.set_cons_zero, List.set_cons_succ]
    refine takeH 11 59 (v := ?_) rfl rfl (by kernel_rfl) (by kernel_rfl) (by kernel_rfl) (fun _ _ _ h => h) (Or.inl ⟨by kernel_rfl, ?_⟩) hHeld ?_
    rotate_left 1
    · (intro w hSw; (try dsimp only at hSw); go_simp; (try with_reducible rfl))
    try simp only [Act.put, List.setIfInBounds_toArray, List.set_cons_zero, List.set_cons_succ]
    refine takeH 12 60 (v := ?_) rfl rfl (by kernel_rfl) (by kernel_rfl) (by kernel_rfl) (fun _ _ _ h => h) (Or.inl ⟨by kernel_rfl, ?_⟩) hHeld ?_
    rotate_left 1
    · (intro w hSw; (try dsimp only at hSw); go_simp; (try with_reducible rfl))
    try simp only [Act.put, List.setIfInBounds_toArray, List.set_cons_zero, List.set_cons_succ]
    refine wpAnyH_ready (rs := [13]) (by kernel_rfl) (by simp) ?_
    refine AllReadyH.cons rfl (fun K hK => ?_) AllReadyH.nil
    go_simp
    (go_at_call 11; refine (bhead_any _).mono ?_; rintro e w10 ⟨rfl, hB10⟩; have hR10 := hR9.pure hB10; have hA10 := hA9.pure hB10; have tt10 := tt9.pure hB10; have hT10 := hT9.trans (hB10.mono hT9.size); have s10a := tt10.at 0 rfl; have s10b := tt10.at 1 rfl)
    refine hK.out _ _ ?_ (fun hHeld => ?_)
    · (first | exact ⟨s0a, s0b⟩ | exact ⟨s9a, s9b⟩ | exact ⟨s8a, s8b⟩ | exact ⟨s7a, s7b⟩ | exact ⟨s6a, s6b⟩ | exact ⟨s5a, s5b⟩ | exact ⟨s10a, s10b⟩)
    clear hK K
    try simp only [Act.put, List.setIfInBounds_toArray, List.set_cons_zero, List.set_cons_succ]
    refine takeH 14 62 (v := ?_) rfl rfl (by kernel_rfl) (by kernel_rfl) (by kernel_rfl) (fun _ _ _ h => h) (Or.inl ⟨by kernel_rfl, ?_⟩) hHeld ?_
    rotate_left 1
    · (intro w hSw; (try dsimp only at hSw); go_simp; (try with_reducible rfl))
    try simp only [Act.put, List.setIfInBounds_toArray, List.set_cons_zero, List.set_cons_succ]
    refine takeH 15 4 (v := ?_) rfl rfl (by kernel_rfl) (by kernel_rfl) (by kernel_rfl) (fun _ _ _ h => h) (Or.inl ⟨by kernel_rfl, ?_⟩) hHeld ?_
    rotate_left 1
    · (intro w hSw; (try dsimp only at hSw); go_simp; (try with_reducible rfl))
    try simp only [Act.put, List.setIfInBounds_toArray, List.set_cons_zero, List.set_cons_succ]
    refine wpAnyH_done (by kernel_rfl) ?_ _
    go_wp2
    go_ret
    exact ⟨rfl, hT10⟩
  have htab := Lib.hid h2
  have hris := Lib.hid h1.1.2
  rcases Classical.em (MemB R (xf, xg, xb)) with hm | hm
  rotate_left 1
  · have hfd := Lib.hid (findD_no (A := A) hm)
    have hm' := Lib.hid hm
    clear h1 h2 hm
    go_enter Try.func4, Try.ntmps4
    go_wp2_with (first | (go_at_call 10; (with_reducible refine (great_any _ _ _ R A _ hR0 hA0 hgb2.out).mono ?_); rintro e w1 ⟨rfl, hB1⟩; have hT1 := hT0.trans (hB1.mono hT0.size); have tt1 := tt0.pure hB1; have xx1 := xx0.pure hB1; have hR1 := hR0.pure hB1; have hA1 := hA0.pure hB1; clear ct0 ct1 cx0 cx1 cx2; have ct0 := tt1.at 0 rfl; have ct1 := tt1.at 1 rfl; have cx0 := xx1.at 0 rfl; have cx1 := xx1.at 1 rfl; have cx2 := xx1.at 2 rfl) | (go_at_call 18; (with_reducible refine (find_none _ _ _ R A (xf, xg, xb) hR1 hA1 hLR hLA hfd.out).mono ?_); rintro e w2 ⟨rfl, hB2⟩; have hN2 := Blk.new w2 [.int .u32 0, .string ⟨#[]⟩, .string ⟨#[]⟩, .int .u8 0, .int .u8 0, .int .u32 0, .int .u32 0] 44; have hB2 := hB2.alloc hB2.size (.cells #[.int .u32 0, .string ⟨#[]⟩, .string ⟨#[]⟩, .int .u8 0, .int .u8 0, .int .u32 0, .int .u32 0] 44); have hT2 := hT1.trans (hB2.mono hT1.size); have tt2 := tt1.pure hB2; have xx2 := xx1.pure hB2; have hR2 := hR1.pure hB2; have hA2 := hA1.pure hB2; clear ct0 ct1 cx0 cx1 cx2; have ct0 := tt2.at 0 rfl; have ct1 := tt2.at 1 rfl; have cx0 := xx2.at 0 rfl; have cx1 := xx2.at 1 rfl; have cx2 := xx2.at 2 rfl; have bb2 := hN2; have cb0 := bb2.at 0 rfl; have cb1 := bb2.at 1 rfl; have cb2 := bb2.at 2 rfl; have cb3 := bb2.at 3 rfl; have cb4 := bb2.at 4 rfl; have cb5 := bb2.at 5 rfl; have cb6 := bb2.at 6 rfl) | (go_at_call 19; (with_reducible refine (dat_no _ _ _ R A (xf, xg, xb) hR2 hA2 hm'.out).mono ?_); rintro e w3 ⟨rfl, hB3⟩; have hT3 := hT2.trans (hB3.mono hT2.size); have tt3 := tt2.pure hB3; have xx3 := xx2.pure hB3; have hR3 := hR2.pure hB3; have hA3 := hA2.pure hB3; clear ct0 ct1 cx0 cx1 cx2; have ct0 := tt3.at 0 rfl; have ct1 := tt3.at 1 rfl; have cx0 := xx3.at 0 rfl; have cx1 := xx3.at 1 rfl; have cx2 := xx3.at 2 rfl; clear cb0 cb1 cb2 cb3 cb4 cb5 cb6; have bb3 := bb2.pure hB3; have cb0 := bb3.at 0 rfl; have cb1 := bb3.at 1 rfl; have cb2 := bb3.at 2 rfl; have cb3 := bb3.at 3 rfl; have cb4 := bb3.at 4 rfl; have cb5 := bb3.at 5 rfl; have cb6 := bb3.at 6 rfl) | (go_at_call 20; (with_reducible refine (dcheck2 _ _ _ R A 0 hR3 hA3 hLR hLA htm'.out htab.out).mono ?_); rintro e w4 ⟨rfl, hB4⟩; have hT4 := hT3.trans (hB4.mono hT3.size); have tt4 := tt3.pure hB4; have xx4 := xx3.pure hB4; have hR4 := hR3.pure hB4; have hA4 := hA3.pure hB4; clear ct0 ct1 cx0 cx1 cx2; have ct0 := tt4.at 0 rfl; have ct1 := tt4.at 1 rfl; have cx0 := xx4.at 0 rfl; have cx1 := xx4.at 1 rfl; have cx2 := xx4.at 2 rfl; clear cb0 cb1 cb2 cb3 cb4 cb5 cb6; have bb4 := bb3.pure hB4; have cb0 := bb4.at 0 rfl; have cb1 := bb4.at 1 rfl; have cb2 := bb4.at 2 rfl; have cb3 := bb4.at 3 rfl; have cb4 := bb4.at 4 rfl; have cb5 := bb4.at 5 rfl; have cb6 := bb4.at 6 rfl))
    go_quiet (fail)
    go_wp2
    have hT4d := below_drewN hT4 nq; have tt4d := tt4.pure (below_drewN (Below.refl _ _) nq); have s0a := tt4d.at 0 rfl; have s0b := tt4d.at 1 rfl
    refine wp_region_held_drew (S := (fun w' => w'.cell? ⟨w.heap.size, 0, none⟩ = some (.slice ra R.length rc) ∧ w'.cell? ⟨w.heap.size, 1, none⟩ = some (.slice aa A.length ac))) (by kernel_rfl) ?_ (fun hHeld => ?_)
    · (first | exact ⟨s0a, s0b⟩ | exact ⟨s9a, s9b⟩ | exact ⟨s8a, s8b⟩ | exact ⟨s7a, s7b⟩ | exact ⟨s6a, s6b⟩ | exact ⟨s5a, s5b⟩ | exact ⟨s10a, s10b⟩)
    refine takeH 0 48 (v := ?_) rfl rfl (by kernel_rfl) (by kernel_rfl) (by kernel_rfl) (fun _ _ _ h => h) (Or.inl ⟨by kernel_rfl, ?_⟩) hHeld ?_
    rotate_left 1
    · (intro w hSw; (try dsimp only at hSw); go_simp; (try with_reducible rfl))
    try simp only [Act.put, List.setIfInBounds_toArray, List.set_cons_zero, List.set_cons_succ]
    refine takeH 2 50 (v := ?_) rfl rfl (by kernel_rfl) (by kernel_rfl) (by kernel_rfl) (fun _ _ _ h => h) (Or.inl ⟨by kernel_rfl, ?_⟩) hHeld ?_
    rotate_left 1
    · (intro w hSw; (try dsimp only at hSw); go_simp; (try with_reducible rfl))
    try simp only [Act.put, List.setIfInBounds_toArray, List.set_cons_zero, List.set_cons_succ]
    refine wpAnyH_ready (rs := [1]) (by kernel_rfl) (by simp) ?_
    refine AllReadyH.cons rfl (fun K hK => ?_) AllReadyH.nil
    go_simp
    (go_at_call 21; refine (tcheck2 _ _ _ R A 0 (hR.pure (below_dr hT4d)) (hA.pure (below_dr hT4d)) hLR hLA htab.out).mono ?_; rintro e w5 ⟨rfl, hB5⟩; have hT5 := (below_dr hT4d).trans (hB5.mono hT4d.size); have tt5 := tt4d.drew.pure hB5; have s5a := tt5.at 0 rfl; have s5b := tt5.at 1 rfl; have hR5 := hR.pure hT5; have hA5 := hA.pure hT5)
    refine hK.out _ _ ?_ (fun hHeld => ?_)
    · (first | exact ⟨s0a, s0b⟩ | exact ⟨s9a, s9b⟩ | exact ⟨s8a, s8b⟩ | exact ⟨s7a, s7b⟩ | exact ⟨s6a, s6b⟩ | exact ⟨s5a, s5b⟩ | exact ⟨s10a, s10b⟩)
    clear hK K
    try simp only [Act.put, List.setIfInBounds_toArray, List.set_cons_zero, List.set_cons_succ]
    refine wpAnyH_ready (rs := [3]) (by kernel_rfl) (by simp) ?_
    refine AllReadyH.cons rfl (fun K hK => ?_) AllReadyH.nil
    go_simp
    (go_at_call 20; refine (dcheck2 _ _ _ R A 0 hR5 hA5 hLR hLA htm'.out htab.out).mono ?_; rintro e w6 ⟨rfl, hB6⟩; have hR6 := hR5.pure hB6; have hA6 := hA5.pure hB6; have tt6 := tt5.pure hB6; have hT6 := hT5.trans (hB6.mono hT5.size); have s6a := tt6.at 0 rfl; have s6b := tt6.at 1 rfl)
    refine hK.out _ _ ?_ (fun hHeld => ?_)
    · (first | exact ⟨s0a, s0b⟩ | exact ⟨s9a, s9b⟩ | exact ⟨s8a, s8b⟩ | exact ⟨s7a, s7b⟩ | exact ⟨s6a, s6b⟩ | exact ⟨s5a, s5b⟩ | exact ⟨s10a, s10b⟩)
    clear hK K
    try simp only [Act.put, List.setIfInBounds_toArray, List.set_cons_zero, List.set_cons_succ]
    refine takeH 4 52 (v := ?_) rfl rfl (by kernel_rfl) (by kernel_rfl) (by kernel_rfl) (fun _ _ _ h => h) (Or.inl ⟨by kernel_rfl, ?_⟩) hHeld ?_
    rotate_left 1
    · (intro w hSw; (try dsimp only at hSw); go_simp; (try with_reducible rfl))
    try simp only [Act.put, List.setIfInBounds_toArray, List.set_cons_zero, List.set_cons_succ]
    refine takeH 5 53 (v := ?_) rfl rfl (by kernel_rfl) (by kernel_rfl) (by kernel_rfl) (fun _ _ _ h => h) (Or.inl ⟨by kernel_rfl, ?_⟩) hHeld ?_
    rotate_left 1
    · (intro w hSw; (try dsimp only at hSw); go_simp; (try with_reducible rfl))
    try simp only [Act.put, List.setIfInBounds_toArray, List.set_cons_zero, List.set_cons_succ]
    refine takeH 6 54 (v := ?_) rfl rfl (by kernel_rfl) (by kernel_rfl) (by kernel_rfl) (fun _ _ _ h => h) (Or.inl ⟨by kernel_rfl, ?_⟩) hHeld ?_
    rotate_left 1
    · (intro w hSw; (try dsimp only at hSw); go_simp; (try with_reducible rfl))
    try simp only [Act.put, List.setIfInBounds_toArray, List.set_cons_zero, List.set_cons_succ]
    refine takeH 8 56 (v := ?_) rfl rfl (by kernel_rfl) (by kernel_rfl) (by kernel_rfl) (fun _ _ _ h => h) (Or.inl ⟨by kernel_rfl, ?_⟩) hHeld ?_
    rotate_left 1
    · (intro w hSw; (try dsimp only at hSw); go_simp; (try with_reducible rfl))
    try simp only [Act.put, List.setIfInBounds_toArray, List.set_cons_zero, List.set_cons_succ]
    refine wpAnyH_ready (rs := [7]) (by kernel_rfl) (by simp) ?_
    refine AllReadyH.cons rfl (fun K hK => ?_) AllReadyH.nil
    go_simp
    (go_at_call 23; refine (hrec.out _ _ _ hR6 hA6).mono ?_; rintro e w7 ⟨l1, rfl, hO7, hB7⟩; obtain ⟨l1a, l1c, rfl⟩ := own_len hO7; have hR7 := hR6.pure hB7; have hA7 := hA6.pure hB7; have tt7 := tt6.pure hB7; have hT7 := hT6.trans (hB7.mono hT6.size); have s7a := tt7.at 0 rfl; have s7b := tt7.at 1 rfl)
    refine hK.out _ _ ?_ (fun hHeld => ?_)
    · (first | exact ⟨s0a, s0b⟩ | exact ⟨s9a, s9b⟩ | exact ⟨s8a, s8b⟩ | exact ⟨s7a, s7b⟩ | exact ⟨s6a, s6b⟩ | exact ⟨s5a, s5b⟩ | exact ⟨s10a, s10b⟩)
    clear hK K
    try simp only [Act.put, List.setIfInBounds_toArray, List.set_cons_zero, List.set_cons_succ]
    refine wpAnyH_ready (rs := [9]) (by kernel_rfl) (by simp) ?_
    refine AllReadyH.cons rfl (fun K hK => ?_) AllReadyH.nil
    go_simp
    (go_at_call 24; refine (hdrc.out _ _ _ hR7 hA7).mono ?_; rintro e w8 ⟨l2, rfl, hO8, hB8⟩; obtain ⟨l2a, l2c, rfl⟩ := own_len hO8; have hO7b := hO7.pure hB8; have hR8 := hR7.pure hB8; have hA8 := hA7.pure hB8; have tt8 := tt7.pure hB8; have hT8 := hT7.trans (hB8.mono hT7.size); have s8a := tt8.at 0 rfl; have s8b := tt8.at 1 rfl)
    refine hK.out _ _ ?_ (fun hHeld => ?_)
    · (first | exact ⟨s0a, s0b⟩ | exact ⟨s9a, s9b⟩ | exact ⟨s8a, s8b⟩ | exact ⟨s7a, s7b⟩ | exact ⟨s6a, s6b⟩ | exact ⟨s5a, s5b⟩ | exact ⟨s10a, s10b⟩)
    clear hK K
    try simp only [Act.put, List.setIfInBounds_toArray, List.set_cons_zero, List.set_cons_succ]
    refine wpAnyH_ready (rs := [10]) (by kernel_rfl) (by simp) ?_
    refine AllReadyH.cons rfl (fun K hK => ?_) AllReadyH.nil
    go_simp
    (go_at_call 22; refine (xsame_eq _ _ _ N (hO7b.slc xEnc_len) (hO8.slc xEnc_len) hNl).mono ?_; rintro e w9 ⟨rfl, hB9⟩; have hR9 := hR8.pure hB9; have hA9 := hA8.pure hB9; have tt9 := tt8.pure hB9; have hT9 := hT8.trans (hB9.mono hT8.size); have s9a := tt9.at 0 rfl; have s9b := tt9.at 1 rfl)
    refine hK.out _ _ ?_ (fun hHeld => ?_)
    · (first | exact ⟨s0a, s0b⟩ | exact ⟨s9a, s9b⟩ | exact ⟨s8a, s8b⟩ | exact ⟨s7a, s7b⟩ | exact ⟨s6a, s6b⟩ | exact ⟨s5a, s5b⟩ | exact ⟨s10a, s10b⟩)
    clear hK K
    try simp only [Act.put, List.setIfInBounds_toArray, List.set_cons_zero, List.set_cons_succ]
    refine takeH 11 59 (v := ?_) rfl rfl (by kernel_rfl) (by kernel_rfl) (by kernel_rfl) (fun _ _ _ h => h) (Or.inl ⟨by kernel_rfl, ?_⟩) hHeld ?_
    rotate_left 1
    · (intro w hSw; (try dsimp only at hSw); go_simp; (try with_reducible rfl))
    try simp only [Act.put, List.setIfInBounds_toArray, List.set_cons_zero, List.set_cons_succ]
    refine takeH 12 60 (v := ?_) rfl rfl (by kernel_rfl) (by kernel_rfl) (by kernel_rfl) (fun _ _ _ h => h) (Or.inl ⟨by kernel_rfl, ?_⟩) hHeld ?_
    rotate_left 1
    · (intro w hSw; (try dsimp only at hSw); go_simp; (try with_reducible rfl))
    try simp only [Act.put, List.setIfInBounds_toArray, List.set_cons_zero, List.set_cons_succ]
    refine wpAnyH_ready (rs := [13]) (by kernel_rfl) (by simp) ?_
    refine AllReadyH.cons rfl (fun K hK => ?_) AllReadyH.nil
    go_simp
    (go_at_call 11; refine (bhead_any _).mono ?_; rintro e w10 ⟨rfl, hB10⟩; have hR10 := hR9.pure hB10; have hA10 := hA9.pure hB10; have tt10 := tt9.pure hB10; have hT10 := hT9.trans (hB10.mono hT9.size); have s10a := tt10.at 0 rfl; have s10b := tt10.at 1 rfl)
    refine hK.out _ _ ?_ (fun hHeld => ?_)
    · (first | exact ⟨s0a, s0b⟩ | exact ⟨s9a, s9b⟩ | exact ⟨s8a, s8b⟩ | exact ⟨s7a, s7b⟩ | exact ⟨s6a, s6b⟩ | exact ⟨s5a, s5b⟩ | exact ⟨s10a, s10b⟩)
    clear hK K
    try simp only [Act.put, List.setIfInBounds_toArray, List.set_cons_zero, List.set_cons_succ]
    refine takeH 14 62 (v := ?_) rfl rfl (by kernel_rfl) (by kernel_rfl) (by kernel_rfl) (fun _ _ _ h => h) (Or.inl ⟨by kernel_rfl, ?_⟩) hHeld ?_
    rotate_left 1
    · (intro w hSw; (try dsimp only at hSw); go_simp; (try with_reducible rfl))
    try simp only [Act.put, List.setIfInBounds_toArray, List.set_cons_zero, List.set_cons_succ]
    refine takeH 15 4 (v := ?_) rfl rfl (by kernel_rfl) (by kernel_rfl) (by kernel_rfl) (fun _ _ _ h => h) (Or.inl ⟨by kernel_rfl, ?_⟩) hHeld ?_
    rotate_left 1
    · (intro w hSw; (try dsimp only at hSw); go_simp; (try with_reducible rfl))
    try simp only [Act.put, List.setIfInBounds_toArray, List.set_cons_zero, List.set_cons_succ]
    refine wpAnyH_done (by kernel_rfl) ?_ _
    go_wp2
    go_ret
    exact ⟨rfl, hT10⟩
  obtain ⟨k, hk, hkx⟩ := hm
  have hfd := Lib.hid (findD_yes h1 hk hkx)
  have hkx' := Lib.hid hkx
  obtain ⟨g, off, rfl⟩ := hR.addr hk
  have hk0 : (0 : Int) ≤ (k : Int) := by omega
  have hk1 : (k : Int) < (R.length : Int) := by omega
  have hkd : decide ((0 : Int) ≤ (k : Int)) = true := decide_eq_true hk0
  clear h1 h2 hkx
  go_enter Try.func4, Try.ntmps4
  go_wp2_with (first | (go_at_call 10; (with_reducible refine (great_any _ _ _ R A _ hR0 hA0 hgb2.out).mono ?_); rintro e w1 ⟨rfl, hB1⟩; have hT1 := hT0.trans (hB1.mono hT0.size); have tt1 := tt0.pure hB1; have xx1 := xx0.pure hB1; have hR1 := hR0.pure hB1; have hA1 := hA0.pure hB1; clear ct0 ct1 cx0 cx1 cx2; have ct0 := tt1.at 0 rfl; have ct1 := tt1.at 1 rfl; have cx0 := xx1.at 0 rfl; have cx1 := xx1.at 1 rfl; have cx2 := xx1.at 2 rfl) | (go_at_call 18; (with_reducible refine (find_some _ _ _ R A (xf, xg, xb) _ hR1 hA1 hLR hLA hfd.out).mono ?_); rintro e w2 ⟨rfl, hB2⟩; have hN2 := Blk.new w2 [.int .u32 R[k].x.1, .string R[k].x.2.1, .string R[k].x.2.2, .int .u8 R[k].st, .int .u8 R[k].why, .int .u32 R[k].tm, .int .u32 R[k].lf] 44; have hB2 := hB2.alloc hB2.size (.cells #[.int .u32 R[k].x.1, .string R[k].x.2.1, .string R[k].x.2.2, .int .u8 R[k].st, .int .u8 R[k].why, .int .u32 R[k].tm, .int .u32 R[k].lf] 44); have hT2 := hT1.trans (hB2.mono hT1.size); have tt2 := tt1.pure hB2; have xx2 := xx1.pure hB2; have hR2 := hR1.pure hB2; have hA2 := hA1.pure hB2; clear ct0 ct1 cx0 cx1 cx2; have ct0 := tt2.at 0 rfl; have ct1 := tt2.at 1 rfl; have cx0 := xx2.at 0 rfl; have cx1 := xx2.at 1 rfl; have cx2 := xx2.at 2 rfl; have bb2 := hN2; have cb0 := bb2.at 0 rfl; have cb1 := bb2.at 1 rfl; have cb2 := bb2.at 2 rfl; have cb3 := bb2.at 3 rfl; have cb4 := bb2.at 4 rfl; have cb5 := bb2.at 5 rfl; have cb6 := bb2.at 6 rfl) | (go_at_call 19; (with_reducible refine (dat_yes _ _ _ R A (xf, xg, xb) k hR2 hA2 hris.out hk hkx'.out).mono ?_); rintro e w3 ⟨rfl, hB3⟩; have hT3 := hT2.trans (hB3.mono hT2.size); have tt3 := tt2.pure hB3; have xx3 := xx2.pure hB3; have hR3 := hR2.pure hB3; have hA3 := hA2.pure hB3; clear ct0 ct1 cx0 cx1 cx2; have ct0 := tt3.at 0 rfl; have ct1 := tt3.at 1 rfl; have cx0 := xx3.at 0 rfl; have cx1 := xx3.at 1 rfl; have cx2 := xx3.at 2 rfl; clear cb0 cb1 cb2 cb3 cb4 cb5 cb6; have bb3 := bb2.pure hB3; have cb0 := bb3.at 0 rfl; have cb1 := bb3.at 1 rfl; have cb2 := bb3.at 2 rfl; have cb3 := bb3.at 3 rfl; have cb4 := bb3.at 4 rfl; have cb5 := bb3.at 5 rfl; have cb6 := bb3.at 6 rfl) | (go_at_call 20; (with_reducible refine (dcheck2 _ _ _ R A 0 hR3 hA3 hLR hLA htm'.out htab.out).mono ?_); rintro e w4 ⟨rfl, hB4⟩; have hT4 := hT3.trans (hB4.mono hT3.size); have tt4 := tt3.pure hB4; have xx4 := xx3.pure hB4; have hR4 := hR3.pure hB4; have hA4 := hA3.pure hB4; clear ct0 ct1 cx0 cx1 cx2; have ct0 := tt4.at 0 rfl; have ct1 := tt4.at 1 rfl; have cx0 := xx4.at 0 rfl; have cx1 := xx4.at 1 rfl; have cx2 := xx4.at 2 rfl; clear cb0 cb1 cb2 cb3 cb4 cb5 cb6; have bb4 := bb3.pure hB4; have cb0 := bb4.at 0 rfl; have cb1 := bb4.at 1 rfl; have cb2 := bb4.at 2 rfl; have cb3 := bb4.at 3 rfl; have cb4 := bb4.at 4 rfl; have cb5 := bb4.at 5 rfl; have cb6 := bb4.at 6 rfl; obtain ⟨q0, q1, q2, q3, q4, q5, q6⟩ := br_cells hR4 hk))
  go_quiet (fail)
  go_wp2
  have hT4d := below_drewN hT4 nq; have tt4d := tt4.pure (below_drewN (Below.refl _ _) nq); have s0a := tt4d.at 0 rfl; have s0b := tt4d.at 1 rfl
  refine wp_region_held_drew (S := (fun w' => w'.cell? ⟨w.heap.size, 0, none⟩ = some (.slice (some ⟨g, off, none⟩) R.length rc) ∧ w'.cell? ⟨w.heap.size, 1, none⟩ = some (.slice aa A.length ac))) (by kernel_rfl) ?_ (fun hHeld => ?_)
  · (first | exact ⟨s0a, s0b⟩ | exact ⟨s9a, s9b⟩ | exact ⟨s8a, s8b⟩ | exact ⟨s7a, s7b⟩ | exact ⟨s6a, s6b⟩ | exact ⟨s5a, s5b⟩ | exact ⟨s10a, s10b⟩)
  refine takeH 0 48 (v := ?_) rfl rfl (by kernel_rfl) (by kernel_rfl) (by kernel_rfl) (fun _ _ _ h => h) (Or.inl ⟨by kernel_rfl, ?_⟩) hHeld ?_
  rotate_left 1
  · (intro w hSw; (try dsimp only at hSw); go_simp; (try with_reducible rfl))
  try simp only [Act.put, List.setIfInBounds_toArray, List.set_cons_zero, List.set_cons_succ]
  refine takeH 2 50 (v := ?_) rfl rfl (by kernel_rfl) (by kernel_rfl) (by kernel_rfl) (fun _ _ _ h => h) (Or.inl ⟨by kernel_rfl, ?_⟩) hHeld ?_
  rotate_left 1
  · (intro w hSw; (try dsimp only at hSw); go_simp; (try with_reducible rfl))
  try simp only [Act.put, List.setIfInBounds_toArray, List.set_cons_zero, List.set_cons_succ]
  refine wpAnyH_ready (rs := [1]) (by kernel_rfl) (by simp) ?_
  refine AllReadyH.cons rfl (fun K hK => ?_) AllReadyH.nil
  go_simp
  (go_at_call 21; refine (tcheck2 _ _ _ R A 0 (hR.pure (below_dr hT4d)) (hA.pure (below_dr hT4d)) hLR hLA htab.out).mono ?_; rintro e w5 ⟨rfl, hB5⟩; have hT5 := (below_dr hT4d).trans (hB5.mono hT4d.size); have tt5 := tt4d.drew.pure hB5; have s5a := tt5.at 0 rfl; have s5b := tt5.at 1 rfl; have hR5 := hR.pure hT5; have hA5 := hA.pure hT5)
  refine hK.out _ _ ?_ (fun hHeld => ?_)
  · (first | exact ⟨s0a, s0b⟩ | exact ⟨s9a, s9b⟩ | exact ⟨s8a, s8b⟩ | exact ⟨s7a, s7b⟩ | exact ⟨s6a, s6b⟩ | exact ⟨s5a, s5b⟩ | exact ⟨s10a, s10b⟩)
  clear hK K
  try simp only [Act.put, List.setIfInBounds_toArray, List.set_cons_zero, List.set_cons_succ]
  refine wpAnyH_ready (rs := [3]) (by kernel_rfl) (by simp) ?_
  refine AllReadyH.cons rfl (fun K hK => ?_) AllReadyH.nil
  go_simp
  (go_at_call 20; refine (dcheck2 _ _ _ R A 0 hR5 hA5 hLR hLA htm'.out htab.out).mono ?_; rintro e w6 ⟨rfl, hB6⟩; have hR6 := hR5.pure hB6; have hA6 := hA5.pure hB6; have tt6 := tt5.pure hB6; have hT6 := hT5.trans (hB6.mono hT5.size); have s6a := tt6.at 0 rfl; have s6b := tt6.at 1 rfl)
  refine hK.out _ _ ?_ (fun hHeld => ?_)
  · (first | exact ⟨s0a, s0b⟩ | exact ⟨s9a, s9b⟩ | exact ⟨s8a, s8b⟩ | exact ⟨s7a, s7b⟩ | exact ⟨s6a, s6b⟩ | exact ⟨s5a, s5b⟩ | exact ⟨s10a, s10b⟩)
  clear hK K
  try simp only [Act.put, List.setIfInBounds_toArray, List.set_cons_zero, List.set_cons_succ]
  refine takeH 4 52 (v := ?_) rfl rfl (by kernel_rfl) (by kernel_rfl) (by kernel_rfl) (fun _ _ _ h => h) (Or.inl ⟨by kernel_rfl, ?_⟩) hHeld ?_
  rotate_left 1
  · (intro w hSw; (try dsimp only at hSw); go_simp; (try with_reducible rfl))
  try simp only [Act.put, List.setIfInBounds_toArray, List.set_cons_zero, List.set_cons_succ]
  refine takeH 5 53 (v := ?_) rfl rfl (by kernel_rfl) (by kernel_rfl) (by kernel_rfl) (fun _ _ _ h => h) (Or.inl ⟨by kernel_rfl, ?_⟩) hHeld ?_
  rotate_left 1
  · (intro w hSw; (try dsimp only at hSw); go_simp; (try with_reducible rfl))
  try simp only [Act.put, List.setIfInBounds_toArray, List.set_cons_zero, List.set_cons_succ]
  refine takeH 6 54 (v := ?_) rfl rfl (by kernel_rfl) (by kernel_rfl) (by kernel_rfl) (fun _ _ _ h => h) (Or.inl ⟨by kernel_rfl, ?_⟩) hHeld ?_
  rotate_left 1
  · (intro w hSw; (try dsimp only at hSw); go_simp; (try with_reducible rfl))
  try simp only [Act.put, List.setIfInBounds_toArray, List.set_cons_zero, List.set_cons_succ]
  refine takeH 8 56 (v := ?_) rfl rfl (by kernel_rfl) (by kernel_rfl) (by kernel_rfl) (fun _ _ _ h => h) (Or.inl ⟨by kernel_rfl, ?_⟩) hHeld ?_
  rotate_left 1
  · (intro w hSw; (try dsimp only at hSw); go_simp; (try with_reducible rfl))
  try simp only [Act.put, List.setIfInBounds_toArray, List.set_cons_zero, List.set_cons_succ]
  refine wpAnyH_ready (rs := [7]) (by kernel_rfl) (by simp) ?_
  refine AllReadyH.cons rfl (fun K hK => ?_) AllReadyH.nil
  go_simp
  (go_at_call 23; refine (hrec.out _ _ _ hR6 hA6).mono ?_; rintro e w7 ⟨l1, rfl, hO7, hB7⟩; obtain ⟨l1a, l1c, rfl⟩ := own_len hO7; have hR7 := hR6.pure hB7; have hA7 := hA6.pure hB7; have tt7 := tt6.pure hB7; have hT7 := hT6.trans (hB7.mono hT6.size); have s7a := tt7.at 0 rfl; have s7b := tt7.at 1 rfl)
  refine hK.out _ _ ?_ (fun hHeld => ?_)
  · (first | exact ⟨s0a, s0b⟩ | exact ⟨s9a, s9b⟩ | exact ⟨s8a, s8b⟩ | exact ⟨s7a, s7b⟩ | exact ⟨s6a, s6b⟩ | exact ⟨s5a, s5b⟩ | exact ⟨s10a, s10b⟩)
  clear hK K
  try simp only [Act.put, List.setIfInBounds_toArray, List.set_cons_zero, List.set_cons_succ]
  refine wpAnyH_ready (rs := [9]) (by kernel_rfl) (by simp) ?_
  refine AllReadyH.cons rfl (fun K hK => ?_) AllReadyH.nil
  go_simp
  (go_at_call 24; refine (hdrc.out _ _ _ hR7 hA7).mono ?_; rintro e w8 ⟨l2, rfl, hO8, hB8⟩; obtain ⟨l2a, l2c, rfl⟩ := own_len hO8; have hO7b := hO7.pure hB8; have hR8 := hR7.pure hB8; have hA8 := hA7.pure hB8; have tt8 := tt7.pure hB8; have hT8 := hT7.trans (hB8.mono hT7.size); have s8a := tt8.at 0 rfl; have s8b := tt8.at 1 rfl)
  refine hK.out _ _ ?_ (fun hHeld => ?_)
  · (first | exact ⟨s0a, s0b⟩ | exact ⟨s9a, s9b⟩ | exact ⟨s8a, s8b⟩ | exact ⟨s7a, s7b⟩ | exact ⟨s6a, s6b⟩ | exact ⟨s5a, s5b⟩ | exact ⟨s10a, s10b⟩)
  clear hK K
  try simp only [Act.put, List.setIfInBounds_toArray, List.set_cons_zero, List.set_cons_succ]
  refine wpAnyH_ready (rs := [10]) (by kernel_rfl) (by simp) ?_
  refine AllReadyH.cons rfl (fun K hK => ?_) AllReadyH.nil
  go_simp
  (go_at_call 22; refine (xsame_eq _ _ _ N (hO7b.slc xEnc_len) (hO8.slc xEnc_len) hNl).mono ?_; rintro e w9 ⟨rfl, hB9⟩; have hR9 := hR8.pure hB9; have hA9 := hA8.pure hB9; have tt9 := tt8.pure hB9; have hT9 := hT8.trans (hB9.mono hT8.size); have s9a := tt9.at 0 rfl; have s9b := tt9.at 1 rfl)
  refine hK.out _ _ ?_ (fun hHeld => ?_)
  · (first | exact ⟨s0a, s0b⟩ | exact ⟨s9a, s9b⟩ | exact ⟨s8a, s8b⟩ | exact ⟨s7a, s7b⟩ | exact ⟨s6a, s6b⟩ | exact ⟨s5a, s5b⟩ | exact ⟨s10a, s10b⟩)
  clear hK K
  try simp only [Act.put, List.setIfInBounds_toArray, List.set_cons_zero, List.set_cons_succ]
  refine takeH 11 59 (v := ?_) rfl rfl (by kernel_rfl) (by kernel_rfl) (by kernel_rfl) (fun _ _ _ h => h) (Or.inl ⟨by kernel_rfl, ?_⟩) hHeld ?_
  rotate_left 1
  · (intro w hSw; (try dsimp only at hSw); go_simp; (try with_reducible rfl))
  try simp only [Act.put, List.setIfInBounds_toArray, List.set_cons_zero, List.set_cons_succ]
  refine takeH 12 60 (v := ?_) rfl rfl (by kernel_rfl) (by kernel_rfl) (by kernel_rfl) (fun _ _ _ h => h) (Or.inl ⟨by kernel_rfl, ?_⟩) hHeld ?_
  rotate_left 1
  · (intro w hSw; (try dsimp only at hSw); go_simp; (try with_reducible rfl))
  try simp only [Act.put, List.setIfInBounds_toArray, List.set_cons_zero, List.set_cons_succ]
  refine wpAnyH_ready (rs := [13]) (by kernel_rfl) (by simp) ?_
  refine AllReadyH.cons rfl (fun K hK => ?_) AllReadyH.nil
  go_simp
  (go_at_call 11; refine (bhead_any _).mono ?_; rintro e w10 ⟨rfl, hB10⟩; have hR10 := hR9.pure hB10; have hA10 := hA9.pure hB10; have tt10 := tt9.pure hB10; have hT10 := hT9.trans (hB10.mono hT9.size); have s10a := tt10.at 0 rfl; have s10b := tt10.at 1 rfl)
  refine hK.out _ _ ?_ (fun hHeld => ?_)
  · (first | exact ⟨s0a, s0b⟩ | exact ⟨s9a, s9b⟩ | exact ⟨s8a, s8b⟩ | exact ⟨s7a, s7b⟩ | exact ⟨s6a, s6b⟩ | exact ⟨s5a, s5b⟩ | exact ⟨s10a, s10b⟩)
  clear hK K
  try simp only [Act.put, List.setIfInBounds_toArray, List.set_cons_zero, List.set_cons_succ]
  refine takeH 14 62 (v := ?_) rfl rfl (by kernel_rfl) (by kernel_rfl) (by kernel_rfl) (fun _ _ _ h => h) (Or.inl ⟨by kernel_rfl, ?_⟩) hHeld ?_
  rotate_left 1
  · (intro w hSw; (try dsimp only at hSw); go_simp; (try with_reducible rfl))
  try simp only [Act.put, List.setIfInBounds_toArray, List.set_cons_zero, List.set_cons_succ]
  refine takeH 15 4 (v := ?_) rfl rfl (by kernel_rfl) (by kernel_rfl) (by kernel_rfl) (fun _ _ _ h => h) (Or.inl ⟨by kernel_rfl, ?_⟩) hHeld ?_
  rotate_left 1
  · (intro w hSw; (try dsimp only at hSw); go_simp; (try with_reducible rfl))
  try simp only [Act.put, List.setIfInBounds_toArray, List.set_cons_zero, List.set_cons_succ]
  refine wpAnyH_done (by kernel_rfl) ?_ _
  go_wp2
  go_ret
  exact ⟨rfl, hT10⟩
end Go.Proofs.Ytcelpincmpjhkaa

/- The law BranchAsks from its arguments as they are read. Conditions: none. -/
namespace Go.Proofs.Ytcelpincmpjhkaa
set_option linter.unusedSimpArgs false
set_option linter.unusedVariables false
open Go.ChangeShapes Go.WideShapes Go.ChangeAt Go.RowKit

set_option maxRecDepth 100000 in
theorem branchAsks_args {H : Type} (enc : TypeId × Value → H) (W : World) {base : Nat} (v0 : Value) (d0 : DataW H) (p0 : List MemPlace) (v1 : Value) (d1 : DataW H) (p1 : List MemPlace)
    (h0 : DataW.Trod enc Try.prog W 0 (fun _ => true) true 25 v0 d0 p0) (h1 : DataW.Trod enc Try.prog W 0 (fun _ => true) true 28 v1 d1 p1)
    (k0 : Value.okWide Try.prog W .any base 25 v0) (k1 : Value.okWide Try.prog W .any base 28 v1) {S : Prop} (_ : S) :
    Calls Try.prog 4 #[v0, v1] W fun e w' => e = .returned (.bool true) ∧ Below W.heap.size W w' := by
  obtain ⟨rv, av, R, A, rfl, hR, hA, hW⟩ := open_tab k0 h0
  obtain ⟨x, rfl⟩ := open_xid_arg k1 h1
  exact branchAsks_any W rv av R A x hR hA (fun b hb => (hW b hb).1.1)
end Go.Proofs.Ytcelpincmpjhkaa

/- The statement BranchAsksSaid: whatever its arguments are, the law BranchAsks returns true, and leaves its arguments as they were. Conditions: none beyond the statement's own. -/
namespace Go.Proofs.Ytcelpincmpjhkaa.holdBranchAsks
open Go.ChangeShapes Go.WideShapes Go.ChangeAt Go.RowKit

theorem ownK : ownKnob Try.prog.godebug = none := by kernel_rfl
theorem laid : laidOutB Try.prog = true := by kernel_rfl

set_option maxRecDepth 100000 in
set_option maxHeartbeats 1000000 in
theorem lifted (os : Os) (started : os.Started) (H : Type) (enc : TypeId × Value → H) :
    ReturnsInHanded {} Try.checked os 4 .any (Rows.branchAsksSpec.pre6 enc Try.prog Try.f4 Rows.branchAsksRow.domain false) (Rows.branchAsksSpec.post enc Try.prog Try.f4 false true false false) := by
  refine returnsInHanded_of_change_sized (C := Try.checked) ownK started (by kernel_rfl) Try.func4
    (ChangeSpec.witness6 (enc := enc) (C := Try.checked) false ⟨#[], #[.agg #[.slice none 0 0, .slice none 0 0], .agg #[.int .u32 0, .string ⟨#[]⟩, .string ⟨#[]⟩]], []⟩ 8 (by kernel_rfl) (by kernel_rfl) (by kernel_rfl) (by kernel_rfl)) ?_
  intro W base args ds gs before hval0 hW _ hsz0 _
  have hsz : (DataW.weightsEach Try.prog (Try.f4.params.toList ++ Rows.branchAsksSpec.plain.varTypes Try.prog) (ds ++ gs)).all (· ≤ reachBytes) = true := hsz0
  clear hsz0
  have hval : ∀ (j : Nat) t v, Try.f4.params[j]? = some t → args[j]? = some v → Value.okWide Try.prog W .any base t v := hval0
  have hW' := hW
  obtain ⟨p, q, hA0, hV, rfl, hfz, hnd⟩ := hW
  have hA : DataW.TrodAll enc Try.prog W 0 (fun _ => true) true Try.f4.params.toList args.toList ds p := hA0
  rw [Try.params4] at hA hval hsz
  obtain ⟨v0, vs0, d0, ds0, p0, q0, hargs, rfl, rfl, h0, r0⟩ := trodAll_cons hA
  obtain ⟨v1, vs1, d1, ds1, p1, q1, rfl, rfl, rfl, h1, r1⟩ := trodAll_cons r0
  obtain ⟨rfl, rfl, rfl⟩ := trodAll_nil r1
  obtain rfl : args = #[v0, v1] := by cases args; simp_all
  obtain ⟨rfl, rfl⟩ := trodVars_none hV
  have k0 := hval 0 25 v0 rfl rfl
  have k1 := hval 1 28 v1 rfl rfl
  clear hA0 hval0 hval
  simp only [List.append_nil] at hW'
  have hlt : ∀ x ∈ p0 ++ p1, x.block < W.heap.size := fun x hx => by simpa using hW'.lt x (by simpa using hx)
  have g0 : ∀ W', Below W.heap.size W W' → DataW.Trod enc Try.prog W' 0 (fun b => decide (b < W.heap.size)) true 25 v0 d0 p0 := fun W' hn => Below.trod laid (by kernel_rfl) (of_decide_eq_true (by kernel_rfl)) h0 hn (fun x hx => hlt x (by simp [hx]))
  have g1 : ∀ W', Below W.heap.size W W' → DataW.Trod enc Try.prog W' 0 (fun b => decide (b < W.heap.size)) true 28 v1 d1 p1 := fun W' hn => Below.trod laid (by kernel_rfl) (of_decide_eq_true (by kernel_rfl)) h1 hn (fun x hx => hlt x (by simp [hx]))
  refine (branchAsks_args enc W v0 d0 p0 v1 d1 p1 h0 h1 k0 k1 hsz).mono fun e W' ⟨he, hb⟩ => ?_
  subst he
  exact ⟨_, rfl, _, _, _, [], _, [], hW', trodAll_cons_mk (shut_bool Try.underlying4 _) trodAll_mk0, (trodAll_cons_mk (g0 _ hb) (trodAll_cons_mk (g1 _ hb) trodAll_mk0)), rfl, hb.frame _, fun h => by cases h⟩

/-- The statement. -/
theorem proved : Rows.BranchAsksSaid :=
  OpenClaim.holds_of_wide 4 Try.f4 rfl rfl rfl rfl rfl rfl rfl ⟨rfl, rfl, rfl, rfl, rfl⟩ rfl rfl rfl rfl rfl (by kernel_rfl) Try.func4 (by kernel_rfl)
    (of_decide_eq_true (by kernel_rfl)) (by unfold Func.isWrapper; first | (rw [if_pos (by decide +kernel)]; kernel_rfl) | (rw [if_neg (by decide +kernel)]; exact ⟨rfl, rfl⟩))
    (fun os started H enc _ => lifted os started H enc)
#print axioms proved
end Go.Proofs.Ytcelpincmpjhkaa.holdBranchAsks
namespace Go.Proofs.Ytcelpincmpjhkaa
set_option linter.unusedSimpArgs false
set_option linter.unusedVariables false
theorem branchAsks_holds : Rows.BranchAsksSaid := holdBranchAsks.proved
#print axioms branchAsks_holds
end Go.Proofs.Ytcelpincmpjhkaa
