/- Chapter 19, the document's side: Check, may. Conditions: rows and associations read; no timeout is negative; at most a million of each. Written by gen_brDc.py. -/
import Derived.Test.YtcelpincmpjhkaaHD
import Derived.Test.YtcelpincmpjhkaaAssocQ
import Derived.Test.YtcelpincmpjhkaaGB
import Derived.IntWalk
import Derived.Deep.Cut
namespace Go.Proofs.Ytcelpincmpjhkaa
set_option linter.unusedSimpArgs false
set_option linter.unusedVariables false
open Go.RowKit

theorem signX_lt {x y : Xid} : signX x y < 0 ↔ cmpX x y < 0 := by
  unfold signX
  by_cases h : cmpX x y = 0
  · rw [if_pos h, h]
  · rw [if_neg h]
    by_cases h2 : cmpX x y < 0
    · rw [if_pos h2]; omega
    · rw [if_neg h2]; omega
theorem rowOk_iff (b : Brn) : RowOk b ↔ XidOk b.x ∧ 1 ≤ b.st ∧ b.st ≤ 4 ∧ b.why ≤ 2 ∧ ((b.st ≠ 1 ∨ b.why ≠ 0 ∨ b.tm = 0) → b.lf = 0 ∧ (b.st = 1 ∨ b.why = 0)) ∧ (¬ (b.st ≠ 1 ∨ b.why ≠ 0 ∨ b.tm = 0) → 1 ≤ b.lf ∧ b.lf ≤ b.tm) := by
  unfold RowOk
  by_cases h : b.st ≠ 1 ∨ b.why ≠ 0 ∨ b.tm = 0
  · rw [if_pos h]; exact ⟨fun ⟨a, b, c, d, e⟩ => ⟨a, b, c, d, fun _ => e, fun q => absurd h q⟩, fun ⟨a, b, c, d, e, _⟩ => ⟨a, b, c, d, e h⟩⟩
  · rw [if_neg h]; exact ⟨fun ⟨a, b, c, d, e⟩ => ⟨a, b, c, d, fun q => absurd q h, fun _ => e⟩, fun ⟨a, b, c, d, _, e⟩ => ⟨a, b, c, d, e h⟩⟩
theorem rcmp2 (w : World) (x y : Xid) (c : Int) (hx : XidOk x) (hy : XidOk y) (hc : signX x y = c) :
    Calls Try.prog 74 #[.agg #[.int .u32 x.1, .string x.2.1, .string x.2.2], .agg #[.int .u32 y.1, .string y.2.1, .string y.2.2]] w fun e w' => e = .returned (.int .i64 c) ∧ Below w.heap.size w w' := by
  rw [← hc]
  obtain ⟨-, h1, h2⟩ := hx
  obtain ⟨-, h3, h4⟩ := hy
  exact rcompare w x y (by omega) (by omega) (by omega) (by omega)

set_option maxRecDepth 100000 in
set_option maxHeartbeats 8000000 in
theorem dcheck_any (w : World) (rv av : Value) (R : List Brn) (A : List Asc) (hR : Slc brEnc 7 w rv R) (hA : Slc ascEnc 5 w av A) (hLR : R.length ≤ 1000000) (hLA : A.length ≤ 1000000) (htm : ∀ b ∈ R, 0 ≤ b.tm) :
    Calls Try.prog 20 #[.agg #[rv, av]] w fun e w' => e = .returned (.int .i64 (tabE R A)) ∧ Below w.heap.size w w' := by
  obtain ⟨ra, rc, rfl, hm1⟩ := hR.len
  obtain ⟨aa, ac, rfl, hm2⟩ := hA.len
  unfold maxLen at hm1 hm2
  have t0' := Blk.new w [.slice ra R.length rc, .slice aa A.length ac] 25
  have hB0' := (Below.refl w.heap.size w).alloc (Nat.le_refl _) (.cells #[.slice ra R.length rc, .slice aa A.length ac] 25)
  obtain ⟨W0, hW0⟩ : ∃ W0, W0 = w.alloc (.cells #[.slice ra R.length rc, .slice aa A.length ac] 25) := ⟨_, rfl⟩
  have t0 : Blk W0 w.heap.size [.slice ra R.length rc, .slice aa A.length ac] := by rw [hW0]; exact t0'
  have hB0 : Below w.heap.size w W0 := by rw [hW0]; exact hB0'
  have hz0 : w.heap.size < W0.heap.size := by rw [hW0]; simp
  clear t0' hB0'
  have htm' := Lib.hid htm; clear htm
  go_enter Try.func20, Try.ntmps20
  go_wp2
  rw [← hW0]
  clear hW0
  go_loopw [3] (fun s3 wr => ∃ k : Nat, k ≤ R.length ∧ s3 = .int .i64 k ∧ RowsOk (R.take k) ∧ Below W0.heap.size W0 wr) (fun s3 _ => R.length - (intOf s3).toNat)
  case atStart => exact ⟨0, by omega, rfl, by simpa using RowsOk.nil, Below.refl _ _⟩
  case round =>
    obtain ⟨k, hk, rfl, hK, hB⟩ := hrel
    have hK' := Lib.hid hK
    have hBw := hB0.trans (hB.mono hB0.size)
    have tr := t0.below hB hz0
    have z0 := tr.at 0 rfl
    have z1 := tr.at 1 rfl
    by_cases hlt : k < R.length
    · have hra := Lib.hid (rowsB_at hlt hK)
      have hbad := Lib.hid (fun h => tab_bad1 (A := A) (k := k) (R := R) h)
      have htk := Lib.hid (htm'.out R[k] (List.getElem_mem hlt))
      have hprev := Lib.hid (fun (h : 0 < k) => (show XidOk (R[k - 1]'(by omega)).x from (hK.1 (R[k - 1]'(by omega)) (List.mem_iff_getElem.2 ⟨k - 1, by rw [List.length_take]; omega, by rw [List.getElem_take]⟩)).1))
      clear hK
      have hsr := hR.pure hBw
      obtain ⟨g, off, rfl⟩ := hsr.addr hlt
      obtain ⟨c0, c1, c2, c3, c4, c5, c6⟩ := br_cells hsr hlt
      obtain ⟨x, hxe⟩ : ∃ x, x = R[k] := ⟨_, rfl⟩
      rw [← hxe] at c0 c1 c2 c3 c4 c5 c6 hra htk
      clear hxe
      obtain ⟨⟨xf, xg, xb⟩, st, why, tm, lf⟩ := x
      simp only at c0 c1 c2 c3 c4 c5 c6 hra htk
      have hk0i : (0 : Int) ≤ (k : Int) := by omega
      have hk1i' : (k : Int) < (R.length : Int) := by omega
      have b0 : Blk (wr.alloc (.cells #[.int .u32 xf, .string xg, .string xb, .int .u8 st, .int .u8 why, .int .u32 tm, .int .u32 lf] 44)) wr.heap.size [.int .u32 xf, .string xg, .string xb, .int .u8 st, .int .u8 why, .int .u32 tm, .int .u32 lf] := Blk.new wr [.int .u32 xf, .string xg, .string xb, .int .u8 st, .int .u8 why, .int .u32 tm, .int .u32 lf] 44
      have hAl := (Below.refl wr.heap.size wr).alloc (Nat.le_refl _) (.cells #[.int .u32 xf, .string xg, .string xb, .int .u8 st, .int .u8 why, .int .u32 tm, .int .u32 lf] 44)
      have hBb := hBw.trans (hAl.mono hBw.size)
      have hBc := hB.trans (hAl.mono hB.size)
      have hsb := hsr.pure hAl
      have tb := tr.pure hAl
      have e0 := b0.at 0 rfl; have e1 := b0.at 1 rfl; have e2 := b0.at 2 rfl; have e3 := b0.at 3 rfl; have e4 := b0.at 4 rfl; have e5 := b0.at 5 rfl; have e6 := b0.at 6 rfl
      have e7 := tb.at 0 rfl; have e8 := tb.at 1 rfl
      have hri := Lib.hid (rowOk_iff ⟨(xf, xg, xb), st, why, tm, lf⟩)
      by_cases hx : XidOk (xf, xg, xb)
      rotate_left 1
      · have hxv := Lib.hid (show (if XidOk (xf, xg, xb) then (0 : Int) else 40) = 40 from if_neg hx)
        have hno := Lib.hid (hbad.out (fun h => hx (hra.out.1 h).1.1))
        clear hx
        go_wp2
        refine wp_region_held_drew (S := (fun w' => w'.cell? ⟨wr.heap.size, 0, none⟩ = some (.int .u32 xf) ∧ w'.cell? ⟨wr.heap.size, 1, none⟩ = some (.string xg) ∧ w'.cell? ⟨wr.heap.size, 2, none⟩ = some (.string xb) ∧ w'.cell? ⟨wr.heap.size, 3, none⟩ = some (.int .u8 st) ∧ w'.cell? ⟨wr.heap.size, 4, none⟩ = some (.int .u8 why) ∧ w'.cell? ⟨wr.heap.size, 5, none⟩ = some (.int .u32 tm) ∧ w'.cell? ⟨wr.heap.size, 6, none⟩ = some (.int .u32 lf) ∧ w'.cell? ⟨w.heap.size, 0, none⟩ = some (.slice (some ⟨g, off, none⟩) R.length rc) ∧ w'.cell? ⟨w.heap.size, 1, none⟩ = some (.slice aa A.length ac))) (by kernel_rfl) ?_ (fun hHeld => ?_)
        · (first | exact ⟨h0, h1, h2, h3, h4, h5, h6, h7, h8⟩ | exact ⟨f0, f1, f2, f3, f4, f5, f6, f7, f8⟩ | exact ⟨e0, e1, e2, e3, e4, e5, e6, e7, e8⟩)
        refine takeY 0 19 rfl rfl (v := ?_) ?_ hHeld ?_
        rotate_left 1
        · (intro w hSw; (try dsimp only at hSw); go_simp; (try with_reducible rfl))
        try simp only [Act.put, lsT, lsZ, lsS]
        refine takeY 1 20 rfl rfl (v := ?_) ?_ hHeld ?_
        rotate_left 1
        · (intro w hSw; (try dsimp only at hSw); go_simp; (try with_reducible rfl))
        try simp only [Act.put, lsT, lsZ, lsS]
        refine wpAnyH_ready (rs := [2]) (by kernel_rfl) (by simp) ?_
        refine AllReadyH.cons rfl (fun K hK => ?_) AllReadyH.nil
        go_simp
        (go_at_call 73; refine (rcheck4 _ (xf, xg, xb) _ hxv.out).mono ?_; rintro e w1 ⟨rfl, hB1⟩; have b1 := b0.drew.pure hB1; have t1 := tb.drew.pure hB1; have hs1 := hsb.drew.pure hB1; have hB1t := (below_dr hBb).trans (hB1.mono hBb.size); have hB1c := (below_dr hBc).trans (hB1.mono hBc.size); have f0 := b1.at 0 rfl; have f1 := b1.at 1 rfl; have f2 := b1.at 2 rfl; have f3 := b1.at 3 rfl; have f4 := b1.at 4 rfl; have f5 := b1.at 5 rfl; have f6 := b1.at 6 rfl; have f7 := t1.at 0 rfl; have f8 := t1.at 1 rfl)
        refine hK.out _ _ ?_ (fun hHeld => ?_)
        · (first | exact ⟨h0, h1, h2, h3, h4, h5, h6, h7, h8⟩ | exact ⟨f0, f1, f2, f3, f4, f5, f6, f7, f8⟩ | exact ⟨e0, e1, e2, e3, e4, e5, e6, e7, e8⟩)
        clear hK K
        try simp only [Act.put, lsT, lsZ, lsS]
        refine takeY 3 22 rfl rfl (v := ?_) ?_ hHeld ?_
        rotate_left 1
        · (intro w hSw; (try dsimp only at hSw); go_simp; (try with_reducible rfl))
        try simp only [Act.put, lsT, lsZ, lsS]
        refine takeY 4 23 rfl rfl (v := ?_) ?_ hHeld ?_
        rotate_left 1
        · (intro w hSw; (try dsimp only at hSw); go_simp; (try with_reducible rfl))
        try simp only [Act.put, lsT, lsZ, lsS]
        refine takeN 5 24 rfl rfl hHeld ?_
        try simp only [Act.put, lsT, lsZ, lsS]
        refine takeN 6 25 rfl rfl hHeld ?_
        try simp only [Act.put, lsT, lsZ, lsS]
        refine takeN 7 26 rfl rfl hHeld ?_
        try simp only [Act.put, lsT, lsZ, lsS]
        refine takeN 8 27 rfl rfl hHeld ?_
        try simp only [Act.put, lsT, lsZ, lsS]
        refine takeN 9 28 rfl rfl hHeld ?_
        try simp only [Act.put, lsT, lsZ, lsS]
        refine takeN 10 29 rfl rfl hHeld ?_
        try simp only [Act.put, lsT, lsZ, lsS]
        refine takeN 11 30 rfl rfl hHeld ?_
        try simp only [Act.put, lsT, lsZ, lsS]
        refine takeN 12 31 rfl rfl hHeld ?_
        try simp only [Act.put, lsT, lsZ, lsS]
        refine takeN 13 32 rfl rfl hHeld ?_
        try simp only [Act.put, lsT, lsZ, lsS]
        refine takeN 14 33 rfl rfl hHeld ?_
        try simp only [Act.put, lsT, lsZ, lsS]
        refine takeN 15 34 rfl rfl hHeld ?_
        try simp only [Act.put, lsT, lsZ, lsS]
        refine takeN 16 35 rfl rfl hHeld ?_
        try simp only [Act.put, lsT, lsZ, lsS]
        refine takeN 17 36 rfl rfl hHeld ?_
        try simp only [Act.put, lsT, lsZ, lsS]
        refine takeN 18 37 rfl rfl hHeld ?_
        try simp only [Act.put, lsT, lsZ, lsS]
        refine takeN 19 38 rfl rfl hHeld ?_
        try simp only [Act.put, lsT, lsZ, lsS]
        refine takeY 20 39 rfl rfl (v := ?_) ?_ hHeld ?_
        rotate_left 1
        · (intro w hSw; (try dsimp only at hSw); go_simp; (try with_reducible rfl))
        try simp only [Act.put, lsT, lsZ, lsS]
        refine wpAnyH_done (by kernel_rfl) ?_ _
        go_wp2
        go_ret
        exact ⟨by rw [hno.out]; rfl, hB1t⟩
      have hxv := Lib.hid (show (if XidOk (xf, xg, xb) then (0 : Int) else 40) = 0 from if_pos hx)
      have hxok := Lib.hid hx
      clear hx
      by_cases hk0 : k = 0
      · have hkz : ¬ 0 < k := by omega
        have hk0' := Lib.hid hk0; clear hk0
        go_wp2
        refine wp_region_held_drew (S := (fun w' => w'.cell? ⟨wr.heap.size, 0, none⟩ = some (.int .u32 xf) ∧ w'.cell? ⟨wr.heap.size, 1, none⟩ = some (.string xg) ∧ w'.cell? ⟨wr.heap.size, 2, none⟩ = some (.string xb) ∧ w'.cell? ⟨wr.heap.size, 3, none⟩ = some (.int .u8 st) ∧ w'.cell? ⟨wr.heap.size, 4, none⟩ = some (.int .u8 why) ∧ w'.cell? ⟨wr.heap.size, 5, none⟩ = some (.int .u32 tm) ∧ w'.cell? ⟨wr.heap.size, 6, none⟩ = some (.int .u32 lf) ∧ w'.cell? ⟨w.heap.size, 0, none⟩ = some (.slice (some ⟨g, off, none⟩) R.length rc) ∧ w'.cell? ⟨w.heap.size, 1, none⟩ = some (.slice aa A.length ac))) (by kernel_rfl) ?_ (fun hHeld => ?_)
        · (first | exact ⟨h0, h1, h2, h3, h4, h5, h6, h7, h8⟩ | exact ⟨f0, f1, f2, f3, f4, f5, f6, f7, f8⟩ | exact ⟨e0, e1, e2, e3, e4, e5, e6, e7, e8⟩)
        refine takeY 0 19 rfl rfl (v := ?_) ?_ hHeld ?_
        rotate_left 1
        · (intro w hSw; (try dsimp only at hSw); go_simp; (try with_reducible rfl))
        try simp only [Act.put, lsT, lsZ, lsS]
        refine takeY 1 20 rfl rfl (v := ?_) ?_ hHeld ?_
        rotate_left 1
        · (intro w hSw; (try dsimp only at hSw); go_simp; (try with_reducible rfl))
        try simp only [Act.put, lsT, lsZ, lsS]
        refine wpAnyH_ready (rs := [2]) (by kernel_rfl) (by simp) ?_
        refine AllReadyH.cons rfl (fun K hK => ?_) AllReadyH.nil
        go_simp
        (go_at_call 73; refine (rcheck4 _ (xf, xg, xb) _ hxv.out).mono ?_; rintro e w1 ⟨rfl, hB1⟩; have b1 := b0.drew.pure hB1; have t1 := tb.drew.pure hB1; have hs1 := hsb.drew.pure hB1; have hB1t := (below_dr hBb).trans (hB1.mono hBb.size); have hB1c := (below_dr hBc).trans (hB1.mono hBc.size); have f0 := b1.at 0 rfl; have f1 := b1.at 1 rfl; have f2 := b1.at 2 rfl; have f3 := b1.at 3 rfl; have f4 := b1.at 4 rfl; have f5 := b1.at 5 rfl; have f6 := b1.at 6 rfl; have f7 := t1.at 0 rfl; have f8 := t1.at 1 rfl)
        refine hK.out _ _ ?_ (fun hHeld => ?_)
        · (first | exact ⟨h0, h1, h2, h3, h4, h5, h6, h7, h8⟩ | exact ⟨f0, f1, f2, f3, f4, f5, f6, f7, f8⟩ | exact ⟨e0, e1, e2, e3, e4, e5, e6, e7, e8⟩)
        clear hK K
        try simp only [Act.put, lsT, lsZ, lsS]
        refine takeY 3 22 rfl rfl (v := ?_) ?_ hHeld ?_
        rotate_left 1
        · (intro w hSw; (try dsimp only at hSw); go_simp; (try with_reducible rfl))
        try simp only [Act.put, lsT, lsZ, lsS]
        refine takeY 4 23 rfl rfl (v := ?_) ?_ hHeld ?_
        rotate_left 1
        · (intro w hSw; (try dsimp only at hSw); go_simp; (try with_reducible rfl))
        try simp only [Act.put, lsT, lsZ, lsS]
        refine takeY 5 24 rfl rfl (v := ?_) ?_ hHeld ?_
        rotate_left 1
        · (intro w hSw; (try dsimp only at hSw); go_simp; (try with_reducible rfl))
        try simp only [Act.put, lsT, lsZ, lsS]
        refine takeY 6 25 rfl rfl (v := ?_) ?_ hHeld ?_
        rotate_left 1
        · (intro w hSw; (try dsimp only at hSw); go_simp; (try with_reducible rfl))
        try simp only [Act.put, lsT, lsZ, lsS]
        refine takeY 7 26 rfl rfl (v := ?_) ?_ hHeld ?_
        rotate_left 1
        · (intro w hSw; (try dsimp only at hSw); go_simp; (try with_reducible rfl))
        try simp only [Act.put, lsT, lsZ, lsS]
        refine takeN 8 27 rfl rfl hHeld ?_
        try simp only [Act.put, lsT, lsZ, lsS]
        refine takeN 9 28 rfl rfl hHeld ?_
        try simp only [Act.put, lsT, lsZ, lsS]
        refine takeN 10 29 rfl rfl hHeld ?_
        try simp only [Act.put, lsT, lsZ, lsS]
        refine takeN 11 30 rfl rfl hHeld ?_
        try simp only [Act.put, lsT, lsZ, lsS]
        refine takeN 12 31 rfl rfl hHeld ?_
        try simp only [Act.put, lsT, lsZ, lsS]
        refine takeN 13 32 rfl rfl hHeld ?_
        try simp only [Act.put, lsT, lsZ, lsS]
        refine takeN 14 33 rfl rfl hHeld ?_
        try simp only [Act.put, lsT, lsZ, lsS]
        refine takeN 15 34 rfl rfl hHeld ?_
        try simp only [Act.put, lsT, lsZ, lsS]
        refine takeN 16 35 rfl rfl hHeld ?_
        try simp only [Act.put, lsT, lsZ, lsS]
        refine takeN 17 36 rfl rfl hHeld ?_
        try simp only [Act.put, lsT, lsZ, lsS]
        refine takeN 18 37 rfl rfl hHeld ?_
        try simp only [Act.put, lsT, lsZ, lsS]
        refine takeY 19 38 rfl rfl (v := ?_) ?_ hHeld ?_
        rotate_left 1
        · (intro w hSw; (try dsimp only at hSw); go_simp; (try with_reducible rfl))
        try simp only [Act.put, lsT, lsZ, lsS]
        refine takeY 20 39 rfl rfl (v := ?_) ?_ hHeld ?_
        rotate_left 1
        · (intro w hSw; (try dsimp only at hSw); go_simp; (try with_reducible rfl))
        try simp only [Act.put, lsT, lsZ, lsS]
        refine wpAnyH_done (by kernel_rfl) ?_ _
        go_upto_region 7 with fail
        by_cases q1 : st < 1
        · have q1b : decide (st < 1) = true := decide_eq_true q1
          have hno := Lib.hid (hbad.out (fun h => by have h9 := hri.out.1 (hra.out.1 h).1; (try simp only at h9); omega))
          skip
          go_wp2
          go_ret
          exact ⟨by rw [hno.out]; rfl, hB1t⟩
        have q1b : decide (st < 1) = false := decide_eq_false q1
        by_cases q2 : 4 < st
        · have q2b : decide (4 < st) = true := decide_eq_true q2
          have hno := Lib.hid (hbad.out (fun h => by have h9 := hri.out.1 (hra.out.1 h).1; (try simp only at h9); omega))
          skip
          go_wp2
          go_ret
          exact ⟨by rw [hno.out]; rfl, hB1t⟩
        have q2b : decide (4 < st) = false := decide_eq_false q2
        by_cases q3 : 2 < why
        · have q3b : decide (2 < why) = true := decide_eq_true q3
          have hno := Lib.hid (hbad.out (fun h => by have h9 := hri.out.1 (hra.out.1 h).1; (try simp only at h9); omega))
          skip
          go_wp2
          go_ret
          exact ⟨by rw [hno.out]; rfl, hB1t⟩
        have q3b : decide (2 < why) = false := decide_eq_false q3
        by_cases q4 : st = 1
        · have q4b : (st == 1) = true := by rw [q4]; rfl
          have q4n : (st != 1) = false := by rw [q4]; rfl
          by_cases q5 : why = 0
          · have q5b : (why == 0) = true := by rw [q5]; rfl
            have q5n : (why != 0) = false := by rw [q5]; rfl
            by_cases q6 : 0 < tm
            · have q6b : decide (0 < tm) = true := decide_eq_true q6
              by_cases q7 : lf < 1
              · have q7b : decide (lf < 1) = true := decide_eq_true q7
                have hno := Lib.hid (hbad.out (fun h => by have h9 := hri.out.1 (hra.out.1 h).1; (try simp only at h9); omega))
                skip
                go_wp2
                go_ret
                exact ⟨by rw [hno.out]; rfl, hB1t⟩
              have q7b : decide (lf < 1) = false := decide_eq_false q7
              by_cases q8 : tm < lf
              · have q8b : decide (tm < lf) = true := decide_eq_true q8
                have hno := Lib.hid (hbad.out (fun h => by have h9 := hri.out.1 (hra.out.1 h).1; (try simp only at h9); omega))
                skip
                go_wp2
                go_ret
                exact ⟨by rw [hno.out]; rfl, hB1t⟩
              have q8b : decide (tm < lf) = false := decide_eq_false q8
              have hok := Lib.hid (hra.out.2 ⟨hri.out.2 ⟨hxok.out, by have := htk.out; (try simp only at *); omega⟩, fun h => absurd h (by have := hk0'.out; omega)⟩)
              go_wp2
              go_roundw
              case rel => exact ⟨k + 1, by omega, by go_num, hok.out, hB1c⟩
              case measure => simp [intOf]; omega
            · have q6b : decide (0 < tm) = false := decide_eq_false q6
              by_cases q9 : lf = 0
              rotate_left 1
              · have q9b : (lf != 0) = true := bne_iff_ne.2 q9
                have hno := Lib.hid (hbad.out (fun h => by have h9 := hri.out.1 (hra.out.1 h).1; have := htk.out; (try simp only at *); omega))
                skip
                go_wp2
                go_ret
                exact ⟨by rw [hno.out]; rfl, hB1t⟩
              have q9b : (lf != 0) = false := by rw [q9]; rfl
              have hok := Lib.hid (hra.out.2 ⟨hri.out.2 ⟨hxok.out, by have := htk.out; (try simp only at *); omega⟩, fun h => absurd h (by have := hk0'.out; omega)⟩)
              go_wp2
              go_roundw
              case rel => exact ⟨k + 1, by omega, by go_num, hok.out, hB1c⟩
              case measure => simp [intOf]; omega
          · have q5b : (why == 0) = false := beq_eq_false_iff_ne.2 q5
            have q5n : (why != 0) = true := bne_iff_ne.2 q5
            by_cases q9 : lf = 0
            rotate_left 1
            · have q9b : (lf != 0) = true := bne_iff_ne.2 q9
              have hno := Lib.hid (hbad.out (fun h => by have h9 := hri.out.1 (hra.out.1 h).1; have := htk.out; (try simp only at *); omega))
              skip
              go_wp2
              go_ret
              exact ⟨by rw [hno.out]; rfl, hB1t⟩
            have q9b : (lf != 0) = false := by rw [q9]; rfl
            have hok := Lib.hid (hra.out.2 ⟨hri.out.2 ⟨hxok.out, by have := htk.out; (try simp only at *); omega⟩, fun h => absurd h (by have := hk0'.out; omega)⟩)
            go_wp2
            go_roundw
            case rel => exact ⟨k + 1, by omega, by go_num, hok.out, hB1c⟩
            case measure => simp [intOf]; omega
        · have q4b : (st == 1) = false := beq_eq_false_iff_ne.2 q4
          have q4n : (st != 1) = true := bne_iff_ne.2 q4
          by_cases q5 : why = 0
          · have q5b : (why == 0) = true := by rw [q5]; rfl
            have q5n : (why != 0) = false := by rw [q5]; rfl
            by_cases q9 : lf = 0
            rotate_left 1
            · have q9b : (lf != 0) = true := bne_iff_ne.2 q9
              have hno := Lib.hid (hbad.out (fun h => by have h9 := hri.out.1 (hra.out.1 h).1; have := htk.out; (try simp only at *); omega))
              skip
              go_wp2
              go_ret
              exact ⟨by rw [hno.out]; rfl, hB1t⟩
            have q9b : (lf != 0) = false := by rw [q9]; rfl
            have hok := Lib.hid (hra.out.2 ⟨hri.out.2 ⟨hxok.out, by have := htk.out; (try simp only at *); omega⟩, fun h => absurd h (by have := hk0'.out; omega)⟩)
            go_wp2
            go_roundw
            case rel => exact ⟨k + 1, by omega, by go_num, hok.out, hB1c⟩
            case measure => simp [intOf]; omega
          · have q5b : (why == 0) = false := beq_eq_false_iff_ne.2 q5
            have q5n : (why != 0) = true := bne_iff_ne.2 q5
            have hno := Lib.hid (hbad.out (fun h => by have h9 := hri.out.1 (hra.out.1 h).1; (try simp only at h9); omega))
            skip
            go_wp2
            go_ret
            exact ⟨by rw [hno.out]; rfl, hB1t⟩
      have hk1 : k - 1 < R.length := by omega
      have hkp : 0 < k := by omega
      have hk1i : (1 : Int) ≤ (k : Int) := by omega
      have hm0 : (0 : Int) ≤ (k : Int) - 1 := by omega
      have hm1 : (k : Int) - 1 < (R.length : Int) := by omega
      have hmn : ((k : Int) - 1).toNat = k - 1 := by omega
      have hmw : IntKind.i64.wrap ((k : Int) - 1) = (k : Int) - 1 := IntWalk.i64_in _ (by omega)
      have hyok0 := hprev.out hkp
      obtain ⟨y, hye0⟩ : ∃ y, R[k - 1].x = y := ⟨_, rfl⟩
      rw [hye0] at hyok0
      obtain ⟨yf, yg, yb⟩ := y
      have hye := Lib.hid hye0; clear hye0
      have hyok := Lib.hid hyok0; clear hyok0
      obtain ⟨ey0, ey1, ey2, -⟩ := br_cells hsb hk1
      rw [hye.out] at ey0 ey1 ey2
      simp only at ey0 ey1 ey2
      obtain ⟨cv, hcv0⟩ : ∃ cv, signX (yf, yg, yb) (xf, xg, xb) = cv := ⟨_, rfl⟩
      have hcv := Lib.hid hcv0; clear hcv0
      have hk0' := Lib.hid hk0; clear hk0
      by_cases hcl : cv < 0
      rotate_left 1
      · have hnc : decide ((0 : Int) ≤ cv) = true := decide_eq_true (by omega)
        have hno := Lib.hid (hbad.out (fun h => hcl (by have h9 := (hra.out.1 h).2 (by omega); rw [hye.out] at h9; rw [← hcv.out]; exact signX_lt.2 h9)))
        go_wp2
        refine wp_region_held_drew (S := (fun w' => w'.cell? ⟨wr.heap.size, 0, none⟩ = some (.int .u32 xf) ∧ w'.cell? ⟨wr.heap.size, 1, none⟩ = some (.string xg) ∧ w'.cell? ⟨wr.heap.size, 2, none⟩ = some (.string xb) ∧ w'.cell? ⟨wr.heap.size, 3, none⟩ = some (.int .u8 st) ∧ w'.cell? ⟨wr.heap.size, 4, none⟩ = some (.int .u8 why) ∧ w'.cell? ⟨wr.heap.size, 5, none⟩ = some (.int .u32 tm) ∧ w'.cell? ⟨wr.heap.size, 6, none⟩ = some (.int .u32 lf) ∧ w'.cell? ⟨w.heap.size, 0, none⟩ = some (.slice (some ⟨g, off, none⟩) R.length rc) ∧ w'.cell? ⟨w.heap.size, 1, none⟩ = some (.slice aa A.length ac) ∧ w'.cell? ⟨g, off + (k - 1) * 7, none⟩ = some (.int .u32 yf) ∧ w'.cell? ⟨g, off + (k - 1) * 7 + 1, none⟩ = some (.string yg) ∧ w'.cell? ⟨g, off + (k - 1) * 7 + 2, none⟩ = some (.string yb))) (by kernel_rfl) ?_ (fun hHeld => ?_)
        · (first | exact ⟨h0, h1, h2, h3, h4, h5, h6, h7, h8, hy0, hy1, hy2⟩ | exact ⟨f0, f1, f2, f3, f4, f5, f6, f7, f8, fy0, fy1, fy2⟩ | exact ⟨e0, e1, e2, e3, e4, e5, e6, e7, e8, ey0, ey1, ey2⟩)
        refine takeY 0 19 rfl rfl (v := ?_) ?_ hHeld ?_
        rotate_left 1
        · (intro w hSw; (try dsimp only at hSw); go_simp; (try with_reducible rfl))
        try simp only [Act.put, lsT, lsZ, lsS]
        refine takeY 1 20 rfl rfl (v := ?_) ?_ hHeld ?_
        rotate_left 1
        · (intro w hSw; (try dsimp only at hSw); go_simp; (try with_reducible rfl))
        try simp only [Act.put, lsT, lsZ, lsS]
        refine wpAnyH_ready (rs := [2]) (by kernel_rfl) (by simp) ?_
        refine AllReadyH.cons rfl (fun K hK => ?_) AllReadyH.nil
        go_simp
        (go_at_call 73; refine (rcheck4 _ (xf, xg, xb) _ hxv.out).mono ?_; rintro e w1 ⟨rfl, hB1⟩; have b1 := b0.drew.pure hB1; have t1 := tb.drew.pure hB1; have hs1 := hsb.drew.pure hB1; have hB1t := (below_dr hBb).trans (hB1.mono hBb.size); have hB1c := (below_dr hBc).trans (hB1.mono hBc.size); have f0 := b1.at 0 rfl; have f1 := b1.at 1 rfl; have f2 := b1.at 2 rfl; have f3 := b1.at 3 rfl; have f4 := b1.at 4 rfl; have f5 := b1.at 5 rfl; have f6 := b1.at 6 rfl; have f7 := t1.at 0 rfl; have f8 := t1.at 1 rfl; obtain ⟨fy0, fy1, fy2, -⟩ := br_cells hs1 hk1; rw [hye.out] at fy0 fy1 fy2; simp only at fy0 fy1 fy2)
        refine hK.out _ _ ?_ (fun hHeld => ?_)
        · (first | exact ⟨h0, h1, h2, h3, h4, h5, h6, h7, h8, hy0, hy1, hy2⟩ | exact ⟨f0, f1, f2, f3, f4, f5, f6, f7, f8, fy0, fy1, fy2⟩ | exact ⟨e0, e1, e2, e3, e4, e5, e6, e7, e8, ey0, ey1, ey2⟩)
        clear hK K
        try simp only [Act.put, lsT, lsZ, lsS]
        refine takeY 3 22 rfl rfl (v := ?_) ?_ hHeld ?_
        rotate_left 1
        · (intro w hSw; (try dsimp only at hSw); go_simp; (try with_reducible rfl))
        try simp only [Act.put, lsT, lsZ, lsS]
        refine takeY 4 23 rfl rfl (v := ?_) ?_ hHeld ?_
        rotate_left 1
        · (intro w hSw; (try dsimp only at hSw); go_simp; (try with_reducible rfl))
        try simp only [Act.put, lsT, lsZ, lsS]
        refine takeY 5 24 rfl rfl (v := ?_) ?_ hHeld ?_
        rotate_left 1
        · (intro w hSw; (try dsimp only at hSw); go_simp; (try with_reducible rfl))
        try simp only [Act.put, lsT, lsZ, lsS]
        refine takeY 6 25 rfl rfl (v := ?_) ?_ hHeld ?_
        rotate_left 1
        · (intro w hSw; (try dsimp only at hSw); go_simp; (try with_reducible rfl))
        try simp only [Act.put, lsT, lsZ, lsS]
        refine takeY 7 26 rfl rfl (v := ?_) ?_ hHeld ?_
        rotate_left 1
        · (intro w hSw; (try dsimp only at hSw); go_simp; (try with_reducible rfl))
        try simp only [Act.put, lsT, lsZ, lsS]
        refine takeY 8 27 rfl rfl (v := ?_) ?_ hHeld ?_
        rotate_left 1
        · (intro w hSw; (try dsimp only at hSw); go_simp; (try with_reducible rfl))
        try simp only [Act.put, lsT, lsZ, lsS]
        refine takeY 9 28 rfl rfl (v := ?_) ?_ hHeld ?_
        rotate_left 1
        · (intro w hSw; (try dsimp only at hSw); go_simp; (try with_reducible rfl))
        try simp only [Act.put, lsT, lsZ, lsS]
        refine takeY 10 29 rfl rfl (v := ?_) ?_ hHeld ?_
        rotate_left 1
        · (intro w hSw; (try dsimp only at hSw); go_simp; (try with_reducible rfl))
        try simp only [Act.put, lsT, lsZ, lsS]
        refine takeY 11 30 rfl rfl (v := ?_) ?_ hHeld ?_
        rotate_left 1
        · (intro w hSw; (try dsimp only at hSw); go_simp; (try with_reducible rfl))
        try simp only [Act.put, lsT, lsZ, lsS]
        refine takeY 12 31 rfl rfl (v := ?_) ?_ hHeld ?_
        rotate_left 1
        · (intro w hSw; (try dsimp only at hSw); go_simp; (try with_reducible rfl))
        try simp only [Act.put, lsT, lsZ, lsS]
        refine takeY 13 32 rfl rfl (v := ?_) ?_ hHeld ?_
        rotate_left 1
        · (intro w hSw; (try dsimp only at hSw); go_simp; (try with_reducible rfl))
        try simp only [Act.put, lsT, lsZ, lsS]
        refine takeY 14 33 rfl rfl (v := ?_) ?_ hHeld ?_
        rotate_left 1
        · (intro w hSw; (try dsimp only at hSw); go_simp; (try with_reducible rfl))
        try simp only [Act.put, lsT, lsZ, lsS]
        refine takeY 15 34 rfl rfl (v := ?_) ?_ hHeld ?_
        rotate_left 1
        · (intro w hSw; (try dsimp only at hSw); go_simp; (try with_reducible rfl))
        try simp only [Act.put, lsT, lsZ, lsS]
        refine takeY 16 35 rfl rfl (v := ?_) ?_ hHeld ?_
        rotate_left 1
        · (intro w hSw; (try dsimp only at hSw); go_simp; (try with_reducible rfl))
        try simp only [Act.put, lsT, lsZ, lsS]
        refine wpAnyH_ready (rs := [17]) (by kernel_rfl) (by simp) ?_
        refine AllReadyH.cons rfl (fun K hK => ?_) AllReadyH.nil
        go_simp
        (go_at_call 74; refine (rcmp2 _ (yf, yg, yb) (xf, xg, xb) _ hyok.out hxok.out hcv.out).mono ?_; rintro e w2 ⟨rfl, hB2⟩; have b2 := b1.pure hB2; have t2 := t1.pure hB2; have hs2 := hs1.pure hB2; have hB2t := hB1t.trans (hB2.mono hB1t.size); have hB2c := hB1c.trans (hB2.mono hB1c.size); have h0 := b2.at 0 rfl; have h1 := b2.at 1 rfl; have h2 := b2.at 2 rfl; have h3 := b2.at 3 rfl; have h4 := b2.at 4 rfl; have h5 := b2.at 5 rfl; have h6 := b2.at 6 rfl; have h7 := t2.at 0 rfl; have h8 := t2.at 1 rfl; obtain ⟨hy0, hy1, hy2, -⟩ := br_cells hs2 hk1; rw [hye.out] at hy0 hy1 hy2; simp only at hy0 hy1 hy2)
        refine hK.out _ _ ?_ (fun hHeld => ?_)
        · (first | exact ⟨h0, h1, h2, h3, h4, h5, h6, h7, h8, hy0, hy1, hy2⟩ | exact ⟨f0, f1, f2, f3, f4, f5, f6, f7, f8, fy0, fy1, fy2⟩ | exact ⟨e0, e1, e2, e3, e4, e5, e6, e7, e8, ey0, ey1, ey2⟩)
        clear hK K
        try simp only [Act.put, lsT, lsZ, lsS]
        refine takeY 18 37 rfl rfl (v := ?_) ?_ hHeld ?_
        rotate_left 1
        · (intro w hSw; (try dsimp only at hSw); go_simp; (try with_reducible rfl))
        try simp only [Act.put, lsT, lsZ, lsS]
        refine takeY 19 38 rfl rfl (v := ?_) ?_ hHeld ?_
        rotate_left 1
        · (intro w hSw; (try dsimp only at hSw); go_simp; (try with_reducible rfl))
        try simp only [Act.put, lsT, lsZ, lsS]
        refine takeY 20 39 rfl rfl (v := ?_) ?_ hHeld ?_
        rotate_left 1
        · (intro w hSw; (try dsimp only at hSw); go_simp; (try with_reducible rfl))
        try simp only [Act.put, lsT, lsZ, lsS]
        refine wpAnyH_done (by kernel_rfl) ?_ _
        go_wp2
        go_ret
        exact ⟨by rw [hno.out]; rfl, hB2t⟩
      have hnc : decide ((0 : Int) ≤ cv) = false := decide_eq_false (by omega)
      go_wp2
      refine wp_region_held_drew (S := (fun w' => w'.cell? ⟨wr.heap.size, 0, none⟩ = some (.int .u32 xf) ∧ w'.cell? ⟨wr.heap.size, 1, none⟩ = some (.string xg) ∧ w'.cell? ⟨wr.heap.size, 2, none⟩ = some (.string xb) ∧ w'.cell? ⟨wr.heap.size, 3, none⟩ = some (.int .u8 st) ∧ w'.cell? ⟨wr.heap.size, 4, none⟩ = some (.int .u8 why) ∧ w'.cell? ⟨wr.heap.size, 5, none⟩ = some (.int .u32 tm) ∧ w'.cell? ⟨wr.heap.size, 6, none⟩ = some (.int .u32 lf) ∧ w'.cell? ⟨w.heap.size, 0, none⟩ = some (.slice (some ⟨g, off, none⟩) R.length rc) ∧ w'.cell? ⟨w.heap.size, 1, none⟩ = some (.slice aa A.length ac) ∧ w'.cell? ⟨g, off + (k - 1) * 7, none⟩ = some (.int .u32 yf) ∧ w'.cell? ⟨g, off + (k - 1) * 7 + 1, none⟩ = some (.string yg) ∧ w'.cell? ⟨g, off + (k - 1) * 7 + 2, none⟩ = some (.string yb))) (by kernel_rfl) ?_ (fun hHeld => ?_)
      · (first | exact ⟨h0, h1, h2, h3, h4, h5, h6, h7, h8, hy0, hy1, hy2⟩ | exact ⟨f0, f1, f2, f3, f4, f5, f6, f7, f8, fy0, fy1, fy2⟩ | exact ⟨e0, e1, e2, e3, e4, e5, e6, e7, e8, ey0, ey1, ey2⟩)
      refine takeY 0 19 rfl rfl (v := ?_) ?_ hHeld ?_
      rotate_left 1
      · (intro w hSw; (try dsimp only at hSw); go_simp; (try with_reducible rfl))
      try simp only [Act.put, lsT, lsZ, lsS]
      refine takeY 1 20 rfl rfl (v := ?_) ?_ hHeld ?_
      rotate_left 1
      · (intro w hSw; (try dsimp only at hSw); go_simp; (try with_reducible rfl))
      try simp only [Act.put, lsT, lsZ, lsS]
      refine wpAnyH_ready (rs := [2]) (by kernel_rfl) (by simp) ?_
      refine AllReadyH.cons rfl (fun K hK => ?_) AllReadyH.nil
      go_simp
      (go_at_call 73; refine (rcheck4 _ (xf, xg, xb) _ hxv.out).mono ?_; rintro e w1 ⟨rfl, hB1⟩; have b1 := b0.drew.pure hB1; have t1 := tb.drew.pure hB1; have hs1 := hsb.drew.pure hB1; have hB1t := (below_dr hBb).trans (hB1.mono hBb.size); have hB1c := (below_dr hBc).trans (hB1.mono hBc.size); have f0 := b1.at 0 rfl; have f1 := b1.at 1 rfl; have f2 := b1.at 2 rfl; have f3 := b1.at 3 rfl; have f4 := b1.at 4 rfl; have f5 := b1.at 5 rfl; have f6 := b1.at 6 rfl; have f7 := t1.at 0 rfl; have f8 := t1.at 1 rfl; obtain ⟨fy0, fy1, fy2, -⟩ := br_cells hs1 hk1; rw [hye.out] at fy0 fy1 fy2; simp only at fy0 fy1 fy2)
      refine hK.out _ _ ?_ (fun hHeld => ?_)
      · (first | exact ⟨h0, h1, h2, h3, h4, h5, h6, h7, h8, hy0, hy1, hy2⟩ | exact ⟨f0, f1, f2, f3, f4, f5, f6, f7, f8, fy0, fy1, fy2⟩ | exact ⟨e0, e1, e2, e3, e4, e5, e6, e7, e8, ey0, ey1, ey2⟩)
      clear hK K
      try simp only [Act.put, lsT, lsZ, lsS]
      refine takeY 3 22 rfl rfl (v := ?_) ?_ hHeld ?_
      rotate_left 1
      · (intro w hSw; (try dsimp only at hSw); go_simp; (try with_reducible rfl))
      try simp only [Act.put, lsT, lsZ, lsS]
      refine takeY 4 23 rfl rfl (v := ?_) ?_ hHeld ?_
      rotate_left 1
      · (intro w hSw; (try dsimp only at hSw); go_simp; (try with_reducible rfl))
      try simp only [Act.put, lsT, lsZ, lsS]
      refine takeY 5 24 rfl rfl (v := ?_) ?_ hHeld ?_
      rotate_left 1
      · (intro w hSw; (try dsimp only at hSw); go_simp; (try with_reducible rfl))
      try simp only [Act.put, lsT, lsZ, lsS]
      refine takeY 6 25 rfl rfl (v := ?_) ?_ hHeld ?_
      rotate_left 1
      · (intro w hSw; (try dsimp only at hSw); go_simp; (try with_reducible rfl))
      try simp only [Act.put, lsT, lsZ, lsS]
      refine takeY 7 26 rfl rfl (v := ?_) ?_ hHeld ?_
      rotate_left 1
      · (intro w hSw; (try dsimp only at hSw); go_simp; (try with_reducible rfl))
      try simp only [Act.put, lsT, lsZ, lsS]
      refine takeY 8 27 rfl rfl (v := ?_) ?_ hHeld ?_
      rotate_left 1
      · (intro w hSw; (try dsimp only at hSw); go_simp; (try with_reducible rfl))
      try simp only [Act.put, lsT, lsZ, lsS]
      refine takeY 9 28 rfl rfl (v := ?_) ?_ hHeld ?_
      rotate_left 1
      · (intro w hSw; (try dsimp only at hSw); go_simp; (try with_reducible rfl))
      try simp only [Act.put, lsT, lsZ, lsS]
      refine takeY 10 29 rfl rfl (v := ?_) ?_ hHeld ?_
      rotate_left 1
      · (intro w hSw; (try dsimp only at hSw); go_simp; (try with_reducible rfl))
      try simp only [Act.put, lsT, lsZ, lsS]
      refine takeY 11 30 rfl rfl (v := ?_) ?_ hHeld ?_
      rotate_left 1
      · (intro w hSw; (try dsimp only at hSw); go_simp; (try with_reducible rfl))
      try simp only [Act.put, lsT, lsZ, lsS]
      refine takeY 12 31 rfl rfl (v := ?_) ?_ hHeld ?_
      rotate_left 1
      · (intro w hSw; (try dsimp only at hSw); go_simp; (try with_reducible rfl))
      try simp only [Act.put, lsT, lsZ, lsS]
      refine takeY 13 32 rfl rfl (v := ?_) ?_ hHeld ?_
      rotate_left 1
      · (intro w hSw; (try dsimp only at hSw); go_simp; (try with_reducible rfl))
      try simp only [Act.put, lsT, lsZ, lsS]
      refine takeY 14 33 rfl rfl (v := ?_) ?_ hHeld ?_
      rotate_left 1
      · (intro w hSw; (try dsimp only at hSw); go_simp; (try with_reducible rfl))
      try simp only [Act.put, lsT, lsZ, lsS]
      refine takeY 15 34 rfl rfl (v := ?_) ?_ hHeld ?_
      rotate_left 1
      · (intro w hSw; (try dsimp only at hSw); go_simp; (try with_reducible rfl))
      try simp only [Act.put, lsT, lsZ, lsS]
      refine takeY 16 35 rfl rfl (v := ?_) ?_ hHeld ?_
      rotate_left 1
      · (intro w hSw; (try dsimp only at hSw); go_simp; (try with_reducible rfl))
      try simp only [Act.put, lsT, lsZ, lsS]
      refine wpAnyH_ready (rs := [17]) (by kernel_rfl) (by simp) ?_
      refine AllReadyH.cons rfl (fun K hK => ?_) AllReadyH.nil
      go_simp
      (go_at_call 74; refine (rcmp2 _ (yf, yg, yb) (xf, xg, xb) _ hyok.out hxok.out hcv.out).mono ?_; rintro e w2 ⟨rfl, hB2⟩; have b2 := b1.pure hB2; have t2 := t1.pure hB2; have hs2 := hs1.pure hB2; have hB2t := hB1t.trans (hB2.mono hB1t.size); have hB2c := hB1c.trans (hB2.mono hB1c.size); have h0 := b2.at 0 rfl; have h1 := b2.at 1 rfl; have h2 := b2.at 2 rfl; have h3 := b2.at 3 rfl; have h4 := b2.at 4 rfl; have h5 := b2.at 5 rfl; have h6 := b2.at 6 rfl; have h7 := t2.at 0 rfl; have h8 := t2.at 1 rfl; obtain ⟨hy0, hy1, hy2, -⟩ := br_cells hs2 hk1; rw [hye.out] at hy0 hy1 hy2; simp only at hy0 hy1 hy2)
      refine hK.out _ _ ?_ (fun hHeld => ?_)
      · (first | exact ⟨h0, h1, h2, h3, h4, h5, h6, h7, h8, hy0, hy1, hy2⟩ | exact ⟨f0, f1, f2, f3, f4, f5, f6, f7, f8, fy0, fy1, fy2⟩ | exact ⟨e0, e1, e2, e3, e4, e5, e6, e7, e8, ey0, ey1, ey2⟩)
      clear hK K
      try simp only [Act.put, lsT, lsZ, lsS]
      refine takeY 18 37 rfl rfl (v := ?_) ?_ hHeld ?_
      rotate_left 1
      · (intro w hSw; (try dsimp only at hSw); go_simp; (try with_reducible rfl))
      try simp only [Act.put, lsT, lsZ, lsS]
      refine takeY 19 38 rfl rfl (v := ?_) ?_ hHeld ?_
      rotate_left 1
      · (intro w hSw; (try dsimp only at hSw); go_simp; (try with_reducible rfl))
      try simp only [Act.put, lsT, lsZ, lsS]
      refine takeY 20 39 rfl rfl (v := ?_) ?_ hHeld ?_
      rotate_left 1
      · (intro w hSw; (try dsimp only at hSw); go_simp; (try with_reducible rfl))
      try simp only [Act.put, lsT, lsZ, lsS]
      refine wpAnyH_done (by kernel_rfl) ?_ _
      go_upto_region 7 with fail
      by_cases q1 : st < 1
      · have q1b : decide (st < 1) = true := decide_eq_true q1
        have hno := Lib.hid (hbad.out (fun h => by have h9 := hri.out.1 (hra.out.1 h).1; (try simp only at h9); omega))
        skip
        go_wp2
        go_ret
        exact ⟨by rw [hno.out]; rfl, hB2t⟩
      have q1b : decide (st < 1) = false := decide_eq_false q1
      by_cases q2 : 4 < st
      · have q2b : decide (4 < st) = true := decide_eq_true q2
        have hno := Lib.hid (hbad.out (fun h => by have h9 := hri.out.1 (hra.out.1 h).1; (try simp only at h9); omega))
        skip
        go_wp2
        go_ret
        exact ⟨by rw [hno.out]; rfl, hB2t⟩
      have q2b : decide (4 < st) = false := decide_eq_false q2
      by_cases q3 : 2 < why
      · have q3b : decide (2 < why) = true := decide_eq_true q3
        have hno := Lib.hid (hbad.out (fun h => by have h9 := hri.out.1 (hra.out.1 h).1; (try simp only at h9); omega))
        skip
        go_wp2
        go_ret
        exact ⟨by rw [hno.out]; rfl, hB2t⟩
      have q3b : decide (2 < why) = false := decide_eq_false q3
      by_cases q4 : st = 1
      · have q4b : (st == 1) = true := by rw [q4]; rfl
        have q4n : (st != 1) = false := by rw [q4]; rfl
        by_cases q5 : why = 0
        · have q5b : (why == 0) = true := by rw [q5]; rfl
          have q5n : (why != 0) = false := by rw [q5]; rfl
          by_cases q6 : 0 < tm
          · have q6b : decide (0 < tm) = true := decide_eq_true q6
            by_cases q7 : lf < 1
            · have q7b : decide (lf < 1) = true := decide_eq_true q7
              have hno := Lib.hid (hbad.out (fun h => by have h9 := hri.out.1 (hra.out.1 h).1; (try simp only at h9); omega))
              skip
              go_wp2
              go_ret
              exact ⟨by rw [hno.out]; rfl, hB2t⟩
            have q7b : decide (lf < 1) = false := decide_eq_false q7
            by_cases q8 : tm < lf
            · have q8b : decide (tm < lf) = true := decide_eq_true q8
              have hno := Lib.hid (hbad.out (fun h => by have h9 := hri.out.1 (hra.out.1 h).1; (try simp only at h9); omega))
              skip
              go_wp2
              go_ret
              exact ⟨by rw [hno.out]; rfl, hB2t⟩
            have q8b : decide (tm < lf) = false := decide_eq_false q8
            have hok := Lib.hid (hra.out.2 ⟨hri.out.2 ⟨hxok.out, by have := htk.out; (try simp only at *); omega⟩, fun _ => by rw [hye.out]; exact signX_lt.1 (by rw [hcv.out]; exact hcl)⟩)
            go_wp2
            go_roundw
            case rel => exact ⟨k + 1, by omega, by go_num, hok.out, hB2c⟩
            case measure => simp [intOf]; omega
          · have q6b : decide (0 < tm) = false := decide_eq_false q6
            by_cases q9 : lf = 0
            rotate_left 1
            · have q9b : (lf != 0) = true := bne_iff_ne.2 q9
              have hno := Lib.hid (hbad.out (fun h => by have h9 := hri.out.1 (hra.out.1 h).1; have := htk.out; (try simp only at *); omega))
              skip
              go_wp2
              go_ret
              exact ⟨by rw [hno.out]; rfl, hB2t⟩
            have q9b : (lf != 0) = false := by rw [q9]; rfl
            have hok := Lib.hid (hra.out.2 ⟨hri.out.2 ⟨hxok.out, by have := htk.out; (try simp only at *); omega⟩, fun _ => by rw [hye.out]; exact signX_lt.1 (by rw [hcv.out]; exact hcl)⟩)
            go_wp2
            go_roundw
            case rel => exact ⟨k + 1, by omega, by go_num, hok.out, hB2c⟩
            case measure => simp [intOf]; omega
        · have q5b : (why == 0) = false := beq_eq_false_iff_ne.2 q5
          have q5n : (why != 0) = true := bne_iff_ne.2 q5
          by_cases q9 : lf = 0
          rotate_left 1
          · have q9b : (lf != 0) = true := bne_iff_ne.2 q9
            have hno := Lib.hid (hbad.out (fun h => by have h9 := hri.out.1 (hra.out.1 h).1; have := htk.out; (try simp only at *); omega))
            skip
            go_wp2
            go_ret
            exact ⟨by rw [hno.out]; rfl, hB2t⟩
          have q9b : (lf != 0) = false := by rw [q9]; rfl
          have hok := Lib.hid (hra.out.2 ⟨hri.out.2 ⟨hxok.out, by have := htk.out; (try simp only at *); omega⟩, fun _ => by rw [hye.out]; exact signX_lt.1 (by rw [hcv.out]; exact hcl)⟩)
          go_wp2
          go_roundw
          case rel => exact ⟨k + 1, by omega, by go_num, hok.out, hB2c⟩
          case measure => simp [intOf]; omega
      · have q4b : (st == 1) = false := beq_eq_false_iff_ne.2 q4
        have q4n : (st != 1) = true := bne_iff_ne.2 q4
        by_cases q5 : why = 0
        · have q5b : (why == 0) = true := by rw [q5]; rfl
          have q5n : (why != 0) = false := by rw [q5]; rfl
          by_cases q9 : lf = 0
          rotate_left 1
          · have q9b : (lf != 0) = true := bne_iff_ne.2 q9
            have hno := Lib.hid (hbad.out (fun h => by have h9 := hri.out.1 (hra.out.1 h).1; have := htk.out; (try simp only at *); omega))
            skip
            go_wp2
            go_ret
            exact ⟨by rw [hno.out]; rfl, hB2t⟩
          have q9b : (lf != 0) = false := by rw [q9]; rfl
          have hok := Lib.hid (hra.out.2 ⟨hri.out.2 ⟨hxok.out, by have := htk.out; (try simp only at *); omega⟩, fun _ => by rw [hye.out]; exact signX_lt.1 (by rw [hcv.out]; exact hcl)⟩)
          go_wp2
          go_roundw
          case rel => exact ⟨k + 1, by omega, by go_num, hok.out, hB2c⟩
          case measure => simp [intOf]; omega
        · have q5b : (why == 0) = false := beq_eq_false_iff_ne.2 q5
          have q5n : (why != 0) = true := bne_iff_ne.2 q5
          have hno := Lib.hid (hbad.out (fun h => by have h9 := hri.out.1 (hra.out.1 h).1; (try simp only at h9); omega))
          skip
          go_wp2
          go_ret
          exact ⟨by rw [hno.out]; rfl, hB2t⟩
    · obtain rfl : k = R.length := by omega
      rw [List.take_length] at hK hK'
      clear hK
      have hrises := Lib.hid hK'.out.2
      by_cases hAr : RowA A
      rotate_left 1
      · have hno := Lib.hid (tab_bad2 (R := R) hAr)
        have hrv := Lib.hid (rowE_no hAr)
        clear hAr
        go_wp2_with (go_at_call 75; refine (rcheck_any _ _ A (hA.pure hBw) hLA).mono ?_; rw [hrv.out]; rintro e w1 ⟨rfl, hB1⟩)
        go_ret
        exact ⟨by rw [hno.out]; rfl, hBw.trans (hB1.mono hBw.size)⟩
      · have hrv := Lib.hid (rowE_yes hAr)
        have hAr' := Lib.hid hAr; clear hAr
        go_wp2_with (go_at_call 75; refine (rcheck_any _ _ A (hA.pure hBw) hLA).mono ?_; rw [hrv.out]; rintro e w1 ⟨rfl, hB1⟩; have t1 := tr.pure hB1; have q0 := t1.at 0 rfl; have q1 := t1.at 1 rfl; have hBw1 := hBw.trans (hB1.mono hBw.size))
        have hz1 : w.heap.size < w1.heap.size := Nat.lt_of_lt_of_le hz0 (Nat.le_trans hB.size hB1.size)
        clear q0 q1 z0 z1
        go_loopw [5] (fun s5 wr => ∃ k : Nat, k ≤ A.length ∧ s5 = .int .i64 k ∧ LeadsOk R (A.take k) ∧ Below w1.heap.size w1 wr) (fun s5 _ => A.length - (intOf s5).toNat)
        case atStart => exact ⟨0, by omega, rfl, by simpa using LeadsOk.nil, Below.refl _ _⟩
        case round =>
          obtain ⟨k, hk, rfl, hQ, hB2⟩ := hrel
          have hB2w := hBw1.trans (hB2.mono hBw1.size)
          have t2 := t1.below hB2 hz1
          have m0 := t2.at 0 rfl
          have m1 := t2.at 1 rfl
          by_cases hlt : k < A.length
          · have hqa := Lib.hid (leads_at hlt hQ)
            have hbad := Lib.hid (fun h => tab_bad3 (A := A) (k := k) (R := R) h)
            clear hQ
            have hsa := hA.pure hB2w
            obtain ⟨ga, oa, rfl⟩ := hsa.addr hlt
            obtain ⟨c0, c1, c2, c3, c4⟩ := asc_cells hsa hlt
            have hk0 : (0 : Int) ≤ (k : Int) := by omega
            have hk1 : (k : Int) < (A.length : Int) := by omega
            obtain ⟨x, hxe⟩ : ∃ x, x = A[k].2.1 := ⟨_, rfl⟩
            rw [← hxe] at c1 c2 c3 hqa
            have hxe' := Lib.hid hxe
            clear hxe
            obtain ⟨xf, xg, xb⟩ := x
            simp only at c1 c2 c3 hqa
            by_cases hm : MemB R (xf, xg, xb)
            · obtain ⟨j, hj, hjx⟩ := hm
              have hat := Lib.hid (fun u (hu : Below w.heap.size w u) => dat_yes u _ _ R A (xf, xg, xb) j (hR.pure hu) (hA.pure hu) hrises.out hj hjx)
              have hqb : Hid (LeadsOk R (A.take (k + 1)) ↔ R[j].st = 1) := Lib.hid (hqa.out.trans ⟨fun ⟨b, hb, e1, e2⟩ => by
                obtain ⟨i, hi, rfl⟩ := List.getElem_of_mem hb
                have := sameB_idx hrises.out hi hj (e1.trans hjx.symm)
                subst this; exact e2, fun h => ⟨R[j], List.getElem_mem hj, hjx, h⟩⟩)
              clear hjx
              have hj0 : (0 : Int) ≤ (j : Int) := by omega
              have hj1 : (j : Int) < (R.length : Int) := by omega
              have hjn : decide ((j : Int) < 0) = false := decide_eq_false (by omega)
              obtain ⟨rg, ro, rfl⟩ := hR.addr hj
              by_cases hs : R[j].st = 1
              · have hok := Lib.hid (hqb.out.2 hs)
                have hs' := Lib.hid hs; clear hs
                go_wp2
                go_region_held3 (fun w' => w'.cell? ⟨w.heap.size, 0, none⟩ = some (.slice (some ⟨rg, ro, none⟩) R.length rc) ∧ w'.cell? ⟨w.heap.size, 1, none⟩ = some (.slice (some ⟨ga, oa, none⟩) A.length ac) ∧ w'.cell? ⟨ga, oa + k * 5 + 1, none⟩ = some (.int .u32 xf) ∧ w'.cell? ⟨ga, oa + k * 5 + 2, none⟩ = some (.string xg) ∧ w'.cell? ⟨ga, oa + k * 5 + 3, none⟩ = some (.string xb)) (first | exact ⟨m0, m1, c1, c2, c3⟩ | exact ⟨n0, n1, o1, o2, o3⟩) (first | (go_at_call 19; refine (hat.out _ (below_dr hB2w)).mono ?_; rintro e w3 ⟨rfl, hB3⟩; have t3 := t2.drew.pure hB3; have hBt := (below_dr hB2w).trans (hB3.mono hB2w.size); have hBu := (below_dr hB2).trans (hB3.mono hB2.size); obtain ⟨d0, d1, d2, d3, d4, d5, d6⟩ := br_cells (hR.pure hBt) hj; rw [hs'.out] at d3; obtain ⟨-, o1, o2, o3, -⟩ := asc_cells (hA.pure hBt) hlt; rw [← hxe'.out] at o1 o2 o3; simp only at o1 o2 o3; have n0 := t3.at 0 rfl; have n1 := t3.at 1 rfl))
                go_wp2
                go_roundw
                case rel => exact ⟨k + 1, by omega, by go_num, hok.out, hBu⟩
                case measure => simp [intOf]; omega
              · have hno := Lib.hid (hbad.out (fun h => hs (hqb.out.1 h)))
                have hsb : (R[j].st != 1) = true := bne_iff_ne.2 hs
                clear hs
                go_wp2
                go_region_held3 (fun w' => w'.cell? ⟨w.heap.size, 0, none⟩ = some (.slice (some ⟨rg, ro, none⟩) R.length rc) ∧ w'.cell? ⟨w.heap.size, 1, none⟩ = some (.slice (some ⟨ga, oa, none⟩) A.length ac) ∧ w'.cell? ⟨ga, oa + k * 5 + 1, none⟩ = some (.int .u32 xf) ∧ w'.cell? ⟨ga, oa + k * 5 + 2, none⟩ = some (.string xg) ∧ w'.cell? ⟨ga, oa + k * 5 + 3, none⟩ = some (.string xb)) (first | exact ⟨m0, m1, c1, c2, c3⟩ | exact ⟨n0, n1, o1, o2, o3⟩) (first | (go_at_call 19; refine (hat.out _ (below_dr hB2w)).mono ?_; rintro e w3 ⟨rfl, hB3⟩; have t3 := t2.drew.pure hB3; have hBt := (below_dr hB2w).trans (hB3.mono hB2w.size); obtain ⟨d0, d1, d2, d3, d4, d5, d6⟩ := br_cells (hR.pure hBt) hj; obtain ⟨-, o1, o2, o3, -⟩ := asc_cells (hA.pure hBt) hlt; rw [← hxe'.out] at o1 o2 o3; simp only at o1 o2 o3; have n0 := t3.at 0 rfl; have n1 := t3.at 1 rfl))
                go_wp2
                go_ret
                exact ⟨by rw [hno.out]; rfl, hBt⟩
            · have hat := Lib.hid (fun u (hu : Below w.heap.size w u) => dat_no u _ _ R A (xf, xg, xb) (hR.pure hu) (hA.pure hu) hm)
              have hno := Lib.hid (hbad.out (fun h => hm (by obtain ⟨b, hb, e1, e2⟩ := hqa.out.1 h; obtain ⟨i, hi, rfl⟩ := List.getElem_of_mem hb; exact ⟨i, hi, e1⟩)))
              clear hm
              go_wp2
              go_region_held3 (fun w' => w'.cell? ⟨w.heap.size, 0, none⟩ = some (.slice ra R.length rc) ∧ w'.cell? ⟨w.heap.size, 1, none⟩ = some (.slice (some ⟨ga, oa, none⟩) A.length ac) ∧ w'.cell? ⟨ga, oa + k * 5 + 1, none⟩ = some (.int .u32 xf) ∧ w'.cell? ⟨ga, oa + k * 5 + 2, none⟩ = some (.string xg) ∧ w'.cell? ⟨ga, oa + k * 5 + 3, none⟩ = some (.string xb)) (first | exact ⟨m0, m1, c1, c2, c3⟩ | exact ⟨n0, n1, o1, o2, o3⟩) (first | (go_at_call 19; refine (hat.out _ (below_dr hB2w)).mono ?_; rintro e w3 ⟨rfl, hB3⟩; have t3 := t2.drew.pure hB3; have hBt := (below_dr hB2w).trans (hB3.mono hB2w.size); obtain ⟨-, o1, o2, o3, -⟩ := asc_cells (hA.pure hBt) hlt; rw [← hxe'.out] at o1 o2 o3; simp only at o1 o2 o3; have n0 := t3.at 0 rfl; have n1 := t3.at 1 rfl))
              go_wp2
              go_ret
              exact ⟨by rw [hno.out]; rfl, hBt⟩
          · obtain rfl : k = A.length := by omega
            rw [List.take_length] at hQ
            have hyes := Lib.hid (tabE_yes (R := R) (A := A) ((tabOk_iff R A).2 ⟨hK'.out, hAr'.out, hQ⟩))
            clear hQ
            go_wp2
            go_ret
            exact ⟨by rw [hyes.out]; rfl, hB2w⟩
theorem dcheck2 (w : World) (rv av : Value) (R : List Brn) (A : List Asc) (v : Int) (hR : Slc brEnc 7 w rv R) (hA : Slc ascEnc 5 w av A) (hLR : R.length ≤ 1000000) (hLA : A.length ≤ 1000000) (htm : ∀ b ∈ R, 0 ≤ b.tm) (hv : tabE R A = v) :
    Calls Try.prog 20 #[.agg #[rv, av]] w fun e w' => e = .returned (.int .i64 v) ∧ Below w.heap.size w w' := by
  rw [← hv]; exact dcheck_any w rv av R A hR hA hLR hLA htm
end Go.Proofs.Ytcelpincmpjhkaa
