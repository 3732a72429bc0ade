/- Chapter 19, the document's side: Restore. Conditions: rows and associations read; no timeout is negative; at most a million of each. Written by gen_brDo.py. (Texts joined; the heads of the others stand below.) -/
import Derived.Test.YtcelpincmpjhkaaBrDc
import Derived.Test.YtcelpincmpjhkaaHZ
import Derived.Test.YtcelpincmpjhkaaBrDi

/- Chapter 19, the document's side: with. Conditions: rows and associations read; the rows rise; their names may be. Written by gen_brDn.py. -/

namespace Go.Proofs.Ytcelpincmpjhkaa
set_option linter.unusedSimpArgs false
set_option linter.unusedVariables false
open Go.RowKit
theorem rcompare2 (w : World) (x y : Xid) (v : Int) (hx : XidOk x) (hy : XidOk y) (hv : signX x y = v) :
    Calls Try.prog 74 #[.agg #[.int .u32 x.1, .string x.2.1, .string x.2.2], .agg #[.int .u32 y.1, .string y.2.1, .string y.2.2]] w fun e w' => e = .returned (.int .i64 v) ∧ Below w.heap.size w w' := by
  rw [← hv]
  exact rcompare w x y (Nat.le_trans hx.2.1 (by omega)) (Nat.le_trans hx.2.2 (by omega)) (Nat.le_trans hy.2.1 (by omega)) (Nat.le_trans hy.2.2 (by omega))
theorem signX_neg {x y : Xid} : signX x y < 0 ↔ cmpX x y < 0 := by
  unfold signX; split
  · rename_i h; rw [h]
  · split <;> omega
theorem place_ofB {R : List Brn} {x : Xid} {k : Nat} (hr : RisesB R) (hk : k ≤ R.length) (h1 : ∀ j, (h : j < R.length) → j < k → cmpX R[j].x x < 0) (h2 : ∀ h : k < R.length, ¬ cmpX R[k].x x < 0) : PlaceB R x k :=
  ⟨hk, h1, fun j hj hkj => by
    have h3 := h2 (by omega)
    rcases Nat.lt_or_ge k j with q | q
    · have h4 : cmpX (R[k]'(by omega)).x R[j].x < 0 := List.pairwise_iff_getElem.1 hr k j (by omega) hj q
      rcases Int.lt_or_le (cmpX R[j].x x) 0 with q2 | q2
      · have := cmpX_ok.lt_le h4 (Int.le_of_lt q2); omega
      · exact q2
    · obtain rfl : j = k := by omega
      omega⟩

set_option maxRecDepth 100000 in
set_option maxHeartbeats 6400000 in
theorem dwith_any (w : World) (rv av : Value) (R : List Brn) (A : List Asc) (b : Brn) (hR : Slc brEnc 7 w rv R) (hA : Slc ascEnc 5 w av A) (hLR : R.length ≤ 1000000) (hr : RisesB R) (hxs : ∀ c ∈ R, XidOk c.x) (hb : XidOk b.x) :
    Calls Try.prog 59 #[.agg #[rv, av], .agg #[.int .u32 b.x.1, .string b.x.2.1, .string b.x.2.2, .int .u8 b.st, .int .u8 b.why, .int .u32 b.tm, .int .u32 b.lf]] w fun e w' => ∃ r, e = .returned (.agg #[r, av]) ∧ Own w.heap.size 44 7 brEnc w' r (insB R (placeM R b.x) b) ∧ Below w.heap.size w w' := by
  obtain ⟨ra, rc, rfl, hm1⟩ := hR.len
  obtain ⟨aa, ac, rfl, -⟩ := hA.len
  unfold maxLen at hm1
  obtain ⟨⟨xf, xg, xb⟩, st, why, tm, lf⟩ := b
  simp only
  have hT0' : Below w.heap.size w (((w.alloc (.cells #[.slice ra R.length rc, .slice aa A.length ac] 25)).alloc (.cells #[.int .u32 xf, .string xg, .string xb, .int .u8 st, .int .u8 why, .int .u32 tm, .int .u32 lf] 44)).alloc (.cells #[.slice none 0 0, .slice none 0 0] 25)) := (((Below.refl _ _).alloc (Nat.le_refl _) _).alloc (by simp) _).alloc (by simp; omega) _
  have t0' : Blk (((w.alloc (.cells #[.slice ra R.length rc, .slice aa A.length ac] 25)).alloc (.cells #[.int .u32 xf, .string xg, .string xb, .int .u8 st, .int .u8 why, .int .u32 tm, .int .u32 lf] 44)).alloc (.cells #[.slice none 0 0, .slice none 0 0] 25)) w.heap.size [.slice ra R.length rc, .slice aa A.length ac] := ((Blk.new w [.slice ra R.length rc, .slice aa A.length ac] 25).alloc _).alloc _
  have b0' : Blk (((w.alloc (.cells #[.slice ra R.length rc, .slice aa A.length ac] 25)).alloc (.cells #[.int .u32 xf, .string xg, .string xb, .int .u8 st, .int .u8 why, .int .u32 tm, .int .u32 lf] 44)).alloc (.cells #[.slice none 0 0, .slice none 0 0] 25)) (w.heap.size + 1) [.int .u32 xf, .string xg, .string xb, .int .u8 st, .int .u8 why, .int .u32 tm, .int .u32 lf] := (Blk.newAt2 (w.alloc (.cells #[.slice ra R.length rc, .slice aa A.length ac] 25)) [.int .u32 xf, .string xg, .string xb, .int .u8 st, .int .u8 why, .int .u32 tm, .int .u32 lf] 44 (w.heap.size + 1) (by simp)).alloc _
  have r0' : Blk (((w.alloc (.cells #[.slice ra R.length rc, .slice aa A.length ac] 25)).alloc (.cells #[.int .u32 xf, .string xg, .string xb, .int .u8 st, .int .u8 why, .int .u32 tm, .int .u32 lf] 44)).alloc (.cells #[.slice none 0 0, .slice none 0 0] 25)) (w.heap.size + 1 + 1) [.slice none 0 0, .slice none 0 0] := Blk.newAt2 ((w.alloc (.cells #[.slice ra R.length rc, .slice aa A.length ac] 25)).alloc (.cells #[.int .u32 xf, .string xg, .string xb, .int .u8 st, .int .u8 why, .int .u32 tm, .int .u32 lf] 44)) [.slice none 0 0, .slice none 0 0] 25 (w.heap.size + 1 + 1) (by simp)
  have hz0' : w.heap.size + 3 ≤ (((w.alloc (.cells #[.slice ra R.length rc, .slice aa A.length ac] 25)).alloc (.cells #[.int .u32 xf, .string xg, .string xb, .int .u8 st, .int .u8 why, .int .u32 tm, .int .u32 lf] 44)).alloc (.cells #[.slice none 0 0, .slice none 0 0] 25)).heap.size := by simp
  obtain ⟨W0, hW0⟩ : ∃ W0, W0 = (((w.alloc (.cells #[.slice ra R.length rc, .slice aa A.length ac] 25)).alloc (.cells #[.int .u32 xf, .string xg, .string xb, .int .u8 st, .int .u8 why, .int .u32 tm, .int .u32 lf] 44)).alloc (.cells #[.slice none 0 0, .slice none 0 0] 25)) := ⟨_, rfl⟩
  rw [← hW0] at hT0' t0' b0' r0' hz0'
  have hris := Lib.hid hr
  have hxo := Lib.hid hxs
  have hbo := Lib.hid hb
  clear hr hxs hb
  go_enter Try.func59, Try.ntmps59
  go_wp2
  rw [← hW0]
  clear hW0
  go_loopw [5] (fun s5 wr => ∃ k : Nat, k ≤ R.length ∧ s5 = .int .i64 k ∧ (∀ j, (h : j < R.length) → j < k → cmpX R[j].x (xf, xg, xb) < 0) ∧ Below W0.heap.size W0 wr) (fun s5 _ => R.length - (intOf s5).toNat)
  case atStart => exact ⟨0, by omega, rfl, fun j h hj => absurd hj (by omega), Below.refl _ _⟩
  case round =>
    obtain ⟨k, hk, rfl, hN, hB⟩ := hrel
    have hN' := Lib.hid hN; clear hN
    have tt := t0'.pure hB; have bb := b0'.pure hB; have rr := r0'.pure hB
    have hTr := hT0'.trans (hB.mono hT0'.size)
    have hz := Nat.le_trans hz0' hB.size
    have hRr := hR.pure hTr
    have ct0 := tt.at 0 rfl; have ct1 := tt.at 1 rfl
    have cb0 := bb.at 0 rfl; have cb1 := bb.at 1 rfl; have cb2 := bb.at 2 rfl; have cb3 := bb.at 3 rfl; have cb4 := bb.at 4 rfl; have cb5 := bb.at 5 rfl; have cb6 := bb.at 6 rfl
    have hpl := Lib.hid (fun (h : ∀ h : k < R.length, ¬ cmpX R[k].x (xf, xg, xb) < 0) => placeB_eq (place_ofB hris.out hk hN'.out h))
    have ik0 : (0 : Int) ≤ (k : Int) := by omega
    by_cases hlt : k < R.length
    · have ik1 : (k : Int) < (R.length : Int) := by omega
      obtain ⟨g, off, rfl⟩ := hRr.addr hlt
      obtain ⟨c0, c1, c2, -⟩ := br_cells hRr hlt
      have hxk := Lib.hid (hxo.out R[k] (List.getElem_mem hlt))
      obtain ⟨v, hv⟩ : ∃ v, signX R[k].x (xf, xg, xb) = v := ⟨_, rfl⟩
      have hv' := Lib.hid hv
      by_cases hq : v < 0
      · have hst := Lib.hid (show ∀ j, (hj : j < R.length) → j < k + 1 → cmpX R[j].x (xf, xg, xb) < 0 from fun j hj hjk => by
          rcases Nat.lt_or_ge j k with q | q
          · exact hN'.out j hj q
          · obtain rfl : j = k := by omega
            exact signX_neg.1 (by rw [hv]; exact hq))
        have hqb : decide (v < 0) = true := decide_eq_true hq
        clear hq hv
        go_wp2
        go_region_held3 (fun w' => w'.cell? ⟨w.heap.size, 0, none⟩ = some (.slice (some ⟨g, off, none⟩) R.length rc) ∧ w'.cell? ⟨g, off + k * 7, none⟩ = some (.int .u32 R[k].x.1) ∧ w'.cell? ⟨g, off + k * 7 + 1, none⟩ = some (.string R[k].x.2.1) ∧ w'.cell? ⟨g, off + k * 7 + 2, none⟩ = some (.string R[k].x.2.2) ∧ w'.cell? ⟨w.heap.size + 1, 0, none⟩ = some (.int .u32 xf) ∧ w'.cell? ⟨w.heap.size + 1, 1, none⟩ = some (.string xg) ∧ w'.cell? ⟨w.heap.size + 1, 2, none⟩ = some (.string xb)) (first | with_reducible exact ⟨m0, m1, m2, m3, m4, m5, m6⟩ | exact ⟨ct0, c0, c1, c2, cb0, cb1, cb2⟩) (first | (go_at_call 74; refine (rcompare2 _ R[k].x (xf, xg, xb) v hxk.out hbo.out hv'.out).mono ?_; rintro e w2 ⟨rfl, hB2⟩; have t2 := tt.drew.pure hB2; have b2 := bb.drew.pure hB2; have r2 := rr.drew.pure hB2; have hB2t := (below_dr hB).trans (hB2.mono hB.size); have hT2 := (below_dr hTr).trans (hB2.mono hTr.size); have hR2 := hR.pure hT2; have m0 := t2.at 0 rfl; obtain ⟨m1, m2, m3, -⟩ := br_cells hR2 hlt; have m4 := b2.at 0 rfl; have m5 := b2.at 1 rfl; have m6 := b2.at 2 rfl))
        go_wp2
        go_roundw
        case rel => exact ⟨k + 1, by omega, by go_num, hst.out, hB2t⟩
        case measure => simp [intOf]; omega
      · have hp := Lib.hid (hpl.out (fun h q => hq (by rw [← hv]; exact signX_neg.2 q)))
        have hqb : decide (v < 0) = false := decide_eq_false hq
        clear hq hv
        go_wp2
        go_region_held3 (fun w' => w'.cell? ⟨w.heap.size, 0, none⟩ = some (.slice (some ⟨g, off, none⟩) R.length rc) ∧ w'.cell? ⟨g, off + k * 7, none⟩ = some (.int .u32 R[k].x.1) ∧ w'.cell? ⟨g, off + k * 7 + 1, none⟩ = some (.string R[k].x.2.1) ∧ w'.cell? ⟨g, off + k * 7 + 2, none⟩ = some (.string R[k].x.2.2) ∧ w'.cell? ⟨w.heap.size + 1, 0, none⟩ = some (.int .u32 xf) ∧ w'.cell? ⟨w.heap.size + 1, 1, none⟩ = some (.string xg) ∧ w'.cell? ⟨w.heap.size + 1, 2, none⟩ = some (.string xb)) (first | with_reducible exact ⟨m0, m1, m2, m3, m4, m5, m6⟩ | exact ⟨ct0, c0, c1, c2, cb0, cb1, cb2⟩) (first | (go_at_call 74; refine (rcompare2 _ R[k].x (xf, xg, xb) v hxk.out hbo.out hv'.out).mono ?_; rintro e w2 ⟨rfl, hB2⟩; have t2 := tt.drew.pure hB2; have b2 := bb.drew.pure hB2; have r2 := rr.drew.pure hB2; have hB2t := (below_dr hB).trans (hB2.mono hB.size); have hT2 := (below_dr hTr).trans (hB2.mono hTr.size); have hR2 := hR.pure hT2; have m0 := t2.at 0 rfl; obtain ⟨m1, m2, m3, -⟩ := br_cells hR2 hlt; have m4 := b2.at 0 rfl; have m5 := b2.at 1 rfl; have m6 := b2.at 2 rfl))
        have hBx : Below w.heap.size w w2 := hT2
        have hSx := hR.pure hBx
        have hKt : Blk w2 w.heap.size [.slice (some ⟨g, off, none⟩) R.length rc, .slice aa A.length ac] := t2
        have hKb : Blk w2 (w.heap.size + 1) [.int .u32 xf, .string xg, .string xb, .int .u8 st, .int .u8 why, .int .u32 tm, .int .u32 lf] := b2
        have hKr : Blk w2 (w.heap.size + 1 + 1) [.slice none 0 0, .slice none 0 0] := r2
        have hzx : w.heap.size + 3 ≤ w2.heap.size := Nat.le_trans hz hB2.size
        clear ct0 ct1 cb0 cb1 cb2 cb3 cb4 cb5 cb6
        have nt0 := hKt.at 0 rfl; have nt1 := hKt.at 1 rfl
        obtain ⟨M, hM0⟩ : ∃ M, M = R.take k := ⟨_, rfl⟩
        have hMk : M.length ≤ k := by rw [hM0, List.length_take]; omega
        have hM := Lib.hid hM0; clear hM0
        go_wp2_with (first | (refine wpList_slc_h (x := .tmp 28) (y := .tmp 29) (u := k) rfl rfl elem_br rfl hSx rfl (by rfl) (by omega) ?_; intro v1 hs1; rw [← hM.out] at hs1) | (at_builtin; refine wpList_app (base := w.heap.size + 3) rfl (.tmp 26) (.tmp 30) 22 44 rfl elem_br brEnc_len brEnc_one (.slice none 0 0) [] rfl Own.nil v1 M rfl hs1 (by simp; unfold maxLen; omega) (by simp; omega) hzx ?_; intro va w3 hO3 hgr3 _ _; rw [List.nil_append] at hO3; have hB3 : Below w2.heap.size w2 w3 := (Below.refl _ _).grown hgr3 (Nat.le_refl _) (fun j e => by simp [Value.ownBlock] at e); have hT3 := hBx.trans (hB3.mono hBx.size); have t3 := hKt.pure hB3; have b3 := hKb.pure hB3; have r3 := hKr.pure hB3; have hz3 := Nat.le_trans hzx hB3.size; have k0 := b3.at 0 rfl; have k1 := b3.at 1 rfl; have k2 := b3.at 2 rfl; have k3 := b3.at 3 rfl; have k4 := b3.at 4 rfl; have k5 := b3.at 5 rfl; have k6 := b3.at 6 rfl) | (at_builtin; refine wpList_app1 rfl (.tmp 32) (.tmp 34) 22 44 rfl elem_br brEnc_len brEnc_one va M rfl (hO3.alloc _) w3.heap.size 1 ⟨(xf, xg, xb), st, why, tm, lf⟩ rfl (fun j u hu => ((Blk.new w3 (brEnc ⟨(xf, xg, xb), st, why, tm, lf⟩) 44).cell j).trans hu) (by omega) (by unfold maxLen; omega) (Nat.le_trans hz3 (by simp)) ?_; intro g6 cap6 w6 hown hgr hfr; have hBA := (Below.refl w3.heap.size w3).alloc (Nat.le_refl _) (.cells (brEnc ⟨(xf, xg, xb), st, why, tm, lf⟩).toArray 44); have hB6 : Below (w.heap.size + 3) w3 w6 := (hBA.mono hz3).grown hgr (Nat.le_trans hz3 hBA.size) (fun j e => hO3.ge e); have hT6 := hT3.trans (hB6.mono (by omega)); have t6 := t3.below hB6 (by omega); have r6 := r3.below hB6 (by omega); have hS6 := hR.pure hT6; have hz6 := Nat.le_trans hz3 hB6.size; have j0 := t6.at 0 rfl; have j1 := t6.at 1 rfl) | (refine wpList_slc_l (x := .tmp 38) (y := .tmp 39) (l := k) rfl rfl elem_br rfl hS6 rfl (by rfl) (by omega) ?_; intro v2 hs2) | (at_builtin; refine wpList_app rfl (.tmp 36) (.tmp 40) 22 44 rfl elem_br brEnc_len brEnc_one _ (M ++ [⟨(xf, xg, xb), st, why, tm, lf⟩]) rfl hown v2 (R.drop k) rfl hs2 (by unfold maxLen; simp; omega) (by simp; omega) hz6 ?_; intro v7 w7 hown7 hgr7 _ _; rw [List.append_assoc] at hown7; obtain ⟨va7, vn7, vc7, rfl⟩ := hown7.shape3; have hB7 : Below (w.heap.size + 3) w6 w7 := ((Below.refl w6.heap.size w6).mono hz6).grown hgr7 hz6 (fun j e => hown.ge e); have hT7 := hT6.trans (hB7.mono (by omega)); have t7 := t6.below hB7 (by omega); have r7 := r6.below hB7 (by omega); have i0 := t7.at 0 rfl; have i1 := t7.at 1 rfl; have i2 := t7.frozen 0; have i3 := r7.frozen 0; have i4 := r7.frozen 1; have i5 := r7.at 0 rfl; have i6 := r7.at 1 rfl))
        have rz := ((r7.other ⟨w.heap.size, 0, none⟩ (.slice va7 vn7 vc7) (by simp only; omega)).set 0 (.slice va7 vn7 vc7)).set 1 (.slice aa A.length ac)
        have z0 := rz.at 0 rfl; have z1 := rz.at 1 rfl
        refine bodyPost_ret (by simp [results, Try.results59, go_sem, z0, z1]; rfl) rfl ?_
        have hge := fun j e => hown7.ge (k := j) e
        refine ⟨_, rfl, ?_, Below.setCell (p := ⟨w.heap.size + 1 + 1, 1, none⟩) (Below.setCell (p := ⟨w.heap.size + 1 + 1, 0, none⟩) (Below.setCell (p := ⟨w.heap.size, 0, none⟩) hT7 (by simp only; omega) _) (by simp only; omega) _) (by simp only; omega) _⟩
        rw [hp.out]
        have hins : insB R k ⟨(xf, xg, xb), st, why, tm, lf⟩ = M ++ ([⟨(xf, xg, xb), st, why, tm, lf⟩] ++ R.drop k) := by unfold insB; rw [← hM.out]; rfl
        rw [hins]
        exact (((hown7.other _ _ (fun j hj e => by have h1 := hge j hj; dsimp only at e; omega)).other _ _ (fun j hj e => by have h1 := hge j hj; dsimp only at e; omega)).other _ _ (fun j hj e => by have h1 := hge j hj; dsimp only at e; omega)).rebase (fun j hj => by have h1 := hge j hj; omega)
    · have hkl : decide ((k : Int) < (R.length : Int)) = false := decide_eq_false (by omega)
      have hp := Lib.hid (hpl.out (fun h => absurd h hlt))
      go_wp2
      go_quiet (fail)
      have hBx : Below w.heap.size w (wr.drewN nq) := below_drewN hTr _
      have hSx := hR.pure hBx
      have hKt : Blk (wr.drewN nq) w.heap.size [.slice ra R.length rc, .slice aa A.length ac] := tt.pure (below_drewN (Below.refl _ _) _)
      have hKb : Blk (wr.drewN nq) (w.heap.size + 1) [.int .u32 xf, .string xg, .string xb, .int .u8 st, .int .u8 why, .int .u32 tm, .int .u32 lf] := bb.pure (below_drewN (Below.refl _ _) _)
      have hKr : Blk (wr.drewN nq) (w.heap.size + 1 + 1) [.slice none 0 0, .slice none 0 0] := rr.pure (below_drewN (Below.refl _ _) _)
      have hzx : w.heap.size + 3 ≤ (wr.drewN nq).heap.size := hz
      clear ct0 ct1 cb0 cb1 cb2 cb3 cb4 cb5 cb6
      have nt0 := hKt.at 0 rfl; have nt1 := hKt.at 1 rfl
      obtain ⟨M, hM0⟩ : ∃ M, M = R.take k := ⟨_, rfl⟩
      have hMk : M.length ≤ k := by rw [hM0, List.length_take]; omega
      have hM := Lib.hid hM0; clear hM0
      go_wp2_with (first | (refine wpList_slc_h (x := .tmp 28) (y := .tmp 29) (u := k) rfl rfl elem_br rfl hSx rfl (by rfl) (by omega) ?_; intro v1 hs1; rw [← hM.out] at hs1) | (at_builtin; refine wpList_app (base := w.heap.size + 3) rfl (.tmp 26) (.tmp 30) 22 44 rfl elem_br brEnc_len brEnc_one (.slice none 0 0) [] rfl Own.nil v1 M rfl hs1 (by simp; unfold maxLen; omega) (by simp; omega) hzx ?_; intro va w3 hO3 hgr3 _ _; rw [List.nil_append] at hO3; have hB3 : Below (wr.drewN nq).heap.size (wr.drewN nq) w3 := (Below.refl _ _).grown hgr3 (Nat.le_refl _) (fun j e => by simp [Value.ownBlock] at e); have hT3 := hBx.trans (hB3.mono hBx.size); have t3 := hKt.pure hB3; have b3 := hKb.pure hB3; have r3 := hKr.pure hB3; have hz3 := Nat.le_trans hzx hB3.size; have k0 := b3.at 0 rfl; have k1 := b3.at 1 rfl; have k2 := b3.at 2 rfl; have k3 := b3.at 3 rfl; have k4 := b3.at 4 rfl; have k5 := b3.at 5 rfl; have k6 := b3.at 6 rfl) | (at_builtin; refine wpList_app1 rfl (.tmp 32) (.tmp 34) 22 44 rfl elem_br brEnc_len brEnc_one va M rfl (hO3.alloc _) w3.heap.size 1 ⟨(xf, xg, xb), st, why, tm, lf⟩ rfl (fun j u hu => ((Blk.new w3 (brEnc ⟨(xf, xg, xb), st, why, tm, lf⟩) 44).cell j).trans hu) (by omega) (by unfold maxLen; omega) (Nat.le_trans hz3 (by simp)) ?_; intro g6 cap6 w6 hown hgr hfr; have hBA := (Below.refl w3.heap.size w3).alloc (Nat.le_refl _) (.cells (brEnc ⟨(xf, xg, xb), st, why, tm, lf⟩).toArray 44); have hB6 : Below (w.heap.size + 3) w3 w6 := (hBA.mono hz3).grown hgr (Nat.le_trans hz3 hBA.size) (fun j e => hO3.ge e); have hT6 := hT3.trans (hB6.mono (by omega)); have t6 := t3.below hB6 (by omega); have r6 := r3.below hB6 (by omega); have hS6 := hR.pure hT6; have hz6 := Nat.le_trans hz3 hB6.size; have j0 := t6.at 0 rfl; have j1 := t6.at 1 rfl) | (refine wpList_slc_l (x := .tmp 38) (y := .tmp 39) (l := k) rfl rfl elem_br rfl hS6 rfl (by rfl) (by omega) ?_; intro v2 hs2) | (at_builtin; refine wpList_app rfl (.tmp 36) (.tmp 40) 22 44 rfl elem_br brEnc_len brEnc_one _ (M ++ [⟨(xf, xg, xb), st, why, tm, lf⟩]) rfl hown v2 (R.drop k) rfl hs2 (by unfold maxLen; simp; omega) (by simp; omega) hz6 ?_; intro v7 w7 hown7 hgr7 _ _; rw [List.append_assoc] at hown7; obtain ⟨va7, vn7, vc7, rfl⟩ := hown7.shape3; have hB7 : Below (w.heap.size + 3) w6 w7 := ((Below.refl w6.heap.size w6).mono hz6).grown hgr7 hz6 (fun j e => hown.ge e); have hT7 := hT6.trans (hB7.mono (by omega)); have t7 := t6.below hB7 (by omega); have r7 := r6.below hB7 (by omega); have i0 := t7.at 0 rfl; have i1 := t7.at 1 rfl; have i2 := t7.frozen 0; have i3 := r7.frozen 0; have i4 := r7.frozen 1; have i5 := r7.at 0 rfl; have i6 := r7.at 1 rfl))
      have rz := ((r7.other ⟨w.heap.size, 0, none⟩ (.slice va7 vn7 vc7) (by simp only; omega)).set 0 (.slice va7 vn7 vc7)).set 1 (.slice aa A.length ac)
      have z0 := rz.at 0 rfl; have z1 := rz.at 1 rfl
      refine bodyPost_ret (by simp [results, Try.results59, go_sem, z0, z1]; rfl) rfl ?_
      have hge := fun j e => hown7.ge (k := j) e
      refine ⟨_, rfl, ?_, Below.setCell (p := ⟨w.heap.size + 1 + 1, 1, none⟩) (Below.setCell (p := ⟨w.heap.size + 1 + 1, 0, none⟩) (Below.setCell (p := ⟨w.heap.size, 0, none⟩) hT7 (by simp only; omega) _) (by simp only; omega) _) (by simp only; omega) _⟩
      rw [hp.out]
      have hins : insB R k ⟨(xf, xg, xb), st, why, tm, lf⟩ = M ++ ([⟨(xf, xg, xb), st, why, tm, lf⟩] ++ R.drop k) := by unfold insB; rw [← hM.out]; rfl
      rw [hins]
      exact (((hown7.other _ _ (fun j hj e => by have h1 := hge j hj; dsimp only at e; omega)).other _ _ (fun j hj e => by have h1 := hge j hj; dsimp only at e; omega)).other _ _ (fun j hj e => by have h1 := hge j hj; dsimp only at e; omega)).rebase (fun j hj => by have h1 := hge j hj; omega)
theorem dwith_new (w : World) (rv av : Value) (R : List Brn) (A : List Asc) (x : Xid) (st : Int) (hR : Slc brEnc 7 w rv R) (hA : Slc ascEnc 5 w av A) (hLR : R.length ≤ 1000000) (hT : TabOk R A) (hx : XidOk x) :
    Calls Try.prog 59 #[.agg #[rv, av], .agg #[.int .u32 x.1, .string x.2.1, .string x.2.2, .int .u8 st, .int .u8 0, .int .u32 0, .int .u32 0]] w fun e w' => ∃ r, e = .returned (.agg #[r, av]) ∧ Own w.heap.size 44 7 brEnc w' r (insB R (placeM R x) (newB x st)) ∧ Below w.heap.size w w' :=
  dwith_any w rv av R A (newB x st) hR hA hLR hT.1.2 (fun c hc => (hT.1.1 c hc).1) hx
theorem mayB_arg {R : List Brn} {A : List Asc} {x : Xid} : mayB R A false x ≠ 0 := by
  unfold mayB; split
  · omega
  · simp
end Go.Proofs.Ytcelpincmpjhkaa

/- Chapter 19, the document's side: Restore. Conditions: rows and associations read; no timeout is negative; at most a million of each. Written by gen_brDo.py. -/
namespace Go.Proofs.Ytcelpincmpjhkaa
set_option linter.unusedSimpArgs false
set_option linter.unusedVariables false
open Go.RowKit


set_option maxRecDepth 100000 in
set_option maxHeartbeats 6400000 in
theorem drestore_any (w : World) (rv av : Value) (R : List Brn) (A : List Asc) (x : Xid) (st : Int) (hR : Slc brEnc 7 w rv R) (hA : Slc ascEnc 5 w av A) (hLR : R.length ≤ 1000000) (hLA : A.length ≤ 1000000) (htm : ∀ b ∈ R, 0 ≤ b.tm) :
    Calls Try.prog 40 #[.agg #[rv, av], .agg #[.int .u32 x.1, .string x.2.1, .string x.2.2], .int .u8 st] w (TabPost2 w (overB (mayB R A (decide (2 ≤ st ∧ st ≤ 4)) x) (restoreD R A x st))) := by
  obtain ⟨ra, rc, rfl, -⟩ := hR.len
  obtain ⟨aa, ac, rfl, -⟩ := hA.len
  obtain ⟨xf, xg, xb⟩ := x
  have hT0 : Below w.heap.size w (((w.alloc (.cells #[.slice ra R.length rc, .slice aa A.length ac] 25)).alloc (.cells #[.int .u32 xf, .string xg, .string xb] 28)).alloc (.cells #[.slice none 0 0, .slice none 0 0] 25)) := ((((Below.refl w.heap.size w).alloc (Nat.le_refl _) _).alloc (by simp) _).alloc (by simp; omega) _)
  have hW0 : w.heap.size + 3 ≤ (((w.alloc (.cells #[.slice ra R.length rc, .slice aa A.length ac] 25)).alloc (.cells #[.int .u32 xf, .string xg, .string xb] 28)).alloc (.cells #[.slice none 0 0, .slice none 0 0] 25)).heap.size := by simp
  have t0 : Blk (((w.alloc (.cells #[.slice ra R.length rc, .slice aa A.length ac] 25)).alloc (.cells #[.int .u32 xf, .string xg, .string xb] 28)).alloc (.cells #[.slice none 0 0, .slice none 0 0] 25)) (w.heap.size) [.slice ra R.length rc, .slice aa A.length ac] := (((Blk.newAt2 w [.slice ra R.length rc, .slice aa A.length ac] 25 (w.heap.size) (by simp)).alloc (.cells #[.int .u32 xf, .string xg, .string xb] 28)).alloc (.cells #[.slice none 0 0, .slice none 0 0] 25))
  have x0 : Blk (((w.alloc (.cells #[.slice ra R.length rc, .slice aa A.length ac] 25)).alloc (.cells #[.int .u32 xf, .string xg, .string xb] 28)).alloc (.cells #[.slice none 0 0, .slice none 0 0] 25)) (w.heap.size + 1) [.int .u32 xf, .string xg, .string xb] := ((Blk.newAt2 (w.alloc (.cells #[.slice ra R.length rc, .slice aa A.length ac] 25)) [.int .u32 xf, .string xg, .string xb] 28 (w.heap.size + 1) (by simp)).alloc (.cells #[.slice none 0 0, .slice none 0 0] 25))
  have r0 : Blk (((w.alloc (.cells #[.slice ra R.length rc, .slice aa A.length ac] 25)).alloc (.cells #[.int .u32 xf, .string xg, .string xb] 28)).alloc (.cells #[.slice none 0 0, .slice none 0 0] 25)) (w.heap.size + 1 + 1) [.slice none 0 0, .slice none 0 0] := (Blk.newAt2 ((w.alloc (.cells #[.slice ra R.length rc, .slice aa A.length ac] 25)).alloc (.cells #[.int .u32 xf, .string xg, .string xb] 28)) [.slice none 0 0, .slice none 0 0] 25 (w.heap.size + 1 + 1) (by simp))
  have ct0_0 := t0.at 0 rfl
  have ct1_0 := t0.at 1 rfl
  have cx0_0 := x0.at 0 rfl
  have cx1_0 := x0.at 1 rfl
  have cx2_0 := x0.at 2 rfl
  have cr0_0 := r0.at 0 rfl
  have cr1_0 := r0.at 1 rfl
  have zt0_0 := t0.frozen 0
  have zt1_0 := t0.frozen 1
  have zr0_0 := r0.frozen 0
  have zr1_0 := r0.frozen 1
  have HR0 := hR.pure hT0; have HA0 := hA.pure hT0
  by_cases g1 : st < 2
  · have hs1 : decide (st < 2) = true := decide_eq_true g1
    have hok : decide (2 ≤ st ∧ st ≤ 4) = false := decide_eq_false (by omega)
    clear g1
    obtain ⟨m, hm⟩ : ∃ m, mayB R A false (xf, xg, xb) = m := ⟨_, rfl⟩
    have hmay : Hid (mayB R A (!true) (xf, xg, xb) = m) := Lib.hid hm
    have hmb : (m != 0) = true := bne_iff_ne.2 (by rw [← hm]; exact mayB_arg)
    have hD : Hid (overB (mayB R A (decide (2 ≤ st ∧ st ≤ 4)) (xf, xg, xb)) (restoreD R A (xf, xg, xb) st) = errR m) := Lib.hid (by rw [hok]; unfold overB; rw [if_neg mayB_arg, hm])
    clear hm hok
    go_enter Try.func40, Try.ntmps40
    go_wp2_with (first | (go_at_call 56; (with_reducible refine (dmay_any _ _ _ R A true (xf, xg, xb) m HR0 HA0 hLR hLA htm hmay.out).mono ?_); rintro e w1 ⟨rfl, hB1⟩; have t1 := t0.pure hB1; have x1 := x0.pure hB1; have r1 := r0.pure hB1; have HR1 := HR0.pure hB1; have HA1 := HA0.pure hB1; have hT1 := hT0.trans (hB1.mono hT0.size); have hW1 := Nat.le_trans hW0 hB1.size; clear ct0_0 ct1_0 cx0_0 cx1_0 cx2_0 cr0_0 cr1_0 zt0_0 zt1_0 zr0_0 zr1_0; have ct0_1 := t1.at 0 rfl; have ct1_1 := t1.at 1 rfl; have cx0_1 := x1.at 0 rfl; have cx1_1 := x1.at 1 rfl; have cx2_1 := x1.at 2 rfl; have cr0_1 := r1.at 0 rfl; have cr1_1 := r1.at 1 rfl; have zt0_1 := t1.frozen 0; have zt1_1 := t1.frozen 1; have zr0_1 := r1.frozen 0; have zr1_1 := r1.frozen 1))
    have rr := (r1.set 0 (.slice none 0 0)).set 1 (.slice none 0 0)
    have k0 := rr.at 0 rfl; have k1 := rr.at 1 rfl
    refine bodyPost_ret (by simp [results, Try.results40, go_sem, k0, k1]; rfl) rfl ?_
    rw [hD.out]
    refine ⟨_, _, rfl, ?_, ?_, Below.setCell (p := ⟨w.heap.size + 1 + 1, 1, none⟩) (Below.setCell (p := ⟨w.heap.size + 1 + 1, 0, none⟩) hT1 (by simp only; omega) _) (by simp only; omega) _⟩
    · exact Own.nil
    · exact Own.nil
  have hs1 : decide (st < 2) = false := decide_eq_false g1
  by_cases g2 : 4 < st
  · have hs2 : decide (4 < st) = true := decide_eq_true g2
    have hok : decide (2 ≤ st ∧ st ≤ 4) = false := decide_eq_false (by omega)
    clear g1 g2
    obtain ⟨m, hm⟩ : ∃ m, mayB R A false (xf, xg, xb) = m := ⟨_, rfl⟩
    have hmay : Hid (mayB R A (!true) (xf, xg, xb) = m) := Lib.hid hm
    have hmb : (m != 0) = true := bne_iff_ne.2 (by rw [← hm]; exact mayB_arg)
    have hD : Hid (overB (mayB R A (decide (2 ≤ st ∧ st ≤ 4)) (xf, xg, xb)) (restoreD R A (xf, xg, xb) st) = errR m) := Lib.hid (by rw [hok]; unfold overB; rw [if_neg mayB_arg, hm])
    clear hm hok
    go_enter Try.func40, Try.ntmps40
    go_wp2_with (first | (go_at_call 56; (with_reducible refine (dmay_any _ _ _ R A true (xf, xg, xb) m HR0 HA0 hLR hLA htm hmay.out).mono ?_); rintro e w1 ⟨rfl, hB1⟩; have t1 := t0.pure hB1; have x1 := x0.pure hB1; have r1 := r0.pure hB1; have HR1 := HR0.pure hB1; have HA1 := HA0.pure hB1; have hT1 := hT0.trans (hB1.mono hT0.size); have hW1 := Nat.le_trans hW0 hB1.size; clear ct0_0 ct1_0 cx0_0 cx1_0 cx2_0 cr0_0 cr1_0 zt0_0 zt1_0 zr0_0 zr1_0; have ct0_1 := t1.at 0 rfl; have ct1_1 := t1.at 1 rfl; have cx0_1 := x1.at 0 rfl; have cx1_1 := x1.at 1 rfl; have cx2_1 := x1.at 2 rfl; have cr0_1 := r1.at 0 rfl; have cr1_1 := r1.at 1 rfl; have zt0_1 := t1.frozen 0; have zt1_1 := t1.frozen 1; have zr0_1 := r1.frozen 0; have zr1_1 := r1.frozen 1))
    have rr := (r1.set 0 (.slice none 0 0)).set 1 (.slice none 0 0)
    have k0 := rr.at 0 rfl; have k1 := rr.at 1 rfl
    refine bodyPost_ret (by simp [results, Try.results40, go_sem, k0, k1]; rfl) rfl ?_
    rw [hD.out]
    refine ⟨_, _, rfl, ?_, ?_, Below.setCell (p := ⟨w.heap.size + 1 + 1, 1, none⟩) (Below.setCell (p := ⟨w.heap.size + 1 + 1, 0, none⟩) hT1 (by simp only; omega) _) (by simp only; omega) _⟩
    · exact Own.nil
    · exact Own.nil
  have hs2 : decide (4 < st) = false := decide_eq_false g2
  have hok : decide (2 ≤ st ∧ st ≤ 4) = true := decide_eq_true (by omega)
  clear g1 g2
  by_cases hm0 : mayB R A true (xf, xg, xb) = 0
  rotate_left 1
  · have hdum := True.intro
    obtain ⟨m, hm⟩ : ∃ m, mayB R A true (xf, xg, xb) = m := ⟨_, rfl⟩
    have hmay : Hid (mayB R A (!false) (xf, xg, xb) = m) := Lib.hid hm
    have hmb : (m != 0) = true := bne_iff_ne.2 (by rw [← hm]; exact hm0)
    have hD : Hid (overB (mayB R A (decide (2 ≤ st ∧ st ≤ 4)) (xf, xg, xb)) (restoreD R A (xf, xg, xb) st) = errR m) := Lib.hid (by rw [hok]; unfold overB; rw [if_neg hm0, hm])
    clear hm hok hm0
    go_enter Try.func40, Try.ntmps40
    go_wp2_with (first | (go_at_call 56; (with_reducible refine (dmay_any _ _ _ R A false (xf, xg, xb) m HR0 HA0 hLR hLA htm hmay.out).mono ?_); rintro e w1 ⟨rfl, hB1⟩; have t1 := t0.pure hB1; have x1 := x0.pure hB1; have r1 := r0.pure hB1; have HR1 := HR0.pure hB1; have HA1 := HA0.pure hB1; have hT1 := hT0.trans (hB1.mono hT0.size); have hW1 := Nat.le_trans hW0 hB1.size; clear ct0_0 ct1_0 cx0_0 cx1_0 cx2_0 cr0_0 cr1_0 zt0_0 zt1_0 zr0_0 zr1_0; have ct0_1 := t1.at 0 rfl; have ct1_1 := t1.at 1 rfl; have cx0_1 := x1.at 0 rfl; have cx1_1 := x1.at 1 rfl; have cx2_1 := x1.at 2 rfl; have cr0_1 := r1.at 0 rfl; have cr1_1 := r1.at 1 rfl; have zt0_1 := t1.frozen 0; have zt1_1 := t1.frozen 1; have zr0_1 := r1.frozen 0; have zr1_1 := r1.frozen 1))
    have rr := (r1.set 0 (.slice none 0 0)).set 1 (.slice none 0 0)
    have k0 := rr.at 0 rfl; have k1 := rr.at 1 rfl
    refine bodyPost_ret (by simp [results, Try.results40, go_sem, k0, k1]; rfl) rfl ?_
    rw [hD.out]
    refine ⟨_, _, rfl, ?_, ?_, Below.setCell (p := ⟨w.heap.size + 1 + 1, 1, none⟩) (Below.setCell (p := ⟨w.heap.size + 1 + 1, 0, none⟩) hT1 (by simp only; omega) _) (by simp only; omega) _⟩
    · exact Own.nil
    · exact Own.nil
  have hmay : Hid (mayB R A (!false) (xf, xg, xb) = 0) := Lib.hid hm0
  obtain ⟨hTab, -, hxok⟩ := mayB_zero hm0
  have hTb := Lib.hid hTab
  have hxk := Lib.hid hxok
  have hris := Lib.hid hTab.1.2
  rcases Classical.em (MemB R (xf, xg, xb)) with hm | hm
  · obtain ⟨k, hk, hkx⟩ := hm
    have hkx' := Lib.hid hkx
    have hkd : decide ((0 : Int) ≤ (k : Int)) = true := decide_eq_true (by omega)
    have hD : Hid (overB (mayB R A (decide (2 ≤ st ∧ st ≤ 4)) (xf, xg, xb)) (restoreD R A (xf, xg, xb) st) = errR 8) := Lib.hid (by rw [hok]; unfold overB restoreD; rw [if_pos hm0, idxB_yes hTab.1.2 hk hkx])
    clear hm0 hTab hxok hkx hok
    go_enter Try.func40, Try.ntmps40
    go_wp2_with (first | (go_at_call 56; (with_reducible refine (dmay_any _ _ _ R A false (xf, xg, xb) 0 HR0 HA0 hLR hLA htm hmay.out).mono ?_); rintro e w1 ⟨rfl, hB1⟩; have t1 := t0.pure hB1; have x1 := x0.pure hB1; have r1 := r0.pure hB1; have HR1 := HR0.pure hB1; have HA1 := HA0.pure hB1; have hT1 := hT0.trans (hB1.mono hT0.size); have hW1 := Nat.le_trans hW0 hB1.size; clear ct0_0 ct1_0 cx0_0 cx1_0 cx2_0 cr0_0 cr1_0 zt0_0 zt1_0 zr0_0 zr1_0; have ct0_1 := t1.at 0 rfl; have ct1_1 := t1.at 1 rfl; have cx0_1 := x1.at 0 rfl; have cx1_1 := x1.at 1 rfl; have cx2_1 := x1.at 2 rfl; have cr0_1 := r1.at 0 rfl; have cr1_1 := r1.at 1 rfl; have zt0_1 := t1.frozen 0; have zt1_1 := t1.frozen 1; have zr0_1 := r1.frozen 0; have zr1_1 := r1.frozen 1) | (go_at_call 19; (with_reducible refine (dat_yes _ _ _ R A (xf, xg, xb) k HR1 HA1 hris.out hk hkx'.out).mono ?_); rintro e w2 ⟨rfl, hB2⟩; have t2 := t1.pure hB2; have x2 := x1.pure hB2; have r2 := r1.pure hB2; have HR2 := HR1.pure hB2; have HA2 := HA1.pure hB2; have hT2 := hT1.trans (hB2.mono hT1.size); have hW2 := Nat.le_trans hW1 hB2.size; clear ct0_1 ct1_1 cx0_1 cx1_1 cx2_1 cr0_1 cr1_1 zt0_1 zt1_1 zr0_1 zr1_1; have ct0_2 := t2.at 0 rfl; have ct1_2 := t2.at 1 rfl; have cx0_2 := x2.at 0 rfl; have cx1_2 := x2.at 1 rfl; have cx2_2 := x2.at 2 rfl; have cr0_2 := r2.at 0 rfl; have cr1_2 := r2.at 1 rfl; have zt0_2 := t2.frozen 0; have zt1_2 := t2.frozen 1; have zr0_2 := r2.frozen 0; have zr1_2 := r2.frozen 1))
    have rr := (r2.set 0 (.slice none 0 0)).set 1 (.slice none 0 0)
    have k0 := rr.at 0 rfl; have k1 := rr.at 1 rfl
    refine bodyPost_ret (by simp [results, Try.results40, go_sem, k0, k1]; rfl) rfl ?_
    rw [hD.out]
    refine ⟨_, _, rfl, ?_, ?_, Below.setCell (p := ⟨w.heap.size + 1 + 1, 1, none⟩) (Below.setCell (p := ⟨w.heap.size + 1 + 1, 0, none⟩) hT2 (by simp only; omega) _) (by simp only; omega) _⟩
    · exact Own.nil
    · exact Own.nil
  have hn := Lib.hid hm
  have hD : Hid (overB (mayB R A (decide (2 ≤ st ∧ st ≤ 4)) (xf, xg, xb)) (restoreD R A (xf, xg, xb) st) = (insB R (placeM R (xf, xg, xb)) (newB (xf, xg, xb) st), A, 0, 0)) := Lib.hid (by rw [hok]; unfold overB restoreD; rw [if_pos hm0, idxB_no hm])
  clear hm0 hTab hxok hm hok
  go_enter Try.func40, Try.ntmps40
  go_wp2_with (first | (go_at_call 56; (with_reducible refine (dmay_any _ _ _ R A false (xf, xg, xb) 0 HR0 HA0 hLR hLA htm hmay.out).mono ?_); rintro e w1 ⟨rfl, hB1⟩; have t1 := t0.pure hB1; have x1 := x0.pure hB1; have r1 := r0.pure hB1; have HR1 := HR0.pure hB1; have HA1 := HA0.pure hB1; have hT1 := hT0.trans (hB1.mono hT0.size); have hW1 := Nat.le_trans hW0 hB1.size; clear ct0_0 ct1_0 cx0_0 cx1_0 cx2_0 cr0_0 cr1_0 zt0_0 zt1_0 zr0_0 zr1_0; have ct0_1 := t1.at 0 rfl; have ct1_1 := t1.at 1 rfl; have cx0_1 := x1.at 0 rfl; have cx1_1 := x1.at 1 rfl; have cx2_1 := x1.at 2 rfl; have cr0_1 := r1.at 0 rfl; have cr1_1 := r1.at 1 rfl; have zt0_1 := t1.frozen 0; have zt1_1 := t1.frozen 1; have zr0_1 := r1.frozen 0; have zr1_1 := r1.frozen 1) | (go_at_call 19; (with_reducible refine (dat_no _ _ _ R A (xf, xg, xb) HR1 HA1 hn.out).mono ?_); rintro e w2 ⟨rfl, hB2⟩; have t2 := t1.pure hB2; have x2 := x1.pure hB2; have r2 := r1.pure hB2; have HR2 := HR1.pure hB2; have HA2 := HA1.pure hB2; have hT2 := hT1.trans (hB2.mono hT1.size); have hW2 := Nat.le_trans hW1 hB2.size; clear ct0_1 ct1_1 cx0_1 cx1_1 cx2_1 cr0_1 cr1_1 zt0_1 zt1_1 zr0_1 zr1_1; have ct0_2 := t2.at 0 rfl; have ct1_2 := t2.at 1 rfl; have cx0_2 := x2.at 0 rfl; have cx1_2 := x2.at 1 rfl; have cx2_2 := x2.at 2 rfl; have cr0_2 := r2.at 0 rfl; have cr1_2 := r2.at 1 rfl; have zt0_2 := t2.frozen 0; have zt1_2 := t2.frozen 1; have zr0_2 := r2.frozen 0; have zr1_2 := r2.frozen 1))
  go_region_held3 (fun w' => w'.cell? ⟨w.heap.size, 0, none⟩ = some (.slice ra R.length rc) ∧ w'.cell? ⟨w.heap.size, 1, none⟩ = some (.slice aa A.length ac) ∧ w'.cell? ⟨w.heap.size + 1, 0, none⟩ = some (.int .u32 xf) ∧ w'.cell? ⟨w.heap.size + 1, 1, none⟩ = some (.string xg) ∧ w'.cell? ⟨w.heap.size + 1, 2, none⟩ = some (.string xb)) (first | with_reducible exact ⟨p0, p1, p2, p3, p4⟩ | with_reducible exact ⟨n0, n1, n2, n3, n4⟩ | with_reducible exact ⟨m0, m1, m2, m3, m4⟩ | exact ⟨ct0_2, ct1_2, cx0_2, cx1_2, cx2_2⟩) (first | (go_at_call 12; refine (dcopy_any _ _ _ R A HR2.drew HA2.drew hLR hLA).mono ?_; rintro e w4 ⟨ro, ao, rfl, hO4, hP4, hB4⟩; obtain ⟨ya, yc, rfl⟩ := own_len hO4; obtain ⟨ua, uc, rfl⟩ := own_len hP4; have OA4 := hP4.rebase (b' := w.heap.size + 3) (fun i hi => Nat.le_trans hW2 (hP4.ge hi)); have t4 := t2.drew.pure hB4; have x4 := x2.drew.pure hB4; have r4 := r2.drew.pure hB4; have hT4 := (below_dr hT2).trans (hB4.mono hT2.size); have hW4 := Nat.le_trans hW2 hB4.size; have m0 := t4.at 0 rfl; have m1 := t4.at 1 rfl; have m2 := x4.at 0 rfl; have m3 := x4.at 1 rfl; have m4 := x4.at 2 rfl) | (go_at_call 59; refine (dwith_new _ _ _ R A (xf, xg, xb) st (hO4.slc brEnc_len) (hP4.slc ascEnc_len) hLR hTb.out hxk.out).mono ?_; rintro e w5 ⟨rw5, rfl, hO5, hB5⟩; obtain ⟨va, vn, vc, rfl⟩ := hO5.shape3; have t5 := t4.pure hB5; have x5 := x4.pure hB5; have r5 := r4.pure hB5; have OA5 := OA4.pure hB5; have OR5 := hO5.rebase (b' := w.heap.size + 3) (fun i hi => Nat.le_trans hW4 (hO5.ge hi)); have hT5 := hT4.trans (hB5.mono hT4.size); have hW5 := Nat.le_trans hW4 hB5.size; have n0 := t5.at 0 rfl; have n1 := t5.at 1 rfl; have n2 := x5.at 0 rfl; have n3 := x5.at 1 rfl; have n4 := x5.at 2 rfl; have e0 := r5.frozen 0; have e1 := r5.frozen 1; have e2 := r5.at 0 rfl; have e3 := r5.at 1 rfl; have tp := (t5.other ⟨w.heap.size + 1 + 1, 0, none⟩ (.slice va vn vc) (by simp only; omega)).other ⟨w.heap.size + 1 + 1, 1, none⟩ (.slice ua A.length uc) (by simp only; omega); have xp := (x5.other ⟨w.heap.size + 1 + 1, 0, none⟩ (.slice va vn vc) (by simp only; omega)).other ⟨w.heap.size + 1 + 1, 1, none⟩ (.slice ua A.length uc) (by simp only; omega); have p0 := tp.at 0 rfl; have p1 := tp.at 1 rfl; have p2 := xp.at 0 rfl; have p3 := xp.at 1 rfl; have p4 := xp.at 2 rfl))
  go_wp2
  have rr := (r5.set 0 (.slice va vn vc)).set 1 (.slice ua A.length uc)
  have k0 := rr.at 0 rfl; have k1 := rr.at 1 rfl
  refine bodyPost_ret (by simp [results, Try.results40, go_sem, k0, k1]; rfl) rfl ?_
  rw [hD.out]
  refine ⟨_, _, rfl, ?_, ?_, Below.setCell (p := ⟨w.heap.size + 1 + 1, 1, none⟩) (Below.setCell (p := ⟨w.heap.size + 1 + 1, 0, none⟩) hT5 (by simp only; omega) _) (by simp only; omega) _⟩
  · exact ((OR5.other _ _ (fun i hi e => by have h1 := OR5.ge hi; dsimp only at e; omega)).other _ _ (fun i hi e => by have h1 := OR5.ge hi; dsimp only at e; omega)).rebase (fun i hi => by have h1 := OR5.ge hi; omega)
  · exact ((OA5.other _ _ (fun i hi e => by have h1 := OA5.ge hi; dsimp only at e; omega)).other _ _ (fun i hi e => by have h1 := OA5.ge hi; dsimp only at e; omega)).rebase (fun i hi => by have h1 := OA5.ge hi; omega)
end Go.Proofs.Ytcelpincmpjhkaa
