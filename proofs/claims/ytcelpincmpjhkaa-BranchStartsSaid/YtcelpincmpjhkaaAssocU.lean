/- Document's side of chapter 18: Start. Conditions: at most a million. Written by gen_rstart.py. -/
import Derived.Test.YtcelpincmpjhkaaGR
namespace Go.Proofs.Ytcelpincmpjhkaa
set_option linter.unusedSimpArgs false
set_option linter.unusedVariables false
open Go.RowKit


set_option maxRecDepth 100000 in
set_option maxHeartbeats 3200000 in
theorem rstart_any (w : World) (v : Value) (L : List Asc) (s : Int) (y : Xid) (hs : Slc ascEnc 5 w v L) (hL : L.length ≤ 1000000) :
    Calls Try.prog 60 #[v, .int .u64 s, .agg #[.int .u32 y.1, .string y.2.1, .string y.2.2]] w (TurnPost w (startF L s y)) := by
  obtain ⟨yf, yg, yb⟩ := y
  simp only
  have hB0 := (Below.refl w.heap.size w).alloc (Nat.le_refl _) (.cells #[.int .u32 yf, .string yg, .string yb] 28)
  have b0 := Blk.new w [.int .u32 yf, .string yg, .string yb] 28
  have hm := rmay_any (w.alloc (.cells #[.int .u32 yf, .string yg, .string yb] 28)) v L s (yf, yg, yb) (hs.pure hB0) hL
  unfold startF
  obtain ⟨c, hc⟩ : ∃ c, c = mayN L s (yf, yg, yb) := ⟨_, rfl⟩
  rw [← hc] at hm ⊢
  have hm' := Lib.hid hm; clear hm
  by_cases hz : c = 0
  · rw [hz] at hm' hc
    have hzb : (c != 0) = false := by rw [hz]; rfl
    rw [if_pos hz]
    obtain ⟨h1, hs0, hx0⟩ := may_zero hc.symm
    have hr := Lib.hid h1.rises
    have hrow := Lib.hid h1
    have hxo := Lib.hid hx0
    clear hc hz hs0 hx0 h1
    have hac := Lib.hid (fun (w1 : World) (h : Below w.heap.size w w1) => ractive_any w1 v L s (hs.pure h) hL)
    obtain ⟨o, ho⟩ : ∃ o, o = actA L s := ⟨_, rfl⟩
    rw [← ho] at hac ⊢
    clear ho
    obtain ⟨⟨xf, xg, xb⟩, hxx⟩ : ∃ x, x = optX o := ⟨_, rfl⟩
    rw [← hxx] at hac
    clear hxx
    obtain ⟨is, his⟩ : ∃ is, is = o.isSome := ⟨_, rfl⟩
    rw [← his] at hac ⊢
    clear his o
    cases is
    rotate_left 1
    · rw [if_pos rfl]
      obtain ⟨a, n, cap, rfl⟩ := hs.shape3
      clear hs
      go_enter Try.func60, Try.ntmps60
      go_wp2_with (first | (go_at_call 107; refine hm'.out.mono ?_; rintro e w1 ⟨rfl, hB1⟩; have hB1t := hB0.trans (hB1.mono (by simp)); have b1 := b0.pure hB1; have d0 := b1.at 0 rfl; have d1 := b1.at 1 rfl; have d2 := b1.at 2 rfl) | (go_at_call 58; refine (hac.out _ hB1t).mono ?_; rintro e w2 ⟨rfl, hB2⟩; have hB2t := hB1t.trans (hB2.mono hB1t.size); have b2 := b1.pure hB2; have hB4t := hB2t.alloc hB2t.size (.cells #[.int .u32 xf, .string xg, .string xb] 28); have b4 := b2.alloc (.cells #[.int .u32 xf, .string xg, .string xb] 28); clear d0 d1 d2; have d0 := b4.at 0 rfl; have d1 := b4.at 1 rfl; have d2 := b4.at 2 rfl))
      go_ret2
      exact ⟨_, rfl, Own.nil, hB4t⟩
    rw [if_neg (by simp)]
    rcases Classical.em (Mem L s (yf, yg, yb)) with hm | hm
    · obtain ⟨k, hk, he⟩ := hm
      rw [idx_yes hr.out hk he]
      have he' := Lib.hid he; clear he
      obtain ⟨a, cap, rfl, hm⟩ := hs.len
      unfold maxLen at hm
      have hfn := Lib.hid (fun (w1 : World) (h : Below w.heap.size w w1) => rfind_yes w1 _ L s (yf, yg, yb) k (hs.pure h) hr.out hL hk he'.out)
      have hkk : (0 : Int) ≤ (k : Int) := by omega
      clear hs
      go_enter Try.func60, Try.ntmps60
      go_wp2_with (first | (go_at_call 107; refine hm'.out.mono ?_; rintro e w1 ⟨rfl, hB1⟩; have hB1t := hB0.trans (hB1.mono (by simp)); have b1 := b0.pure hB1; have d0 := b1.at 0 rfl; have d1 := b1.at 1 rfl; have d2 := b1.at 2 rfl) | (go_at_call 58; refine (hac.out _ hB1t).mono ?_; rintro e w2 ⟨rfl, hB2⟩; have hB2t := hB1t.trans (hB2.mono hB1t.size); have b2 := b1.pure hB2; have hB4t := hB2t.alloc hB2t.size (.cells #[.int .u32 xf, .string xg, .string xb] 28); have b4 := b2.alloc (.cells #[.int .u32 xf, .string xg, .string xb] 28); clear d0 d1 d2; have d0 := b4.at 0 rfl; have d1 := b4.at 1 rfl; have d2 := b4.at 2 rfl) | (go_at_call 61; refine (hfn.out _ hB4t).mono ?_; rintro e w3 ⟨rfl, hB3⟩; have hB3t := hB4t.trans (hB3.mono hB4t.size); have b3 := b4.pure hB3; clear d0 d1 d2; have d0 := b3.at 0 rfl; have d1 := b3.at 1 rfl; have d2 := b3.at 2 rfl))
      go_ret2
      exact ⟨_, rfl, Own.nil, hB3t⟩
    · rw [idx_no hm]
      have hfn := Lib.hid (fun (w1 : World) (h : Below w.heap.size w w1) => rfind_no w1 v L s (yf, yg, yb) (hs.pure h) hL hm)
      obtain ⟨a, cap, rfl, hmx⟩ := hs.len
      unfold maxLen at hmx
      go_enter Try.func60, Try.ntmps60
      go_wp2_with (first | (go_at_call 107; refine hm'.out.mono ?_; rintro e w1 ⟨rfl, hB1⟩; have hB1t := hB0.trans (hB1.mono (by simp)); have b1 := b0.pure hB1; have d0 := b1.at 0 rfl; have d1 := b1.at 1 rfl; have d2 := b1.at 2 rfl) | (go_at_call 58; refine (hac.out _ hB1t).mono ?_; rintro e w2 ⟨rfl, hB2⟩; have hB2t := hB1t.trans (hB2.mono hB1t.size); have b2 := b1.pure hB2; have hB4t := hB2t.alloc hB2t.size (.cells #[.int .u32 xf, .string xg, .string xb] 28); have b4 := b2.alloc (.cells #[.int .u32 xf, .string xg, .string xb] 28); clear d0 d1 d2; have d0 := b4.at 0 rfl; have d1 := b4.at 1 rfl; have d2 := b4.at 2 rfl) | (go_at_call 61; refine (hfn.out _ hB4t).mono ?_; rintro e w3 ⟨rfl, hB3⟩; have hB3t := hB4t.trans (hB3.mono hB4t.size); have b3 := b4.pure hB3; clear d0 d1 d2; have d0 := b3.at 0 rfl; have d1 := b3.at 1 rfl; have d2 := b3.at 2 rfl))
      clear d0 d1 d2
      have b3' := b3
      clear b0 b1 b2 b4
      go_loopw [11] (fun s11 wr => ∃ k : Nat, k ≤ L.length ∧ s11 = .int .i64 k ∧ (∀ j, (h : j < L.length) → j < k → cmpA L[j] (s, (yf, yg, yb), false) < 0) ∧ Below w.heap.size w wr ∧ Blk wr w.heap.size [.int .u32 yf, .string yg, .string yb]) (fun s11 _ => L.length - (intOf s11).toNat)
      case atStart => exact ⟨0, by omega, rfl, fun j h hj => absurd hj (by omega), hB3t, b3⟩
      case round =>
        clear b3 b3'
        obtain ⟨k, hk, rfl, hN, hB, b3⟩ := hrel
        have hN' := Lib.hid hN; clear hN
        have hBs := hB.size
        have hsr := hs.pure hB
        have d0 := b3.at 0 rfl; have d1 := b3.at 1 rfl; have d2 := b3.at 2 rfl
        have hstep := Lib.hid (fun (hk : k < L.length) (h : cmpA L[k] (s, (yf, yg, yb), false) < 0) => show (∀ j, (hj : j < L.length) → j < k + 1 → cmpA L[j] (s, (yf, yg, yb), false) < 0) from fun j hj hjk => by
          rcases Nat.lt_or_ge j k with q | q
          · exact hN'.out j hj q
          · obtain rfl : j = k := by omega
            exact h)
        have hpl := Lib.hid (fun (h : ∀ h : k < L.length, ¬ cmpA L[k] (s, (yf, yg, yb), false) < 0) => place_eq (place_of hr.out hk hN'.out h))
        have ik0 : (0 : Int) ≤ (k : Int) := by omega
        by_cases hlt : k < L.length
        · have ik1 : (k : Int) < (L.length : Int) := by omega
          have hcl := Lib.hid (@cmpA_lt L[k] (s, (yf, yg, yb), false))
          obtain ⟨g, off, rfl⟩ := hsr.addr hlt
          obtain ⟨c0, c1, c2, c3, c4⟩ := asc_cells hsr hlt
          have hxk := Lib.hid (hrow.out.1 L[k] (List.getElem_mem hlt)).2
          by_cases h1 : L[k].1 < s
          · have hst := Lib.hid (hstep.out hlt (hcl.out.2 (Or.inl h1)))
            have h1b : decide (L[k].1 < s) = true := decide_eq_true h1
            go_wp2
            go_quiet (fail)
            go_wp2
            go_roundw
            case rel => exact ⟨k + 1, by omega, by go_num, hst.out, below_drewN hB _, b3.pure (below_drewN (Below.refl _ _) _)⟩
            case measure => simp [intOf]; omega
          · have h1b : decide (L[k].1 < s) = false := decide_eq_false h1
            by_cases h2 : L[k].1 = s
            · have h2b : (L[k].1 == s) = true := by rw [h2]; simp
              by_cases h3 : signX L[k].2.1 (yf, yg, yb) < 0
              · have hst := Lib.hid (hstep.out hlt (hcl.out.2 (Or.inr ⟨h2, h3⟩)))
                have h3b : decide (signX L[k].2.1 (yf, yg, yb) < 0) = true := decide_eq_true h3
                clear h1 h2 h3
                go_wp2
                go_region_held3 (fun w' => w'.cell? ⟨g, off + k * 5, none⟩ = some (.int .u64 L[k].1) ∧ w'.cell? ⟨g, off + k * 5 + 1, none⟩ = some (.int .u32 L[k].2.1.1) ∧ w'.cell? ⟨g, off + k * 5 + 2, none⟩ = some (.string L[k].2.1.2.1) ∧ w'.cell? ⟨g, off + k * 5 + 3, none⟩ = some (.string L[k].2.1.2.2) ∧ w'.cell? ⟨w.heap.size, 0, none⟩ = some (.int .u32 yf) ∧ w'.cell? ⟨w.heap.size, 1, none⟩ = some (.string yg) ∧ w'.cell? ⟨w.heap.size, 2, none⟩ = some (.string yb)) (first | exact ⟨c0, c1, c2, c3, d0, d1, d2⟩ | exact ⟨r0, r1, r2, r3, f0, f1, f2⟩) (first | (go_at_call 74; refine (rcompare _ L[k].2.1 (yf, yg, yb) ?_ ?_ ?_ ?_).mono ?_; (exact Nat.le_trans hxk.out.2.1 (by omega)); (exact Nat.le_trans hxk.out.2.2 (by omega)); (exact Nat.le_trans hxo.out.2.1 (by omega)); (exact Nat.le_trans hxo.out.2.2 (by omega)); rintro e w2 ⟨rfl, hB2⟩; have hs2 := hsr.drew.pure hB2; have hT2 := (below_dr hB).trans (hB2.mono hBs); have e3 := b3.drew.pure hB2; obtain ⟨r0, r1, r2, r3, r4⟩ := asc_cells hs2 hlt; have f0 := e3.at 0 rfl; have f1 := e3.at 1 rfl; have f2 := e3.at 2 rfl))
                go_wp2
                go_roundw
                case rel => exact ⟨k + 1, by omega, by go_num, hst.out, hT2, e3⟩
                case measure => simp [intOf]; omega
              · have hp := Lib.hid (hpl.out (fun h q => by rcases hcl.out.1 q with q | q; exact h1 q; exact h3 q.2))
                have h3b : decide (signX L[k].2.1 (yf, yg, yb) < 0) = false := decide_eq_false h3
                clear h1 h2 h3
                go_wp2
                go_region_held3 (fun w' => w'.cell? ⟨g, off + k * 5, none⟩ = some (.int .u64 L[k].1) ∧ w'.cell? ⟨g, off + k * 5 + 1, none⟩ = some (.int .u32 L[k].2.1.1) ∧ w'.cell? ⟨g, off + k * 5 + 2, none⟩ = some (.string L[k].2.1.2.1) ∧ w'.cell? ⟨g, off + k * 5 + 3, none⟩ = some (.string L[k].2.1.2.2) ∧ w'.cell? ⟨w.heap.size, 0, none⟩ = some (.int .u32 yf) ∧ w'.cell? ⟨w.heap.size, 1, none⟩ = some (.string yg) ∧ w'.cell? ⟨w.heap.size, 2, none⟩ = some (.string yb)) (first | exact ⟨c0, c1, c2, c3, d0, d1, d2⟩ | exact ⟨r0, r1, r2, r3, f0, f1, f2⟩) (first | (go_at_call 74; refine (rcompare _ L[k].2.1 (yf, yg, yb) ?_ ?_ ?_ ?_).mono ?_; (exact Nat.le_trans hxk.out.2.1 (by omega)); (exact Nat.le_trans hxk.out.2.2 (by omega)); (exact Nat.le_trans hxo.out.2.1 (by omega)); (exact Nat.le_trans hxo.out.2.2 (by omega)); rintro e w2 ⟨rfl, hB2⟩; have hs2 := hsr.drew.pure hB2; have hT2 := (below_dr hB).trans (hB2.mono hBs); have e3 := b3.drew.pure hB2; obtain ⟨r0, r1, r2, r3, r4⟩ := asc_cells hs2 hlt; have f0 := e3.at 0 rfl; have f1 := e3.at 1 rfl; have f2 := e3.at 2 rfl))
                have hBx : Below w.heap.size w w2 := hT2
                have hSx : Slc ascEnc 5 w2 _ L := hs2
                have hKx : Blk w2 w.heap.size [.int .u32 yf, .string yg, .string yb] := e3
                obtain ⟨M, hM0⟩ : ∃ M, M = L.take k := ⟨_, rfl⟩
                have hMk : M.length ≤ k := by rw [hM0, List.length_take]; omega
                have hM := Lib.hid hM0; clear hM0
                have hcp := Lib.hid (fun (v1 : Value) (h : Slc ascEnc 5 w2 v1 M) => rcopy w2 v1 M h (by omega))
                go_wp2_with (first | (refine wpList_slc_h (x := .tmp 66) (y := .tmp 67) (u := k) rfl rfl elem_asc rfl hSx rfl (by rfl) (by omega) ?_; intro v1 hs1; rw [← hM.out] at hs1) | (go_at_call 46; refine (hcp.out v1 hs1).mono ?_; rintro e w5 ⟨r, rfl, hO, hB5⟩; have hB5t := hBx.trans (hB5.mono hBx.size); have hS5 := hSx.pure hB5; have b5 := hKx.pure hB5; clear d0 d1 d2; have d0 := b5.at 0 rfl; have d1 := b5.at 1 rfl; have d2 := b5.at 2 rfl) | (at_builtin; refine wpList_app1 rfl (.tmp 70) (.tmp 74) 23 57 rfl elem_asc ascEnc_len ascEnc_one r M rfl (hO.alloc _) w5.heap.size 1 (s, (yf, yg, yb), false) rfl (fun j u hu => ((Blk.new w5 (ascEnc (s, (yf, yg, yb), false)) 57).cell j).trans hu) (by omega) (by unfold maxLen; omega) (Nat.le_trans hB5.size (by simp)) ?_; intro g6 cap6 w6 hown hgr hfr; have hBA := hB5t.alloc hB5t.size (.cells (ascEnc (s, (yf, yg, yb), false)).toArray 57); have hB6 := hBA.grown hgr hBA.size (fun j e => Nat.le_trans hBx.size (hO.ge e)); have hS6 := hs.pure hB6) | (refine wpList_slc_l (x := .tmp 77) (y := .tmp 78) (l := k) rfl rfl elem_asc rfl hS6 rfl (by rfl) (by omega) ?_; intro v2 hs2) | (at_builtin; refine wpList_app rfl (.tmp 76) (.tmp 79) 23 57 rfl elem_asc ascEnc_len ascEnc_one _ (M ++ [(s, (yf, yg, yb), false)]) rfl hown v2 (L.drop k) rfl hs2 (by unfold maxLen; simp; omega) (by simp; omega) (Nat.le_trans hB5.size (Nat.le_trans (by simp) hgr.size)) ?_; intro v' w7 hown7 hgr7 hfr7 hsh7))
                go_ret2
                refine ⟨_, rfl, ?_, hB6.grown hgr7 hB6.size (fun j e => Nat.le_trans hBx.size (hown.ge e))⟩
                rw [hp.out]
                unfold insA
                rw [← hM.out]
                rw [List.append_assoc] at hown7
                exact hown7.rebase (fun j hj => Nat.le_trans hBx.size (hown7.ge hj))
            · have h2b : (L[k].1 == s) = false := beq_eq_false_iff_ne.2 h2
              have hp := Lib.hid (hpl.out (fun h q => by rcases hcl.out.1 q with q | q; exact h1 q; exact h2 q.1))
              clear h1 h2
              go_wp2
              go_quiet (fail)
              have hBx : Below w.heap.size w (wr.drewN nq) := below_drewN hB _
              have hSx : Slc ascEnc 5 (wr.drewN nq) _ L := slc_drewN hsr _
              have hKx : Blk (wr.drewN nq) w.heap.size [.int .u32 yf, .string yg, .string yb] := b3.pure (below_drewN (Below.refl _ _) _)
              obtain ⟨M, hM0⟩ : ∃ M, M = L.take k := ⟨_, rfl⟩
              have hMk : M.length ≤ k := by rw [hM0, List.length_take]; omega
              have hM := Lib.hid hM0; clear hM0
              have hcp := Lib.hid (fun (v1 : Value) (h : Slc ascEnc 5 (wr.drewN nq) v1 M) => rcopy (wr.drewN nq) v1 M h (by omega))
              go_wp2_with (first | (refine wpList_slc_h (x := .tmp 66) (y := .tmp 67) (u := k) rfl rfl elem_asc rfl hSx rfl (by rfl) (by omega) ?_; intro v1 hs1; rw [← hM.out] at hs1) | (go_at_call 46; refine (hcp.out v1 hs1).mono ?_; rintro e w5 ⟨r, rfl, hO, hB5⟩; have hB5t := hBx.trans (hB5.mono hBx.size); have hS5 := hSx.pure hB5; have b5 := hKx.pure hB5; clear d0 d1 d2; have d0 := b5.at 0 rfl; have d1 := b5.at 1 rfl; have d2 := b5.at 2 rfl) | (at_builtin; refine wpList_app1 rfl (.tmp 70) (.tmp 74) 23 57 rfl elem_asc ascEnc_len ascEnc_one r M rfl (hO.alloc _) w5.heap.size 1 (s, (yf, yg, yb), false) rfl (fun j u hu => ((Blk.new w5 (ascEnc (s, (yf, yg, yb), false)) 57).cell j).trans hu) (by omega) (by unfold maxLen; omega) (Nat.le_trans hB5.size (by simp)) ?_; intro g6 cap6 w6 hown hgr hfr; have hBA := hB5t.alloc hB5t.size (.cells (ascEnc (s, (yf, yg, yb), false)).toArray 57); have hB6 := hBA.grown hgr hBA.size (fun j e => Nat.le_trans hBx.size (hO.ge e)); have hS6 := hs.pure hB6) | (refine wpList_slc_l (x := .tmp 77) (y := .tmp 78) (l := k) rfl rfl elem_asc rfl hS6 rfl (by rfl) (by omega) ?_; intro v2 hs2) | (at_builtin; refine wpList_app rfl (.tmp 76) (.tmp 79) 23 57 rfl elem_asc ascEnc_len ascEnc_one _ (M ++ [(s, (yf, yg, yb), false)]) rfl hown v2 (L.drop k) rfl hs2 (by unfold maxLen; simp; omega) (by simp; omega) (Nat.le_trans hB5.size (Nat.le_trans (by simp) hgr.size)) ?_; intro v' w7 hown7 hgr7 hfr7 hsh7))
              go_ret2
              refine ⟨_, rfl, ?_, hB6.grown hgr7 hB6.size (fun j e => Nat.le_trans hBx.size (hown.ge e))⟩
              rw [hp.out]
              unfold insA
              rw [← hM.out]
              rw [List.append_assoc] at hown7
              exact hown7.rebase (fun j hj => Nat.le_trans hBx.size (hown7.ge hj))
        · have hkl : decide (k < L.length) = false := decide_eq_false hlt
          have hp := Lib.hid (hpl.out (fun h => absurd h hlt))
          go_wp2
          go_quiet (fail)
          have hBx : Below w.heap.size w (wr.drewN nq) := below_drewN hB _
          have hSx : Slc ascEnc 5 (wr.drewN nq) _ L := slc_drewN hsr _
          have hKx : Blk (wr.drewN nq) w.heap.size [.int .u32 yf, .string yg, .string yb] := b3.pure (below_drewN (Below.refl _ _) _)
          obtain ⟨M, hM0⟩ : ∃ M, M = L.take k := ⟨_, rfl⟩
          have hMk : M.length ≤ k := by rw [hM0, List.length_take]; omega
          have hM := Lib.hid hM0; clear hM0
          have hcp := Lib.hid (fun (v1 : Value) (h : Slc ascEnc 5 (wr.drewN nq) v1 M) => rcopy (wr.drewN nq) v1 M h (by omega))
          go_wp2_with (first | (refine wpList_slc_h (x := .tmp 66) (y := .tmp 67) (u := k) rfl rfl elem_asc rfl hSx rfl (by rfl) (by omega) ?_; intro v1 hs1; rw [← hM.out] at hs1) | (go_at_call 46; refine (hcp.out v1 hs1).mono ?_; rintro e w5 ⟨r, rfl, hO, hB5⟩; have hB5t := hBx.trans (hB5.mono hBx.size); have hS5 := hSx.pure hB5; have b5 := hKx.pure hB5; clear d0 d1 d2; have d0 := b5.at 0 rfl; have d1 := b5.at 1 rfl; have d2 := b5.at 2 rfl) | (at_builtin; refine wpList_app1 rfl (.tmp 70) (.tmp 74) 23 57 rfl elem_asc ascEnc_len ascEnc_one r M rfl (hO.alloc _) w5.heap.size 1 (s, (yf, yg, yb), false) rfl (fun j u hu => ((Blk.new w5 (ascEnc (s, (yf, yg, yb), false)) 57).cell j).trans hu) (by omega) (by unfold maxLen; omega) (Nat.le_trans hB5.size (by simp)) ?_; intro g6 cap6 w6 hown hgr hfr; have hBA := hB5t.alloc hB5t.size (.cells (ascEnc (s, (yf, yg, yb), false)).toArray 57); have hB6 := hBA.grown hgr hBA.size (fun j e => Nat.le_trans hBx.size (hO.ge e)); have hS6 := hs.pure hB6) | (refine wpList_slc_l (x := .tmp 77) (y := .tmp 78) (l := k) rfl rfl elem_asc rfl hS6 rfl (by rfl) (by omega) ?_; intro v2 hs2) | (at_builtin; refine wpList_app rfl (.tmp 76) (.tmp 79) 23 57 rfl elem_asc ascEnc_len ascEnc_one _ (M ++ [(s, (yf, yg, yb), false)]) rfl hown v2 (L.drop k) rfl hs2 (by unfold maxLen; simp; omega) (by simp; omega) (Nat.le_trans hB5.size (Nat.le_trans (by simp) hgr.size)) ?_; intro v' w7 hown7 hgr7 hfr7 hsh7))
          go_ret2
          refine ⟨_, rfl, ?_, hB6.grown hgr7 hB6.size (fun j e => Nat.le_trans hBx.size (hown.ge e))⟩
          rw [hp.out]
          unfold insA
          rw [← hM.out]
          rw [List.append_assoc] at hown7
          exact hown7.rebase (fun j hj => Nat.le_trans hBx.size (hown7.ge hj))
  · have hzb : (c != 0) = true := bne_iff_ne.2 hz
    rw [if_neg hz]
    obtain ⟨a, n, cap, rfl⟩ := hs.shape3
    clear hs hz hc
    go_enter Try.func60, Try.ntmps60
    go_wp2_with (go_at_call 107; refine hm'.out.mono ?_; rintro e w1 ⟨rfl, hB1⟩; have hB1t := hB0.trans (hB1.mono (by simp)); have b1 := b0.pure hB1; have d0 := b1.at 0 rfl; have d1 := b1.at 1 rfl; have d2 := b1.at 2 rfl)
    go_ret2
    exact ⟨_, rfl, Own.nil, hB1t⟩
end Go.Proofs.Ytcelpincmpjhkaa
