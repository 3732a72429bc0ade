/- Document's side of chapter 18: Suspend, End, Resume, Start. Conditions: at most a million. Written by gen_rturns2.py. -/
import Derived.Test.YtfjpdikaodojhaaAssocS
namespace Go.Proofs.Ytfjpdikaodojhaa
open Go.RowKit
set_option linter.unusedVariables false
theorem place_of {L : List Asc} {t : Asc} {i : Nat} (hr : Rises L) (h0 : i ≤ L.length) (h1 : ∀ j, (h : j < L.length) → j < i → cmpA L[j] t < 0) (h2 : ∀ h : i < L.length, ¬ cmpA L[i] t < 0) : PlaceA L t i := by
  refine ⟨h0, h1, fun j h hij => ?_⟩
  have hi : i < L.length := by omega
  rcases Int.lt_or_le (cmpA L[j] t) 0 with q | q
  · exact absurd (cmpA_le_lt (rises_le hr hi h hij) q) (h2 hi)
  · exact q


set_option maxRecDepth 100000 in
set_option maxHeartbeats 3200000 in
theorem rsuspend_any (w : World) (v : Value) (L : List Asc) (s : Int) (y : Xid) (hs : Slc ascEnc 5 w v L) (hL : L.length ≤ 1000000) :
    Calls Try.prog 28 #[v, .int .u64 s, .agg #[.int .u32 y.1, .string y.2.1, .string y.2.2]] w (TurnPost w (suspendF L s y)) := by
  obtain ⟨yf, yg, yb⟩ := y
  simp only
  have hB0 := (Below.refl w.heap.size w).alloc (Nat.le_refl _) (.cells #[.int .u32 yf, .string yg, .string yb] 26)
  have b0 := Blk.new w [.int .u32 yf, .string yg, .string yb] 26
  have hm := rmay_any (w.alloc (.cells #[.int .u32 yf, .string yg, .string yb] 26)) v L s (yf, yg, yb) (hs.pure hB0) hL
  unfold suspendF
  obtain ⟨c, hc⟩ : ∃ c, c = mayN L s (yf, yg, yb) := ⟨_, rfl⟩
  rw [← hc] at hm ⊢
  have hm' := Lib.hid hm; clear hm
  by_cases hz : c = 0
  · rw [hz] at hm' hc
    have hzb : (c != 0) = false := by rw [hz]; rfl
    rw [if_pos hz]
    obtain ⟨h1, hs0, hx0⟩ := may_zero hc.symm
    have hr := Lib.hid h1.rises
    have hrow := Lib.hid h1
    have hxo := Lib.hid hx0
    clear hc hz hs0 hx0 h1
    rcases Classical.em (Mem L s (yf, yg, yb)) with hm | hm
    · obtain ⟨k, hk, he⟩ := hm
      rw [idx_yes hr.out hk he]
      have he' := Lib.hid he; clear he
      have hgd : L.getD k (0, noX, false) = L[k] := by rw [List.getD_eq_getElem?_getD, List.getElem?_eq_getElem hk]; rfl
      simp only [hgd]
      clear hgd
      obtain ⟨z, hz⟩ : ∃ z, z = L[k].2.2 := ⟨_, rfl⟩
      rw [← hz]
      obtain ⟨a, cap, rfl, hm⟩ := hs.len
      obtain ⟨g, off, rfl⟩ := hs.addr hk
      unfold maxLen at hm
      have hfn := Lib.hid (fun (w1 : World) (h : Below w.heap.size w w1) => rfind_yes w1 _ L s (yf, yg, yb) k (hs.pure h) hr.out hL hk he'.out)
      have hsf := Lib.hid (fun (w1 : World) (h : Below w.heap.size w w1) => hz ▸ (asc_cells (hs.pure h) hk).2.2.2.2)
      have hcp := Lib.hid (fun (w1 : World) (h : Below w.heap.size w w1) => rcopy w1 _ L (hs.pure h) hL)
      clear hz hs
      cases z
      · have hdum := True.intro
        go_enter Try.func28, Try.ntmps28
        go_wp2_with (first | (go_at_call 41; refine hm'.out.mono ?_; rintro e w1 ⟨rfl, hB1⟩; have hB1t := hB0.trans (hB1.mono (by simp)); have b1 := b0.pure hB1; have d0 := b1.at 0 rfl; have d1 := b1.at 1 rfl; have d2 := b1.at 2 rfl) | (go_at_call 12; refine (hfn.out _ hB1t).mono ?_; rintro e w3 ⟨rfl, hB3⟩; have hB3t := hB1t.trans (hB3.mono hB1t.size); have b3 := b1.pure hB3; clear d0 d1 d2; have d0 := b3.at 0 rfl; have d1 := b3.at 1 rfl; have d2 := b3.at 2 rfl; have c4 := hsf.out _ hB3t) | (go_at_call 17; refine (hcp.out _ hB3t).mono ?_; rintro e w5 ⟨r, rfl, hO, hB5⟩; have hB5t := hB3t.trans (hB5.mono hB3t.size); obtain ⟨g2, c2, rfl, hg2, hgl2⟩ := hO.shape (fun e => by rw [e] at hk; simp at hk); have cc4 := (asc_cells (hO.slc ascEnc_len) hk).2.2.2.2; have zz4 := hO.frozen (k * 5 + 4); simp only [Nat.zero_add] at cc4))
        go_ret2
        refine ⟨_, rfl, ?_, below_set hB5t (Nat.le_trans hB3t.size hg2) _ _⟩
        simp only [Bool.false_eq_true, if_false]
        rw [suspA_eq hk]
        have := (hO.set ascEnc_len k hk 4 (.bool true) (L[k].susp true) (by omega) rfl).rebase (b' := w.heap.size) (fun j hj => by simp only [Value.ownBlock, Option.map, Option.some.injEq] at hj; have := hB3t.size; omega)
        simpa using this
      · have hdum := True.intro
        go_enter Try.func28, Try.ntmps28
        go_wp2_with (first | (go_at_call 41; refine hm'.out.mono ?_; rintro e w1 ⟨rfl, hB1⟩; have hB1t := hB0.trans (hB1.mono (by simp)); have b1 := b0.pure hB1; have d0 := b1.at 0 rfl; have d1 := b1.at 1 rfl; have d2 := b1.at 2 rfl) | (go_at_call 12; refine (hfn.out _ hB1t).mono ?_; rintro e w3 ⟨rfl, hB3⟩; have hB3t := hB1t.trans (hB3.mono hB1t.size); have b3 := b1.pure hB3; clear d0 d1 d2; have d0 := b3.at 0 rfl; have d1 := b3.at 1 rfl; have d2 := b3.at 2 rfl; have c4 := hsf.out _ hB3t))
        go_ret2
        exact ⟨_, rfl, Own.nil, hB3t⟩
    · rw [idx_no hm]
      have hfn := Lib.hid (fun (w1 : World) (h : Below w.heap.size w w1) => rfind_no w1 v L s (yf, yg, yb) (hs.pure h) hL hm)
      obtain ⟨a, n, cap, rfl⟩ := hs.shape3
      clear hs hm
      go_enter Try.func28, Try.ntmps28
      go_wp2_with (first | (go_at_call 41; refine hm'.out.mono ?_; rintro e w1 ⟨rfl, hB1⟩; have hB1t := hB0.trans (hB1.mono (by simp)); have b1 := b0.pure hB1; have d0 := b1.at 0 rfl; have d1 := b1.at 1 rfl; have d2 := b1.at 2 rfl) | (go_at_call 12; refine (hfn.out _ hB1t).mono ?_; rintro e w3 ⟨rfl, hB3⟩; have hB3t := hB1t.trans (hB3.mono hB1t.size); have b3 := b1.pure hB3; clear d0 d1 d2; have d0 := b3.at 0 rfl; have d1 := b3.at 1 rfl; have d2 := b3.at 2 rfl))
      go_ret2
      exact ⟨_, rfl, Own.nil, hB3t⟩
  · have hzb : (c != 0) = true := bne_iff_ne.2 hz
    rw [if_neg hz]
    obtain ⟨a, n, cap, rfl⟩ := hs.shape3
    clear hs hz hc
    go_enter Try.func28, Try.ntmps28
    go_wp2_with (go_at_call 41; refine hm'.out.mono ?_; rintro e w1 ⟨rfl, hB1⟩; have hB1t := hB0.trans (hB1.mono (by simp)); have b1 := b0.pure hB1; have d0 := b1.at 0 rfl; have d1 := b1.at 1 rfl; have d2 := b1.at 2 rfl)
    go_ret2
    exact ⟨_, rfl, Own.nil, hB1t⟩

set_option maxRecDepth 100000 in
set_option maxHeartbeats 3200000 in
theorem rend_any (w : World) (v : Value) (L : List Asc) (s : Int) (y : Xid) (hs : Slc ascEnc 5 w v L) (hL : L.length ≤ 1000000) :
    Calls Try.prog 30 #[v, .int .u64 s, .agg #[.int .u32 y.1, .string y.2.1, .string y.2.2]] w (TurnPost w (endF L s y)) := by
  obtain ⟨yf, yg, yb⟩ := y
  simp only
  have hB0 := (Below.refl w.heap.size w).alloc (Nat.le_refl _) (.cells #[.int .u32 yf, .string yg, .string yb] 26)
  have b0 := Blk.new w [.int .u32 yf, .string yg, .string yb] 26
  have hm := rmay_any (w.alloc (.cells #[.int .u32 yf, .string yg, .string yb] 26)) v L s (yf, yg, yb) (hs.pure hB0) hL
  unfold endF
  obtain ⟨c, hc⟩ : ∃ c, c = mayN L s (yf, yg, yb) := ⟨_, rfl⟩
  rw [← hc] at hm ⊢
  have hm' := Lib.hid hm; clear hm
  by_cases hz : c = 0
  · rw [hz] at hm' hc
    have hzb : (c != 0) = false := by rw [hz]; rfl
    rw [if_pos hz]
    obtain ⟨h1, hs0, hx0⟩ := may_zero hc.symm
    have hr := Lib.hid h1.rises
    have hrow := Lib.hid h1
    have hxo := Lib.hid hx0
    clear hc hz hs0 hx0 h1
    rcases Classical.em (Mem L s (yf, yg, yb)) with hm | hm
    · obtain ⟨k, hk, he⟩ := hm
      rw [idx_yes hr.out hk he]
      have he' := Lib.hid he; clear he
      obtain ⟨a, cap, rfl, hm⟩ := hs.len
      unfold maxLen at hm
      have hfn := Lib.hid (fun (w1 : World) (h : Below w.heap.size w w1) => rfind_yes w1 _ L s (yf, yg, yb) k (hs.pure h) hr.out hL hk he'.out)
      have hcp := Lib.hid (fun (w1 : World) (v1 : Value) (h : Slc ascEnc 5 w1 v1 (L.take k)) => rcopy w1 v1 (L.take k) h (by rw [List.length_take]; omega))
      have hss := Lib.hid hs
      clear hs
      go_enter Try.func30, Try.ntmps30
      go_wp2_with (first | (go_at_call 41; refine hm'.out.mono ?_; rintro e w1 ⟨rfl, hB1⟩; have hB1t := hB0.trans (hB1.mono (by simp)); have b1 := b0.pure hB1; have d0 := b1.at 0 rfl; have d1 := b1.at 1 rfl; have d2 := b1.at 2 rfl) | (go_at_call 12; refine (hfn.out _ hB1t).mono ?_; rintro e w3 ⟨rfl, hB3⟩; have hB3t := hB1t.trans (hB3.mono hB1t.size); have b3 := b1.pure hB3; clear d0 d1 d2; have d0 := b3.at 0 rfl; have d1 := b3.at 1 rfl; have d2 := b3.at 2 rfl; have hS3 := hss.out.pure hB3t) | (refine wpList_slc_h (x := .tmp 24) (y := .tmp 25) (u := k) rfl rfl elem_asc rfl hS3 rfl (by rfl) (by omega) ?_; intro v1 hs1) | (go_at_call 17; refine (hcp.out _ v1 hs1).mono ?_; rintro e w5 ⟨r, rfl, hO, hB5⟩; have hB5t := hB3t.trans (hB5.mono hB3t.size); have hS5 := hS3.pure hB5) | (refine wpList_slc_l (x := .tmp 29) (y := .tmp 31) (l := k + 1) rfl rfl elem_asc rfl hS5 rfl (by simp) (by omega) ?_; intro v2 hs2) | (at_builtin; refine wpList_app rfl (.tmp 28) (.tmp 32) 22 37 rfl elem_asc ascEnc_len ascEnc_one r (L.take k) rfl hO v2 (L.drop (k + 1)) rfl hs2 (by unfold maxLen; rw [List.length_take, List.length_drop]; omega) (by rw [List.length_take, List.length_drop]; omega) hB5.size ?_; intro v' w6 hown hgr hfr hsh))
      go_ret2
      refine ⟨_, rfl, ?_, hB5t.grown hgr hB5t.size (fun j e => Nat.le_trans hB3t.size (hO.ge e))⟩
      rw [List.eraseIdx_eq_take_drop_succ]
      exact hown.rebase (fun j hj => Nat.le_trans hB3t.size (hown.ge hj))
    · rw [idx_no hm]
      have hfn := Lib.hid (fun (w1 : World) (h : Below w.heap.size w w1) => rfind_no w1 v L s (yf, yg, yb) (hs.pure h) hL hm)
      obtain ⟨a, n, cap, rfl⟩ := hs.shape3
      clear hs hm
      go_enter Try.func30, Try.ntmps30
      go_wp2_with (first | (go_at_call 41; refine hm'.out.mono ?_; rintro e w1 ⟨rfl, hB1⟩; have hB1t := hB0.trans (hB1.mono (by simp)); have b1 := b0.pure hB1; have d0 := b1.at 0 rfl; have d1 := b1.at 1 rfl; have d2 := b1.at 2 rfl) | (go_at_call 12; refine (hfn.out _ hB1t).mono ?_; rintro e w3 ⟨rfl, hB3⟩; have hB3t := hB1t.trans (hB3.mono hB1t.size); have b3 := b1.pure hB3; clear d0 d1 d2; have d0 := b3.at 0 rfl; have d1 := b3.at 1 rfl; have d2 := b3.at 2 rfl))
      go_ret2
      exact ⟨_, rfl, Own.nil, hB3t⟩
  · have hzb : (c != 0) = true := bne_iff_ne.2 hz
    rw [if_neg hz]
    obtain ⟨a, n, cap, rfl⟩ := hs.shape3
    clear hs hz hc
    go_enter Try.func30, Try.ntmps30
    go_wp2_with (go_at_call 41; refine hm'.out.mono ?_; rintro e w1 ⟨rfl, hB1⟩; have hB1t := hB0.trans (hB1.mono (by simp)); have b1 := b0.pure hB1; have d0 := b1.at 0 rfl; have d1 := b1.at 1 rfl; have d2 := b1.at 2 rfl)
    go_ret2
    exact ⟨_, rfl, Own.nil, hB1t⟩

set_option maxRecDepth 100000 in
set_option maxHeartbeats 3200000 in
theorem rresume_any (w : World) (v : Value) (L : List Asc) (s : Int) (y : Xid) (hs : Slc ascEnc 5 w v L) (hL : L.length ≤ 1000000) :
    Calls Try.prog 26 #[v, .int .u64 s, .agg #[.int .u32 y.1, .string y.2.1, .string y.2.2]] w (TurnPost w (resumeF L s y)) := by
  obtain ⟨yf, yg, yb⟩ := y
  simp only
  have hB0 := (Below.refl w.heap.size w).alloc (Nat.le_refl _) (.cells #[.int .u32 yf, .string yg, .string yb] 26)
  have b0 := Blk.new w [.int .u32 yf, .string yg, .string yb] 26
  have hm := rmay_any (w.alloc (.cells #[.int .u32 yf, .string yg, .string yb] 26)) v L s (yf, yg, yb) (hs.pure hB0) hL
  unfold resumeF
  obtain ⟨c, hc⟩ : ∃ c, c = mayN L s (yf, yg, yb) := ⟨_, rfl⟩
  rw [← hc] at hm ⊢
  have hm' := Lib.hid hm; clear hm
  by_cases hz : c = 0
  · rw [hz] at hm' hc
    have hzb : (c != 0) = false := by rw [hz]; rfl
    rw [if_pos hz]
    obtain ⟨h1, hs0, hx0⟩ := may_zero hc.symm
    have hr := Lib.hid h1.rises
    have hrow := Lib.hid h1
    have hxo := Lib.hid hx0
    clear hc hz hs0 hx0 h1
    have hac := Lib.hid (fun (w1 : World) (h : Below w.heap.size w w1) => ractive_any w1 v L s (hs.pure h) hL)
    obtain ⟨o, ho⟩ : ∃ o, o = actA L s := ⟨_, rfl⟩
    rw [← ho] at hac ⊢
    clear ho
    obtain ⟨⟨xf, xg, xb⟩, hxx⟩ : ∃ x, x = optX o := ⟨_, rfl⟩
    rw [← hxx] at hac
    clear hxx
    obtain ⟨is, his⟩ : ∃ is, is = o.isSome := ⟨_, rfl⟩
    rw [← his] at hac ⊢
    clear his o
    cases is
    rotate_left 1
    · rw [if_pos rfl]
      obtain ⟨a, n, cap, rfl⟩ := hs.shape3
      clear hs
      go_enter Try.func26, Try.ntmps26
      go_wp2_with (first | (go_at_call 41; refine hm'.out.mono ?_; rintro e w1 ⟨rfl, hB1⟩; have hB1t := hB0.trans (hB1.mono (by simp)); have b1 := b0.pure hB1; have d0 := b1.at 0 rfl; have d1 := b1.at 1 rfl; have d2 := b1.at 2 rfl) | (go_at_call 10; refine (hac.out _ hB1t).mono ?_; rintro e w2 ⟨rfl, hB2⟩; have hB2t := hB1t.trans (hB2.mono hB1t.size); have b2 := b1.pure hB2; have hB4t := hB2t.alloc hB2t.size (.cells #[.int .u32 xf, .string xg, .string xb] 26); have b4 := b2.alloc (.cells #[.int .u32 xf, .string xg, .string xb] 26); clear d0 d1 d2; have d0 := b4.at 0 rfl; have d1 := b4.at 1 rfl; have d2 := b4.at 2 rfl))
      go_ret2
      exact ⟨_, rfl, Own.nil, hB4t⟩
    rw [if_neg (by simp)]
    rcases Classical.em (Mem L s (yf, yg, yb)) with hm | hm
    · obtain ⟨k, hk, he⟩ := hm
      rw [idx_yes hr.out hk he]
      have he' := Lib.hid he; clear he
      obtain ⟨a, cap, rfl, hm⟩ := hs.len
      unfold maxLen at hm
      have hfn := Lib.hid (fun (w1 : World) (h : Below w.heap.size w w1) => rfind_yes w1 _ L s (yf, yg, yb) k (hs.pure h) hr.out hL hk he'.out)
      have hcp := Lib.hid (fun (w1 : World) (h : Below w.heap.size w w1) => rcopy w1 _ L (hs.pure h) hL)
      clear hs
      go_enter Try.func26, Try.ntmps26
      go_wp2_with (first | (go_at_call 41; refine hm'.out.mono ?_; rintro e w1 ⟨rfl, hB1⟩; have hB1t := hB0.trans (hB1.mono (by simp)); have b1 := b0.pure hB1; have d0 := b1.at 0 rfl; have d1 := b1.at 1 rfl; have d2 := b1.at 2 rfl) | (go_at_call 10; refine (hac.out _ hB1t).mono ?_; rintro e w2 ⟨rfl, hB2⟩; have hB2t := hB1t.trans (hB2.mono hB1t.size); have b2 := b1.pure hB2; have hB4t := hB2t.alloc hB2t.size (.cells #[.int .u32 xf, .string xg, .string xb] 26); have b4 := b2.alloc (.cells #[.int .u32 xf, .string xg, .string xb] 26); clear d0 d1 d2; have d0 := b4.at 0 rfl; have d1 := b4.at 1 rfl; have d2 := b4.at 2 rfl) | (go_at_call 12; refine (hfn.out _ hB4t).mono ?_; rintro e w3 ⟨rfl, hB3⟩; have hB3t := hB4t.trans (hB3.mono hB4t.size); have b3 := b4.pure hB3; clear d0 d1 d2; have d0 := b3.at 0 rfl; have d1 := b3.at 1 rfl; have d2 := b3.at 2 rfl) | (go_at_call 17; refine (hcp.out _ hB3t).mono ?_; rintro e w5 ⟨r, rfl, hO, hB5⟩; have hB5t := hB3t.trans (hB5.mono hB3t.size); obtain ⟨g2, c2, rfl, hg2, hgl2⟩ := hO.shape (fun e => by rw [e] at hk; simp at hk); have cc4 := (asc_cells (hO.slc ascEnc_len) hk).2.2.2.2; have zz4 := hO.frozen (k * 5 + 4); simp only [Nat.zero_add] at cc4))
      go_ret2
      refine ⟨_, rfl, ?_, below_set hB5t (Nat.le_trans hB3t.size hg2) _ _⟩
      simp only []
      rw [suspA_eq hk]
      have := (hO.set ascEnc_len k hk 4 (.bool false) (L[k].susp false) (by omega) rfl).rebase (b' := w.heap.size) (fun j hj => by simp only [Value.ownBlock, Option.map, Option.some.injEq] at hj; have := hB3t.size; omega)
      simpa using this
    · rw [idx_no hm]
      have hfn := Lib.hid (fun (w1 : World) (h : Below w.heap.size w w1) => rfind_no w1 v L s (yf, yg, yb) (hs.pure h) hL hm)
      obtain ⟨a, n, cap, rfl⟩ := hs.shape3
      clear hs hm
      go_enter Try.func26, Try.ntmps26
      go_wp2_with (first | (go_at_call 41; refine hm'.out.mono ?_; rintro e w1 ⟨rfl, hB1⟩; have hB1t := hB0.trans (hB1.mono (by simp)); have b1 := b0.pure hB1; have d0 := b1.at 0 rfl; have d1 := b1.at 1 rfl; have d2 := b1.at 2 rfl) | (go_at_call 10; refine (hac.out _ hB1t).mono ?_; rintro e w2 ⟨rfl, hB2⟩; have hB2t := hB1t.trans (hB2.mono hB1t.size); have b2 := b1.pure hB2; have hB4t := hB2t.alloc hB2t.size (.cells #[.int .u32 xf, .string xg, .string xb] 26); have b4 := b2.alloc (.cells #[.int .u32 xf, .string xg, .string xb] 26); clear d0 d1 d2; have d0 := b4.at 0 rfl; have d1 := b4.at 1 rfl; have d2 := b4.at 2 rfl) | (go_at_call 12; refine (hfn.out _ hB4t).mono ?_; rintro e w3 ⟨rfl, hB3⟩; have hB3t := hB4t.trans (hB3.mono hB4t.size); have b3 := b4.pure hB3; clear d0 d1 d2; have d0 := b3.at 0 rfl; have d1 := b3.at 1 rfl; have d2 := b3.at 2 rfl))
      go_ret2
      exact ⟨_, rfl, Own.nil, hB3t⟩
  · have hzb : (c != 0) = true := bne_iff_ne.2 hz
    rw [if_neg hz]
    obtain ⟨a, n, cap, rfl⟩ := hs.shape3
    clear hs hz hc
    go_enter Try.func26, Try.ntmps26
    go_wp2_with (go_at_call 41; refine hm'.out.mono ?_; rintro e w1 ⟨rfl, hB1⟩; have hB1t := hB0.trans (hB1.mono (by simp)); have b1 := b0.pure hB1; have d0 := b1.at 0 rfl; have d1 := b1.at 1 rfl; have d2 := b1.at 2 rfl)
    go_ret2
    exact ⟨_, rfl, Own.nil, hB1t⟩
end Go.Proofs.Ytfjpdikaodojhaa
