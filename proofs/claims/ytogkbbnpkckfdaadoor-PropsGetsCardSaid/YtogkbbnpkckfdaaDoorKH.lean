/- The document's reader of values: lists. Conditions: at most 200 values are left. Written by gen_getF.py. (Texts joined; the heads of the others stand below.) -/
import Derived.Test.YtogkbbnpkckfdaaDoorGetG

/- The document's reader of values: maps. Conditions: at most 200 values are left. Written by gen_getF.py. -/
namespace Go.Proofs.YtogkbbnpkckfdaaDoor
set_option linter.unusedSimpArgs false
set_option linter.unusedVariables false
open Go.RowKit

theorem DSt.whole {w0 w w' : World} {rb xb : Nat} {k : Int} {b : List UInt8} {bad : Bool} {kv lv : Value} {ks : List ByteArray} {L : List VT} {S : Nat → Prop} (h : DSt w0 rb xb k w b bad kv lv ks L) (hu : Upd S w w') (hS : ∀ i, S i → i < w0.heap.size) (h0 : 0 ≤ k) (h1 : k < 256) : Rd (fun i => w0.heap.size ≤ i) w' (.mk k 0 ⟨#[]⟩ kv lv ks L) :=
  .mk ((h.ko.upd hu (fun i hi e => by have h2 := h.ko.ge hi; have h3 := hS i e; omega)).slc strEnc_len) (fun _ i hi => h.ko.ge hi) ((h.lo.upd hu (fun i hi e => by have h2 := h.lo.ge hi; have h3 := hS i e; omega)).slc vEnc_len) (fun _ i hi => h.lo.ge hi)
    (fun x hx => ((h.rd x hx).upd hu (fun i hi e => by have h2 := hi.1; have h3 := hS i e; omega)).weaken (fun i _ hi => hi.1)) (by show (0 : Int) ≤ 0; omega) (by show (0 : Int) < 18446744073709551616; omega) h0 h1

set_option maxRecDepth 100000 in
set_option maxHeartbeats 12800000 in
theorem dread_list168 (d : Nat) (hR : DReadOk d) (hBad : DReadBad) (w : World) (rb : Nat) (left dp : Int) (b b1 : List UInt8) (h : DrS w rb b false) (hg' : gN 1 b = some (168, b1)) (hd : dp + (d + 1 : Nat) = 7) (hd5 : d ≤ 5) (hl0 : 0 ≤ left - 1) (hl1 : left ≤ 200) (hL : Big b.length) :
    Calls Tryd.prog 69 #[.pointer (some ⟨rb, 0, none⟩), .int .i64 dp, .int .i64 left] w (DReadPost w rb (rdD (d + 1) left b)) := by
  have hrl := h.lt
  have hB1 : Below w.heap.size w (w.alloc (.cells #[.int .u8 0, .int .u64 0, .string ⟨#[]⟩, .slice none 0 0, .slice none 0 0] 27)) := (Below.refl _ _).alloc (Nat.le_refl _) _
  have a1 := Blk.new w [.int .u8 0, .int .u64 0, .string ⟨#[]⟩, .slice none 0 0, .slice none 0 0] 27
  have hd1 := h.pure hB1
  have hg := Lib.hid hg'
  have hL1 : Big b1.length := hL.mono (gN_lt hg').2.1
  have hkw : IntKind.u8.wrap (168 : Int) = 168 := rfl
  have hn3 : decide (left - 1 < 0) = false := decide_eq_false (by omega)
  have hn2 : ¬ left < 1 := by omega
  have hd6 : ¬ 6 < dp := by omega
  have hn4 : decide (6 < dp) = false := decide_eq_false hd6
  have hr0 : rdD (d + 1) left b = (gN 4 b1).bind fun x => (gN 4 x.2).bind fun y => (rdMany (rdD d) true (min y.1 200) (left - 1) y.2).bind fun z => some (.mk 168 0 ByteArray.empty z.1 z.2.1, z.2.2.1, z.2.2.2) := rdD_k hg' hl0
  clear hg'
  have hr0h := Lib.hid hr0
  clear hr0
  have hRh := Lib.hid hR; have hBh := Lib.hid hBad
  clear hR hBad
  have hwp : IntKind.i64.wrap (dp + 1) = dp + 1 := wrap_i64 _ (by omega) (by omega)
  have hdpl : dp ≤ 6 := by omega
  have hdd := Lib.hid hd
  clear hd
  go_enter Tryd.func69, Tryd.ntmps69
  go_upto_region 5 with (first | (go_at_call 42; (with_reducible refine (qnum_yes _ rb b 1 168 1 b1 hd1 rfl (by unfold Wd; omega) hg.out hL).mono ?_); rintro e w1 ⟨rfl, d1, hu1⟩; have a2 := a1.upd hu1 (fun e => by have := hrl; unfold Only at e; omega); have hz1 := Lib.hid a2.lt; have hb1 := (Below.refl w1.heap.size w1).alloc (Nat.le_refl _) (.cells #[.int .u8 168, .int .u64 0, .string ⟨#[]⟩, .slice none 0 0, .slice none 0 0] 27); have d2 := d1.pure hb1; have a3 := a2.alloc (.cells #[.int .u8 168, .int .u64 0, .string ⟨#[]⟩, .slice none 0 0, .slice none 0 0] 27); have x2 := Blk.new w1 [.int .u8 168, .int .u64 0, .string ⟨#[]⟩, .slice none 0 0, .slice none 0 0] 27; have u3 : Upd (Only rb) w (w1.alloc (.cells #[.int .u8 168, .int .u64 0, .string ⟨#[]⟩, .slice none 0 0, .slice none 0 0] 27)) := ((Upd.of_below hB1).trans hu1 (fun _ h _ => h)).trans (Upd.of_below hb1) (fun _ h _ => h); have sp2 := d2.sp; have f0 := x2.at 0 rfl; have fy0 := x2.frozen 0; have f1 := x2.at 1 rfl; have fy1 := x2.frozen 1; have f2 := x2.at 2 rfl; have fy2 := x2.frozen 2; have f3 := x2.at 3 rfl; have fy3 := x2.frozen 3; have f4 := x2.at 4 rfl; have fy4 := x2.frozen 4; have t0 := a3.at 0 rfl; have ty0 := a3.frozen 0; have t1 := a3.at 1 rfl; have ty1 := a3.frozen 1; have t2 := a3.at 2 rfl; have ty2 := a3.frozen 2; have t3 := a3.at 3 rfl; have ty3 := a3.frozen 3; have t4 := a3.at 4 rfl; have ty4 := a3.frozen 4))
  generalize w1.alloc _ = W2 at *
  clear hb1 d1 hu1 a2 hd1 hB1 a1 h hg
  have hx1 := Lib.hid (show rb < w1.heap.size by have := hz1.out; omega)
  have hx2 := Lib.hid x2.lt
  rcases gN_or 4 b1 with hno' | ⟨size, b2, hg1'⟩
  · have hno := Lib.hid hno'
    have hr := Lib.hid (show rdD (d + 1) left b = none by rw [hr0h.out, gN_none hno']; rfl)
    clear hno' 
    go_wp2_with (first | (go_at_call 42; (with_reducible refine (qnum_no _ rb b1 false 4 4 d2 rfl (by unfold Wd; omega) (Or.inr hno.out)).mono ?_); rintro e w3 ⟨rfl, d3, hu3⟩; have x3 := x2.upd hu3 (fun e => by have := hx1.out; unfold Only at e; omega); have a33 := a3.upd hu3 (fun e => by unfold Only at e; omega); have u33 := u3.trans hu3 (fun _ h _ => h)) | (go_at_call 42; (with_reducible refine (qnum_no _ rb [] true 4 4 d3 rfl (by unfold Wd; omega) (Or.inl rfl)).mono ?_); rintro e w4 ⟨rfl, d4, hu4⟩; have x4 := x3.upd hu4 (fun e => by have := hx1.out; unfold Only at e; omega); have a4 := a33.upd hu4 (fun e => by unfold Only at e; omega); have u4 := u33.trans hu4 (fun _ h _ => h)))
    go_loopw [2, 11] (fun s2 s11 wr => s2 = .int .i64 (left - 1) ∧ s11 = .int .u64 0 ∧ wr = w4) (fun _ _ _ => 0)
    case atStart => exact ⟨rfl, rfl, rfl⟩
    case round =>
      obtain ⟨rfl, rfl, rfl⟩ := hrel
      go_wp2
      have xd := x4.drew; have ad := a4.drew; have aF0 := a4.fresh5 (.int .u8 168) (.int .u64 0) (.string ⟨#[]⟩) (.slice none 0 0) (.slice none 0 0); have aF := aF0.drew; have xF := (x4.upd (Upd.at5 wr w.heap.size (.int .u8 168) (.int .u64 0) (.string ⟨#[]⟩) (.slice none 0 0) (.slice none 0 0)) (fun e => by have := hz1.out; omega)).drew; have hF : Upd (Only rb) w _ := (u4.fresh5 (Nat.le_refl _) (.int .u8 168) (.int .u64 0) (.string ⟨#[]⟩) (.slice none 0 0) (.slice none 0 0)).drew; have dF := (d4.fresh5 hrl (.int .u8 168) (.int .u64 0) (.string ⟨#[]⟩) (.slice none 0 0) (.slice none 0 0)).pure (below_refl_dr _)
      have dd := d4.pure (below_refl_dr _)
      have ka0 := xd.at 0 rfl; have ka1 := xd.at 1 rfl; have ka2 := xd.at 2 rfl; have ka3 := xd.at 3 rfl; have ka4 := xd.at 4 rfl; have ka5 := dd.sp; have kb0 := xF.at 0 rfl; have kb1 := xF.at 1 rfl; have kb2 := xF.at 2 rfl; have kb3 := xF.at 3 rfl; have kb4 := xF.at 4 rfl; have kb5 := dF.sp
      have kz0 := ad.frozen 0; have kw0 := ad.at 0 rfl; have ky0 := a4.frozen 0; have kx0 := a4.at 0 rfl; have kz1 := ad.frozen 1; have kw1 := ad.at 1 rfl; have ky1 := a4.frozen 1; have kx1 := a4.at 1 rfl; have kz2 := ad.frozen 2; have kw2 := ad.at 2 rfl; have ky2 := a4.frozen 2; have kx2 := a4.at 2 rfl; have kz3 := ad.frozen 3; have kw3 := ad.at 3 rfl; have ky3 := a4.frozen 3; have kx3 := a4.at 3 rfl; have kz4 := ad.frozen 4; have kw4 := ad.at 4 rfl; have ky4 := a4.frozen 4; have kx4 := a4.at 4 rfl
      refine wp_region_held_drew (S := (fun w' => w'.cell? ⟨w1.heap.size, 0, none⟩ = some (.int .u8 168) ∧ w'.cell? ⟨w1.heap.size, 1, none⟩ = some (.int .u64 0) ∧ w'.cell? ⟨w1.heap.size, 2, none⟩ = some (.string ⟨#[]⟩) ∧ w'.cell? ⟨w1.heap.size, 3, none⟩ = some (.slice none 0 0) ∧ w'.cell? ⟨w1.heap.size, 4, none⟩ = some (.slice none 0 0) ∧ w'.cell? ⟨rb, 1, none⟩ = some (.bool true))) (by kernel_rfl) ?_ (fun hHeld => ?_)
      · (first | with_reducible exact ⟨ka0, ka1, ka2, ka3, ka4, ka5⟩ | with_reducible exact ⟨kb0, kb1, kb2, kb3, kb4, kb5⟩)
      refine takeY 0 108 rfl rfl (v := ?_) ?_ hHeld ?_
      rotate_left 1
      · (intro w hSw; (try dsimp only at hSw); go_simp; (try with_reducible rfl))
      try simp only [Act.put, lsT, lsZ, lsS]
      refine takeY 1 109 rfl rfl (v := ?_) ?_ hHeld ?_
      rotate_left 1
      · (intro w hSw; (try dsimp only at hSw); go_simp; (try with_reducible rfl))
      try simp only [Act.put, lsT, lsZ, lsS]
      refine takeY 2 110 rfl rfl (v := ?_) ?_ hHeld ?_
      rotate_left 1
      · (intro w hSw; (try dsimp only at hSw); go_simp; (try with_reducible rfl))
      try simp only [Act.put, lsT, lsZ, lsS]
      refine takeY 3 111 rfl rfl (v := ?_) ?_ hHeld ?_
      rotate_left 1
      · (intro w hSw; (try dsimp only at hSw); go_simp; (try with_reducible rfl))
      try simp only [Act.put, lsT, lsZ, lsS]
      refine takeY 4 112 rfl rfl (v := ?_) ?_ hHeld ?_
      rotate_left 1
      · (intro w hSw; (try dsimp only at hSw); go_simp; (try with_reducible rfl))
      try simp only [Act.put, lsT, lsZ, lsS]
      refine takeY 5 113 rfl rfl (v := ?_) ?_ hHeld ?_
      rotate_left 1
      · (intro w hSw; (try dsimp only at hSw); go_simp; (try with_reducible rfl))
      try simp only [Act.put, lsT, lsZ, lsS]
      refine takeY 6 114 rfl rfl (v := ?_) ?_ hHeld ?_
      rotate_left 1
      · (intro w hSw; (try dsimp only at hSw); go_simp; (try with_reducible rfl))
      try simp only [Act.put, lsT, lsZ, lsS]
      refine wpAnyH_ready (rs := [7]) (by kernel_rfl) (by simp) ?_
      refine AllReadyH.cons rfl (fun K hK => ?_) AllReadyH.nil
      go_simp
      skip
      refine hK.out _ _ ?_ (fun hHeld => ?_)
      · (first | with_reducible exact ⟨ka0, ka1, ka2, ka3, ka4, ka5⟩ | with_reducible exact ⟨kb0, kb1, kb2, kb3, kb4, kb5⟩)
      clear hK K
      try simp only [Act.put, lsT, lsZ, lsS]
      refine wpAnyH_ready (rs := [8]) (by kernel_rfl) (by simp) ?_
      refine AllReadyH.cons rfl (fun K hK => ?_) AllReadyH.nil
      go_simp
      skip
      refine hK.out _ _ ?_ (fun hHeld => ?_)
      · (first | with_reducible exact ⟨ka0, ka1, ka2, ka3, ka4, ka5⟩ | with_reducible exact ⟨kb0, kb1, kb2, kb3, kb4, kb5⟩)
      clear hK K
      try simp only [Act.put, lsT, lsZ, lsS]
      refine wpAnyH_ready (rs := [9]) (by kernel_rfl) (by simp) ?_
      refine AllReadyH.cons rfl (fun K hK => ?_) AllReadyH.nil
      go_simp
      skip
      refine hK.out _ _ ?_ (fun hHeld => ?_)
      · (first | with_reducible exact ⟨ka0, ka1, ka2, ka3, ka4, ka5⟩ | with_reducible exact ⟨kb0, kb1, kb2, kb3, kb4, kb5⟩)
      clear hK K
      try simp only [Act.put, lsT, lsZ, lsS]
      refine wpAnyH_done (by kernel_rfl) ?_ _
      have k0 := aF.at 0 rfl; have k1 := aF.at 1 rfl; have k2 := aF.at 2 rfl; have k3 := aF.at 3 rfl; have k4 := aF.at 4 rfl
      go_wp2
      refine bodyPost_ret (by simp [results, Tryd.results69, go_sem, k0, k1, k2, k3, k4]; rfl) rfl ?_
      rw [hr.out]; exact ⟨.mk 168 0 ⟨#[]⟩ (.slice none 0 0) (.slice none 0 0) [] [], left - 1, rfl, Rd.leaf (by omega) (by omega) (by omega) (by omega), hF⟩
  have hL2 : Big b2.length := hL1.mono (gN_lt hg1').2.1
  have hL21 := Lib.hid (gN_lt hg1').2.1
  have hg1 := Lib.hid hg1'
  rcases gN_or 4 b2 with hno' | ⟨n, b3, hg2'⟩
  · have hno := Lib.hid hno'
    have hr := Lib.hid (show rdD (d + 1) left b = none by rw [hr0h.out, hg1', Option.bind_some]; dsimp only; rw [gN_none hno']; rfl)
    clear hno' hg1' 
    go_wp2_with (first | (go_at_call 42; (with_reducible refine (qnum_yes _ rb b1 4 size 4 b2 d2 rfl (by unfold Wd; omega) hg1.out hL1).mono ?_); rintro e w3 ⟨rfl, d3, hu3⟩; have x3 := x2.upd hu3 (fun e => by have := hx1.out; unfold Only at e; omega); have a33 := a3.upd hu3 (fun e => by unfold Only at e; omega); have u33 := u3.trans hu3 (fun _ h _ => h)) | (go_at_call 42; (with_reducible refine (qnum_no _ rb b2 false 4 4 d3 rfl (by unfold Wd; omega) (Or.inr hno.out)).mono ?_); rintro e w4 ⟨rfl, d4, hu4⟩; have x4 := x3.upd hu4 (fun e => by have := hx1.out; unfold Only at e; omega); have a4 := a33.upd hu4 (fun e => by unfold Only at e; omega); have u4 := u33.trans hu4 (fun _ h _ => h)))
    go_loopw [2, 11] (fun s2 s11 wr => s2 = .int .i64 (left - 1) ∧ s11 = .int .u64 0 ∧ wr = w4) (fun _ _ _ => 0)
    case atStart => exact ⟨rfl, rfl, rfl⟩
    case round =>
      obtain ⟨rfl, rfl, rfl⟩ := hrel
      go_wp2
      have xd := x4.drew; have ad := a4.drew; have aF0 := a4.fresh5 (.int .u8 168) (.int .u64 0) (.string ⟨#[]⟩) (.slice none 0 0) (.slice none 0 0); have aF := aF0.drew; have xF := (x4.upd (Upd.at5 wr w.heap.size (.int .u8 168) (.int .u64 0) (.string ⟨#[]⟩) (.slice none 0 0) (.slice none 0 0)) (fun e => by have := hz1.out; omega)).drew; have hF : Upd (Only rb) w _ := (u4.fresh5 (Nat.le_refl _) (.int .u8 168) (.int .u64 0) (.string ⟨#[]⟩) (.slice none 0 0) (.slice none 0 0)).drew; have dF := (d4.fresh5 hrl (.int .u8 168) (.int .u64 0) (.string ⟨#[]⟩) (.slice none 0 0) (.slice none 0 0)).pure (below_refl_dr _)
      have dd := d4.pure (below_refl_dr _)
      have ka0 := xd.at 0 rfl; have ka1 := xd.at 1 rfl; have ka2 := xd.at 2 rfl; have ka3 := xd.at 3 rfl; have ka4 := xd.at 4 rfl; have ka5 := dd.sp; have kb0 := xF.at 0 rfl; have kb1 := xF.at 1 rfl; have kb2 := xF.at 2 rfl; have kb3 := xF.at 3 rfl; have kb4 := xF.at 4 rfl; have kb5 := dF.sp
      have kz0 := ad.frozen 0; have kw0 := ad.at 0 rfl; have ky0 := a4.frozen 0; have kx0 := a4.at 0 rfl; have kz1 := ad.frozen 1; have kw1 := ad.at 1 rfl; have ky1 := a4.frozen 1; have kx1 := a4.at 1 rfl; have kz2 := ad.frozen 2; have kw2 := ad.at 2 rfl; have ky2 := a4.frozen 2; have kx2 := a4.at 2 rfl; have kz3 := ad.frozen 3; have kw3 := ad.at 3 rfl; have ky3 := a4.frozen 3; have kx3 := a4.at 3 rfl; have kz4 := ad.frozen 4; have kw4 := ad.at 4 rfl; have ky4 := a4.frozen 4; have kx4 := a4.at 4 rfl
      refine wp_region_held_drew (S := (fun w' => w'.cell? ⟨w1.heap.size, 0, none⟩ = some (.int .u8 168) ∧ w'.cell? ⟨w1.heap.size, 1, none⟩ = some (.int .u64 0) ∧ w'.cell? ⟨w1.heap.size, 2, none⟩ = some (.string ⟨#[]⟩) ∧ w'.cell? ⟨w1.heap.size, 3, none⟩ = some (.slice none 0 0) ∧ w'.cell? ⟨w1.heap.size, 4, none⟩ = some (.slice none 0 0) ∧ w'.cell? ⟨rb, 1, none⟩ = some (.bool true))) (by kernel_rfl) ?_ (fun hHeld => ?_)
      · (first | with_reducible exact ⟨ka0, ka1, ka2, ka3, ka4, ka5⟩ | with_reducible exact ⟨kb0, kb1, kb2, kb3, kb4, kb5⟩)
      refine takeY 0 108 rfl rfl (v := ?_) ?_ hHeld ?_
      rotate_left 1
      · (intro w hSw; (try dsimp only at hSw); go_simp; (try with_reducible rfl))
      try simp only [Act.put, lsT, lsZ, lsS]
      refine takeY 1 109 rfl rfl (v := ?_) ?_ hHeld ?_
      rotate_left 1
      · (intro w hSw; (try dsimp only at hSw); go_simp; (try with_reducible rfl))
      try simp only [Act.put, lsT, lsZ, lsS]
      refine takeY 2 110 rfl rfl (v := ?_) ?_ hHeld ?_
      rotate_left 1
      · (intro w hSw; (try dsimp only at hSw); go_simp; (try with_reducible rfl))
      try simp only [Act.put, lsT, lsZ, lsS]
      refine takeY 3 111 rfl rfl (v := ?_) ?_ hHeld ?_
      rotate_left 1
      · (intro w hSw; (try dsimp only at hSw); go_simp; (try with_reducible rfl))
      try simp only [Act.put, lsT, lsZ, lsS]
      refine takeY 4 112 rfl rfl (v := ?_) ?_ hHeld ?_
      rotate_left 1
      · (intro w hSw; (try dsimp only at hSw); go_simp; (try with_reducible rfl))
      try simp only [Act.put, lsT, lsZ, lsS]
      refine takeY 5 113 rfl rfl (v := ?_) ?_ hHeld ?_
      rotate_left 1
      · (intro w hSw; (try dsimp only at hSw); go_simp; (try with_reducible rfl))
      try simp only [Act.put, lsT, lsZ, lsS]
      refine takeY 6 114 rfl rfl (v := ?_) ?_ hHeld ?_
      rotate_left 1
      · (intro w hSw; (try dsimp only at hSw); go_simp; (try with_reducible rfl))
      try simp only [Act.put, lsT, lsZ, lsS]
      refine wpAnyH_ready (rs := [7]) (by kernel_rfl) (by simp) ?_
      refine AllReadyH.cons rfl (fun K hK => ?_) AllReadyH.nil
      go_simp
      skip
      refine hK.out _ _ ?_ (fun hHeld => ?_)
      · (first | with_reducible exact ⟨ka0, ka1, ka2, ka3, ka4, ka5⟩ | with_reducible exact ⟨kb0, kb1, kb2, kb3, kb4, kb5⟩)
      clear hK K
      try simp only [Act.put, lsT, lsZ, lsS]
      refine wpAnyH_ready (rs := [8]) (by kernel_rfl) (by simp) ?_
      refine AllReadyH.cons rfl (fun K hK => ?_) AllReadyH.nil
      go_simp
      skip
      refine hK.out _ _ ?_ (fun hHeld => ?_)
      · (first | with_reducible exact ⟨ka0, ka1, ka2, ka3, ka4, ka5⟩ | with_reducible exact ⟨kb0, kb1, kb2, kb3, kb4, kb5⟩)
      clear hK K
      try simp only [Act.put, lsT, lsZ, lsS]
      refine wpAnyH_ready (rs := [9]) (by kernel_rfl) (by simp) ?_
      refine AllReadyH.cons rfl (fun K hK => ?_) AllReadyH.nil
      go_simp
      skip
      refine hK.out _ _ ?_ (fun hHeld => ?_)
      · (first | with_reducible exact ⟨ka0, ka1, ka2, ka3, ka4, ka5⟩ | with_reducible exact ⟨kb0, kb1, kb2, kb3, kb4, kb5⟩)
      clear hK K
      try simp only [Act.put, lsT, lsZ, lsS]
      refine wpAnyH_done (by kernel_rfl) ?_ _
      have k0 := aF.at 0 rfl; have k1 := aF.at 1 rfl; have k2 := aF.at 2 rfl; have k3 := aF.at 3 rfl; have k4 := aF.at 4 rfl
      go_wp2
      refine bodyPost_ret (by simp [results, Tryd.results69, go_sem, k0, k1, k2, k3, k4]; rfl) rfl ?_
      rw [hr.out]; exact ⟨.mk 168 0 ⟨#[]⟩ (.slice none 0 0) (.slice none 0 0) [] [], left - 1, rfl, Rd.leaf (by omega) (by omega) (by omega) (by omega), hF⟩
  have hL3 : Big b3.length := hL2.mono (gN_lt hg2').2.1
  have hg2 := Lib.hid hg2'
  have hr := Lib.hid (show rdD (d + 1) left b = (rdMany (rdD d) true (min n 200) (left - 1) b3).bind fun z => some (.mk 168 0 ByteArray.empty z.1 z.2.1, z.2.2.1, z.2.2.2) by rw [hr0h.out, hg1', Option.bind_some]; dsimp only; rw [hg2', Option.bind_some])
  clear hg1' hg2'
  go_wp2_with (first | (go_at_call 42; (with_reducible refine (qnum_yes _ rb b1 4 size 4 b2 d2 rfl (by unfold Wd; omega) hg1.out hL1).mono ?_); rintro e w3 ⟨rfl, d3, hu3⟩; have x3 := x2.upd hu3 (fun e => by have := hx1.out; unfold Only at e; omega); have a33 := a3.upd hu3 (fun e => by unfold Only at e; omega); have u33 := u3.trans hu3 (fun _ h _ => h)) | (go_at_call 42; (with_reducible refine (qnum_yes _ rb b2 4 n 4 b3 d3 rfl (by unfold Wd; omega) hg2.out hL2).mono ?_); rintro e w4 ⟨rfl, d4, hu4⟩; have x4 := x3.upd hu4 (fun e => by have := hx1.out; unfold Only at e; omega); have a4 := a33.upd hu4 (fun e => by unfold Only at e; omega); have u4 := u33.trans hu4 (fun _ h _ => h)))
  have hup : Upd (DTwo rb w1.heap.size) W2 w4 := (hu3.trans hu4 (fun _ h _ => h)).mono (fun i e _ => Or.inl e)
  have hM4 := Lib.hid (show DSt W2 rb w1.heap.size 168 w4 b3 false (.slice none 0 0) (.slice none 0 0) [] [] from ⟨d4, x4, Own.nil, Own.nil, fun x hx => absurd hx (by simp), hup, hx1.out, hx2.out⟩)
  have hA3 := Lib.hid a3; have hU3 := Lib.hid u3
  clear x2 x3 x4 a3 a33 a4 u3 u33 u4 d2 d3 d4 hu3 hu4 hup sp2 f0 f1 f2 f3 f4 fy0 fy1 fy2 fy3 fy4 t0 t1 t2 t3 t4 ty0 ty1 ty2 ty3 ty4
  go_loopw [2, 11] (fun s2 s11 wr => ∃ (j : Nat) (kv lv : Value) (ks : List ByteArray) (L : List VT) (lj : Int) (bj : List UInt8), j ≤ min n 200 ∧ s2 = .int .i64 lj ∧ s11 = .int .u64 j ∧ Hid (DSt W2 rb w1.heap.size 168 wr bj false kv lv ks L) ∧ Hid (L.length = j ∧ ks.length ≤ j) ∧ 0 ≤ lj ∧ lj ≤ 200 ∧ Hid (bj.length ≤ b3.length) ∧ Hid (rdMany (rdD d) true (min n 200) (left - 1) b3 = glue ks (L.map VT.v) (rdMany (rdD d) true (min n 200 - j) lj bj))) (fun _ s11 _ => min n 200 - (intOf s11).toNat)
  case atStart => exact ⟨0, _, _, [], [], left - 1, b3, by omega, rfl, rfl, hM4, Lib.hid ⟨rfl, Nat.le_refl _⟩, hl0, by omega, Lib.hid (Nat.le_refl _), Lib.hid (by rw [List.map_nil, glue_nil]; rfl)⟩
  case round =>
    clear hM4
    obtain ⟨j, kv, lv, ks, L, lj, bj, hj, rfl, rfl, hMh, hlen, hl0j, hl1j, hbj, hT⟩ := hrel
    have hM := hMh.out
    obtain ⟨ka, kc, rfl⟩ := own_lenB hM.ko
    obtain ⟨la, lc, rfl⟩ := own_lenB hM.lo
    have hLj : Big bj.length := hL3.mono hbj.out
    have x0 := hM.x.at 0 rfl; have x3 := hM.x.at 3 rfl; have x4 := hM.x.at 4 rfl; have xs := hM.pr.sp
    have hA := hA3.out.upd hM.up (fun e => by have h1 := hz1.out; unfold DTwo at e; omega)
    have hU : Upd (Only rb) w wr := hU3.out.trans hM.up (fun i e hi => by have h1 := hz1.out; unfold DTwo at e; unfold Only; omega)
    by_cases hlt : j < min n 200
    · have h1 : (j : Int) < (n : Int) := by omega
      have h2 : (j : Int) < 200 := by omega
      have hkl := Lib.hid (show ks.length < 200 by have := hlen.out.2; omega)
      have hLl := Lib.hid (show L.length < 200 by have := hlen.out.1; omega)
      have hnj := Lib.hid (show min n 200 - j = (min n 200 - (j + 1)) + 1 by omega)
      have hA' := Lib.hid hA; have hU' := Lib.hid hU
      clear hA hU
      have htx' : ∃ s b' bad', (bad' = true ∧ gT 1 255 bj = none ∧ b' = [] ∨ bad' = false ∧ gT 1 255 bj = some (s, b')) ∧ ∀ u : World, DrS u rb bj false → Calls Tryd.prog 43 #[.pointer (some ⟨rb, 0, none⟩), .int .i64 1, .int .i64 255] u (fun e w' => e = .returned (.string s) ∧ DrS w' rb b' bad' ∧ Upd (Only rb) u w') := by
        rcases hg : gT 1 255 bj with _ | ⟨s, b'⟩
        · exact ⟨_, _, true, .inl ⟨rfl, rfl, rfl⟩, fun u p => qtext_no u rb bj false 1 255 1 255 p rfl rfl (by omega) (by omega) (.inr hg) hLj⟩
        · exact ⟨s, b', false, .inr ⟨rfl, rfl⟩, fun u p => qtext_yes u rb bj 1 255 1 255 s b' p rfl rfl (by omega) (by omega) hg hLj⟩
      obtain ⟨s, b', bad', hcase, htx'⟩ := htx'
      have htx := Lib.hid htx'; have hcs := Lib.hid hcase
      clear htx' hcase
      rcases hcs.out with ⟨rfl, hg, rfl⟩ | ⟨rfl, hg⟩
      · have hrT := Lib.hid (show rdD (d + 1) left b = none by rw [hr.out, hT.out, hnj.out, glue_nokey hg]; rfl)
        have hrd := Lib.hid (fun (u : World) (p : DrS u rb [] true) => hBh.out u rb lj (dp + 1) [] p hl0j hl1j)
        clear hg hcs
        go_wp2_with (first | (go_at_call 43; refine (htx.out _ hM.pr).mono ?_; rintro e w5 ⟨rfl, p5, hu5⟩; have hM5 := hM.moved p5 hu5 (fun i e => e); have hM6 := hM5.alloc (.cells #[.string s] 9); have bs := Blk.new w5 [.string s] 9; have y3 := hM5.x.at 3 rfl; have y33 := hM6.x.at 3 rfl) | (at_builtin; refine wpList_app1 (base := W2.heap.size) rfl (.tmp 83) (.tmp 85) 24 9 rfl elem_strs strEnc_len strEnc_one _ ks rfl hM6.ko w5.heap.size 1 s rfl (fun j u hu => (bs.cell j).trans hu) (by have := hkl.out; omega) (by have := hkl.out; unfold maxLen; omega) (Nat.le_trans hM5.up.size (by simp)) ?_; intro kg kcap w6 hO6 hgr6 hf6; obtain ⟨hx6, hMk⟩ := hM6.key hO6 hgr6 hf6; have z3 := hx6.at 3 rfl; have zz3 := hx6.frozen 3) | (go_at_call 69; refine (hrd.out _ hMk.pr).mono ?_; rintro e w7 ⟨t, l, he, htR, hu7⟩; obtain ⟨tk, tn, ts, xka, xkc, xla, xlc, tks, tl, rfl, -, -, -, -⟩ := htR.open; rw [VT.arg_mk] at he; subst he; have x7 := hMk.x.upd hu7 (fun e => by have := hx1.out; unfold Only at e; omega); have a7 := (hA3.out.upd hMk.up (fun e => by have h1 := hz1.out; unfold DTwo at e; omega)).upd hu7 (fun e => by unfold Only at e; omega); have x8 := x7.alloc (.cells #[.int .u8 tk, .int .u64 tn, .string ts, .slice xka tks.length xkc, .slice xla tl.length xlc] 27); have a8 := a7.alloc (.cells #[.int .u8 tk, .int .u64 tn, .string ts, .slice xka tks.length xkc, .slice xla tl.length xlc] 27); have m0 := x8.at 0 rfl; have my0 := x8.frozen 0; have m1 := x8.at 1 rfl; have my1 := x8.frozen 1; have m2 := x8.at 2 rfl; have my2 := x8.frozen 2; have m3 := x8.at 3 rfl; have my3 := x8.frozen 3; have m4 := x8.at 4 rfl; have my4 := x8.frozen 4; have t0 := a8.at 0 rfl; have ty0 := a8.frozen 0; have t1 := a8.at 1 rfl; have ty1 := a8.frozen 1; have t2 := a8.at 2 rfl; have ty2 := a8.frozen 2; have t3 := a8.at 3 rfl; have ty3 := a8.frozen 3; have t4 := a8.at 4 rfl; have ty4 := a8.frozen 4))
        have aF := a8.fresh5 (.int .u8 168) (.int .u64 0) (.string ⟨#[]⟩) (.slice (some ⟨kg, 0, none⟩) (ks.length + 1) kcap) (.slice la L.length lc)
        have k0 := aF.at 0 rfl; have k1 := aF.at 1 rfl; have k2 := aF.at 2 rfl; have k3 := aF.at 3 rfl; have k4 := aF.at 4 rfl
        have hU5 : Upd (fun i => i = rb ∨ i = w.heap.size) (w6.setCell ⟨w1.heap.size, 3, none⟩ (.slice (some ⟨kg, 0, none⟩) (ks.length + 1) kcap)) _ := ((hu7.mono (T := fun i => i = rb ∨ i = w.heap.size) (fun i e _ => Or.inl e)).trans (Upd.of_below (S := fun _ => False) ((Below.refl w7.heap.size w7).alloc (Nat.le_refl _) (.cells #[.int .u8 tk, .int .u64 tn, .string ts, .slice xka tks.length xkc, .slice xla tl.length xlc] 27))) (fun _ e _ => e.elim)).trans (Upd.at5 (w7.alloc (.cells #[.int .u8 tk, .int .u64 tn, .string ts, .slice xka tks.length xkc, .slice xla tl.length xlc] 27)) w.heap.size (.int .u8 168) (.int .u64 0) (.string ⟨#[]⟩) (.slice (some ⟨kg, 0, none⟩) (ks.length + 1) kcap) (.slice la L.length lc)) (fun i e _ => Or.inr e)
        refine bodyPost_ret (by simp [results, Tryd.results69, go_sem, k0, k1, k2, k3, k4]; rfl) rfl ?_
        rw [hrT.out]
        have hz := hz1.out; have hx1' := hx1.out; have hx2' := hx2.out
        refine ⟨.mk 168 0 ⟨#[]⟩ (.slice (some ⟨kg, 0, none⟩) (ks.length + 1) kcap) (.slice la L.length lc) (ks ++ [s]) L, l, rfl, ?_, ?_⟩
        · exact (hMk.whole hU5 (fun i e => by omega) (by omega) (by omega)).weaken (fun i _ hi => by omega)
        · exact (hU3.out.trans hMk.up (fun i e hi => by unfold DTwo at e; unfold Only; omega)).trans hU5 (fun i e hi => by unfold Only; omega)
      · have hLb : Big b'.length := hLj.mono (gT_lt hg)
        have hbb := Lib.hid (gT_lt hg)
        have hgh := Lib.hid hg
        clear hg hcs
        rcases hx : rdD d lj b' with _ | ⟨x, l1, b2'⟩
        · have hrT := Lib.hid (show rdD (d + 1) left b = none by rw [hr.out, hT.out, hnj.out, glue_noval hgh.out hx]; rfl)
          have hrd := Lib.hid (fun (u : World) (p : DrS u rb b' false) => show Calls Tryd.prog 69 #[.pointer (some ⟨rb, 0, none⟩), .int .i64 (dp + 1), .int .i64 lj] u (DReadPost u rb none) by have h9 := hdd.out; have := hRh.out u rb lj (dp + 1) b' p (by omega) (by omega) hl0j hl1j hLb; rw [hx] at this; exact this)
          clear hx
          go_wp2_with (first | (go_at_call 43; refine (htx.out _ hM.pr).mono ?_; rintro e w5 ⟨rfl, p5, hu5⟩; have hM5 := hM.moved p5 hu5 (fun i e => e); have hM6 := hM5.alloc (.cells #[.string s] 9); have bs := Blk.new w5 [.string s] 9; have y3 := hM5.x.at 3 rfl; have y33 := hM6.x.at 3 rfl) | (at_builtin; refine wpList_app1 (base := W2.heap.size) rfl (.tmp 83) (.tmp 85) 24 9 rfl elem_strs strEnc_len strEnc_one _ ks rfl hM6.ko w5.heap.size 1 s rfl (fun j u hu => (bs.cell j).trans hu) (by have := hkl.out; omega) (by have := hkl.out; unfold maxLen; omega) (Nat.le_trans hM5.up.size (by simp)) ?_; intro kg kcap w6 hO6 hgr6 hf6; obtain ⟨hx6, hMk⟩ := hM6.key hO6 hgr6 hf6; have z3 := hx6.at 3 rfl; have zz3 := hx6.frozen 3) | (go_at_call 69; refine (hrd.out _ hMk.pr).mono ?_; rintro e w7 ⟨t, l, he, htR, hu7⟩; obtain ⟨tk, tn, ts, xka, xkc, xla, xlc, tks, tl, rfl, -, -, -, -⟩ := htR.open; rw [VT.arg_mk] at he; subst he; have x7 := hMk.x.upd hu7 (fun e => by have := hx1.out; unfold Only at e; omega); have a7 := (hA3.out.upd hMk.up (fun e => by have h1 := hz1.out; unfold DTwo at e; omega)).upd hu7 (fun e => by unfold Only at e; omega); have x8 := x7.alloc (.cells #[.int .u8 tk, .int .u64 tn, .string ts, .slice xka tks.length xkc, .slice xla tl.length xlc] 27); have a8 := a7.alloc (.cells #[.int .u8 tk, .int .u64 tn, .string ts, .slice xka tks.length xkc, .slice xla tl.length xlc] 27); have m0 := x8.at 0 rfl; have my0 := x8.frozen 0; have m1 := x8.at 1 rfl; have my1 := x8.frozen 1; have m2 := x8.at 2 rfl; have my2 := x8.frozen 2; have m3 := x8.at 3 rfl; have my3 := x8.frozen 3; have m4 := x8.at 4 rfl; have my4 := x8.frozen 4; have t0 := a8.at 0 rfl; have ty0 := a8.frozen 0; have t1 := a8.at 1 rfl; have ty1 := a8.frozen 1; have t2 := a8.at 2 rfl; have ty2 := a8.frozen 2; have t3 := a8.at 3 rfl; have ty3 := a8.frozen 3; have t4 := a8.at 4 rfl; have ty4 := a8.frozen 4))
          have aF := a8.fresh5 (.int .u8 168) (.int .u64 0) (.string ⟨#[]⟩) (.slice (some ⟨kg, 0, none⟩) (ks.length + 1) kcap) (.slice la L.length lc)
          have k0 := aF.at 0 rfl; have k1 := aF.at 1 rfl; have k2 := aF.at 2 rfl; have k3 := aF.at 3 rfl; have k4 := aF.at 4 rfl
          have hU5 : Upd (fun i => i = rb ∨ i = w.heap.size) (w6.setCell ⟨w1.heap.size, 3, none⟩ (.slice (some ⟨kg, 0, none⟩) (ks.length + 1) kcap)) _ := ((hu7.mono (T := fun i => i = rb ∨ i = w.heap.size) (fun i e _ => Or.inl e)).trans (Upd.of_below (S := fun _ => False) ((Below.refl w7.heap.size w7).alloc (Nat.le_refl _) (.cells #[.int .u8 tk, .int .u64 tn, .string ts, .slice xka tks.length xkc, .slice xla tl.length xlc] 27))) (fun _ e _ => e.elim)).trans (Upd.at5 (w7.alloc (.cells #[.int .u8 tk, .int .u64 tn, .string ts, .slice xka tks.length xkc, .slice xla tl.length xlc] 27)) w.heap.size (.int .u8 168) (.int .u64 0) (.string ⟨#[]⟩) (.slice (some ⟨kg, 0, none⟩) (ks.length + 1) kcap) (.slice la L.length lc)) (fun i e _ => Or.inr e)
          refine bodyPost_ret (by simp [results, Tryd.results69, go_sem, k0, k1, k2, k3, k4]; rfl) rfl ?_
          rw [hrT.out]
          have hz := hz1.out; have hx1' := hx1.out; have hx2' := hx2.out
          refine ⟨.mk 168 0 ⟨#[]⟩ (.slice (some ⟨kg, 0, none⟩) (ks.length + 1) kcap) (.slice la L.length lc) (ks ++ [s]) L, l, rfl, ?_, ?_⟩
          · exact (hMk.whole hU5 (fun i e => by omega) (by omega) (by omega)).weaken (fun i _ hi => by omega)
          · exact (hU3.out.trans hMk.up (fun i e hi => by unfold DTwo at e; unfold Only; omega)).trans hU5 (fun i e hi => by unfold Only; omega)
        · have hT2 := Lib.hid (show rdMany (rdD d) true (min n 200) (left - 1) b3 = glue (ks ++ [s]) (L.map VT.v ++ [x]) (rdMany (rdD d) true (min n 200 - (j + 1)) l1 b2') by rw [hT.out, hnj.out, glue_key hgh.out hx])
          have hll := rdD_left _ _ _ _ _ _ hx
          have hlb := Lib.hid (show b2'.length ≤ b3.length by have h1 := hll.2.2; have h2 := hbj.out; have h3 := hbb.out; omega)
          have hl1' : l1 ≤ 200 := by omega
          have hl0' : 0 ≤ l1 := hll.1
          have hrd := Lib.hid (fun (u : World) (p : DrS u rb b' false) => show Calls Tryd.prog 69 #[.pointer (some ⟨rb, 0, none⟩), .int .i64 (dp + 1), .int .i64 lj] u (DReadPost u rb (some (x, l1, b2'))) by have h9 := hdd.out; have := hRh.out u rb lj (dp + 1) b' p (by omega) (by omega) hl0j hl1j hLb; rw [hx] at this; exact this)
          clear hx hll hT
          go_wp2_with (first | (go_at_call 43; refine (htx.out _ hM.pr).mono ?_; rintro e w5 ⟨rfl, p5, hu5⟩; have hM5 := hM.moved p5 hu5 (fun i e => e); have hM6 := hM5.alloc (.cells #[.string s] 9); have bs := Blk.new w5 [.string s] 9; have y3 := hM5.x.at 3 rfl; have y33 := hM6.x.at 3 rfl) | (at_builtin; refine wpList_app1 (base := W2.heap.size) rfl (.tmp 83) (.tmp 85) 24 9 rfl elem_strs strEnc_len strEnc_one _ ks rfl hM6.ko w5.heap.size 1 s rfl (fun j u hu => (bs.cell j).trans hu) (by have := hkl.out; omega) (by have := hkl.out; unfold maxLen; omega) (Nat.le_trans hM5.up.size (by simp)) ?_; intro kg kcap w6 hO6 hgr6 hf6; obtain ⟨hx6, hMk⟩ := hM6.key hO6 hgr6 hf6; have z3 := hx6.at 3 rfl; have zz3 := hx6.frozen 3) | (go_at_call 69; refine (hrd.out _ hMk.pr).mono ?_; rintro e w7 ⟨t, he, htv, htR, p7, hu7⟩; have hM7 := hMk.moved p7 hu7 (fun i e => e); have ht7 := hMk.tree htR; obtain ⟨tk, tn, ts, xka, xkc, xla, xlc, tks, tl, rfl, -, -, -, -⟩ := htR.open; rw [VT.arg_mk] at he; subst he; have htvh := Lib.hid htv; clear htv; have hb8 := (Below.refl w7.heap.size w7).alloc (Nat.le_refl _) (.cells #[.int .u8 tk, .int .u64 tn, .string ts, .slice xka tks.length xkc, .slice xla tl.length xlc] 27); have hM8 := hM7.alloc (.cells #[.int .u8 tk, .int .u64 tn, .string ts, .slice xka tks.length xkc, .slice xla tl.length xlc] 27); have bt := Blk.new w7 [.int .u8 tk, .int .u64 tn, .string ts, .slice xka tks.length xkc, .slice xla tl.length xlc] 27; have hM9 := hM8.alloc (.cells #[.int .u8 tk, .int .u64 tn, .string ts, .slice xka tks.length xkc, .slice xla tl.length xlc] 27); have bt9 := Blk.newK (w7.alloc (.cells #[.int .u8 tk, .int .u64 tn, .string ts, .slice xka tks.length xkc, .slice xla tl.length xlc] 27)) [.int .u8 tk, .int .u64 tn, .string ts, .slice xka tks.length xkc, .slice xla tl.length xlc] 27 (w7.heap.size + 1) (by simp); have ht9 := (ht7.pure hb8).pure ((Below.refl (w7.alloc (.cells #[.int .u8 tk, .int .u64 tn, .string ts, .slice xka tks.length xkc, .slice xla tl.length xlc] 27)).heap.size (w7.alloc (.cells #[.int .u8 tk, .int .u64 tn, .string ts, .slice xka tks.length xkc, .slice xla tl.length xlc] 27))).alloc (Nat.le_refl _) (.cells #[.int .u8 tk, .int .u64 tn, .string ts, .slice xka tks.length xkc, .slice xla tl.length xlc] 27)); have m4 := hM8.x.at 4 rfl; have n4 := hM9.x.at 4 rfl; have b0 := bt.at 0 rfl; have b1 := bt.at 1 rfl; have b2 := bt.at 2 rfl; have b3 := bt.at 3 rfl; have b4 := bt.at 4 rfl) | (at_builtin; refine wpList_appOne (base := W2.heap.size) rfl (.tmp 103) (.tmp 105) 25 27 rfl elem_val vEnc_len _ L rfl hM9.lo (w7.heap.size + 1) 1 (.mk tk tn ts (.slice xka tks.length xkc) (.slice xla tl.length xlc) tks tl) (by simp [vEnc, VT.k, VT.n, VT.s, VT.kv, VT.lv, Value.oneCell']) rfl (fun j u hu => (bt9.cell j).trans hu) (by have := hLl.out; omega) (by have := hLl.out; unfold maxLen; omega) hM9.up.size ?_; intro g cap w10 hO10 hgr10 hf10; obtain ⟨hx10, hM10⟩ := hM9.app hO10 hgr10 hf10 ht9; have r4 := hx10.at 4 rfl; have rz4 := hx10.frozen 4))
          go_roundw
          case rel => exact ⟨j + 1, _, _, _, _, l1, b2', by omega, rfl, by go_num, Lib.hid hM10, Lib.hid ⟨by have := hlen.out.1; simp; omega, by have := hlen.out.2; simp; omega⟩, hl0', hl1', hlb, Lib.hid (by rw [hT2.out, List.map_append, ← htvh.out]; rfl)⟩
          case measure => simp [intOf]; omega
    · obtain rfl : j = min n 200 := by omega
      have hfin := Lib.hid (show rdD (d + 1) left b = some (.mk 168 0 ByteArray.empty ks (L.map VT.v), lj, bj) by rw [hr.out, hT.out, Nat.sub_self, glue_end]; rfl)
      obtain ⟨dr, xx⟩ : DrS wr rb bj false ∧ Blk wr w1.heap.size [.int .u8 168, .int .u64 0, .string ⟨#[]⟩, .slice ka ks.length kc, .slice la L.length lc] := ⟨hM.pr, hM.x⟩
      have hMz := Lib.hid hM
      have hnm := Lib.hid (show min n 200 ≤ 200 ∧ (min n 200 = n ∨ min n 200 = 200 ∧ 200 < n) by omega)
      obtain ⟨q, hq⟩ : ∃ q, min n 200 = q := ⟨_, rfl⟩
      rw [hq] at hnm ⊢
      have hq0 : (0 : Int) ≤ (q : Int) := by omega
      clear hM hMh hbj hT hr hL2 hL3 hLj hj hlt hlen hq
      by_cases hqn : q < n
      · have e1 : (q : Int) < (n : Int) := by omega
        have e2 : ¬ (q : Int) < 200 := by have := hnm.out; omega
        have e3 : decide ((q : Int) < 200) = false := decide_eq_false e2
        have e4 : decide (q < n) = true := decide_eq_true hqn
        go_wp2
        have xd := xx.drew; have ad := hA.drew; have aF0 := hA.fresh5 (.int .u8 168) (.int .u64 0) (.string ⟨#[]⟩) (.slice ka ks.length kc) (.slice la L.length lc); have aF := aF0.drew; have xF := (xx.upd (Upd.at5 wr w.heap.size (.int .u8 168) (.int .u64 0) (.string ⟨#[]⟩) (.slice ka ks.length kc) (.slice la L.length lc)) (fun e => by have := hz1.out; omega)).drew; have hF : Upd (Only rb) w _ := (hU.fresh5 (Nat.le_refl _) (.int .u8 168) (.int .u64 0) (.string ⟨#[]⟩) (.slice ka ks.length kc) (.slice la L.length lc)).drew; have dF := (dr.fresh5 hrl (.int .u8 168) (.int .u64 0) (.string ⟨#[]⟩) (.slice ka ks.length kc) (.slice la L.length lc)).pure (below_refl_dr _)
        have dd := dr.pure (below_refl_dr _)
        have ka0 := xd.at 0 rfl; have ka1 := xd.at 1 rfl; have ka2 := xd.at 2 rfl; have ka3 := xd.at 3 rfl; have ka4 := xd.at 4 rfl; have ka5 := dd.sp; have kb0 := xF.at 0 rfl; have kb1 := xF.at 1 rfl; have kb2 := xF.at 2 rfl; have kb3 := xF.at 3 rfl; have kb4 := xF.at 4 rfl; have kb5 := dF.sp
        have kz0 := ad.frozen 0; have kw0 := ad.at 0 rfl; have ky0 := hA.frozen 0; have kx0 := hA.at 0 rfl; have kz1 := ad.frozen 1; have kw1 := ad.at 1 rfl; have ky1 := hA.frozen 1; have kx1 := hA.at 1 rfl; have kz2 := ad.frozen 2; have kw2 := ad.at 2 rfl; have ky2 := hA.frozen 2; have kx2 := hA.at 2 rfl; have kz3 := ad.frozen 3; have kw3 := ad.at 3 rfl; have ky3 := hA.frozen 3; have kx3 := hA.at 3 rfl; have kz4 := ad.frozen 4; have kw4 := ad.at 4 rfl; have ky4 := hA.frozen 4; have kx4 := hA.at 4 rfl
        refine wp_region_held_drew (S := (fun w' => w'.cell? ⟨w1.heap.size, 0, none⟩ = some (.int .u8 168) ∧ w'.cell? ⟨w1.heap.size, 1, none⟩ = some (.int .u64 0) ∧ w'.cell? ⟨w1.heap.size, 2, none⟩ = some (.string ⟨#[]⟩) ∧ w'.cell? ⟨w1.heap.size, 3, none⟩ = some (.slice ka ks.length kc) ∧ w'.cell? ⟨w1.heap.size, 4, none⟩ = some (.slice la L.length lc) ∧ w'.cell? ⟨rb, 1, none⟩ = some (.bool false))) (by kernel_rfl) ?_ (fun hHeld => ?_)
        · (first | with_reducible exact ⟨ka0, ka1, ka2, ka3, ka4, ka5⟩ | with_reducible exact ⟨kb0, kb1, kb2, kb3, kb4, kb5⟩)
        refine takeY 0 108 rfl rfl (v := ?_) ?_ hHeld ?_
        rotate_left 1
        · (intro w hSw; (try dsimp only at hSw); go_simp; (try with_reducible rfl))
        try simp only [Act.put, lsT, lsZ, lsS]
        refine takeY 1 109 rfl rfl (v := ?_) ?_ hHeld ?_
        rotate_left 1
        · (intro w hSw; (try dsimp only at hSw); go_simp; (try with_reducible rfl))
        try simp only [Act.put, lsT, lsZ, lsS]
        refine takeY 2 110 rfl rfl (v := ?_) ?_ hHeld ?_
        rotate_left 1
        · (intro w hSw; (try dsimp only at hSw); go_simp; (try with_reducible rfl))
        try simp only [Act.put, lsT, lsZ, lsS]
        refine takeY 3 111 rfl rfl (v := ?_) ?_ hHeld ?_
        rotate_left 1
        · (intro w hSw; (try dsimp only at hSw); go_simp; (try with_reducible rfl))
        try simp only [Act.put, lsT, lsZ, lsS]
        refine takeY 4 112 rfl rfl (v := ?_) ?_ hHeld ?_
        rotate_left 1
        · (intro w hSw; (try dsimp only at hSw); go_simp; (try with_reducible rfl))
        try simp only [Act.put, lsT, lsZ, lsS]
        refine takeY 5 113 rfl rfl (v := ?_) ?_ hHeld ?_
        rotate_left 1
        · (intro w hSw; (try dsimp only at hSw); go_simp; (try with_reducible rfl))
        try simp only [Act.put, lsT, lsZ, lsS]
        refine takeY 6 114 rfl rfl (v := ?_) ?_ hHeld ?_
        rotate_left 1
        · (intro w hSw; (try dsimp only at hSw); go_simp; (try with_reducible rfl))
        try simp only [Act.put, lsT, lsZ, lsS]
        refine wpAnyH_ready (rs := [7]) (by kernel_rfl) (by simp) ?_
        refine AllReadyH.cons rfl (fun K hK => ?_) AllReadyH.nil
        go_simp
        skip
        refine hK.out _ _ ?_ (fun hHeld => ?_)
        · (first | with_reducible exact ⟨ka0, ka1, ka2, ka3, ka4, ka5⟩ | with_reducible exact ⟨kb0, kb1, kb2, kb3, kb4, kb5⟩)
        clear hK K
        try simp only [Act.put, lsT, lsZ, lsS]
        refine wpAnyH_ready (rs := [8]) (by kernel_rfl) (by simp) ?_
        refine AllReadyH.cons rfl (fun K hK => ?_) AllReadyH.nil
        go_simp
        skip
        refine hK.out _ _ ?_ (fun hHeld => ?_)
        · (first | with_reducible exact ⟨ka0, ka1, ka2, ka3, ka4, ka5⟩ | with_reducible exact ⟨kb0, kb1, kb2, kb3, kb4, kb5⟩)
        clear hK K
        try simp only [Act.put, lsT, lsZ, lsS]
        refine wpAnyH_ready (rs := [9]) (by kernel_rfl) (by simp) ?_
        refine AllReadyH.cons rfl (fun K hK => ?_) AllReadyH.nil
        go_simp
        skip
        refine hK.out _ _ ?_ (fun hHeld => ?_)
        · (first | with_reducible exact ⟨ka0, ka1, ka2, ka3, ka4, ka5⟩ | with_reducible exact ⟨kb0, kb1, kb2, kb3, kb4, kb5⟩)
        clear hK K
        try simp only [Act.put, lsT, lsZ, lsS]
        refine wpAnyH_done (by kernel_rfl) ?_ _
        have k0 := aF.at 0 rfl; have k1 := aF.at 1 rfl; have k2 := aF.at 2 rfl; have k3 := aF.at 3 rfl; have k4 := aF.at 4 rfl
        go_wp2
        refine bodyPost_ret (by simp [results, Tryd.results69, go_sem, k0, k1, k2, k3, k4]; rfl) rfl ?_
        rw [hfin.out]
        have hz := hz1.out; have hx1' := hx1.out; have hx2' := hx2.out
        refine ⟨.mk 168 0 ⟨#[]⟩ (.slice ka ks.length kc) (.slice la L.length lc) ks L, rfl, by rw [VT.v_eq]; rfl, ?_, dF, hF⟩
        exact (hMz.out.whole (S := fun i => i = w.heap.size) (Upd.at5 wr w.heap.size (.int .u8 168) (.int .u64 0) (.string ⟨#[]⟩) (.slice ka ks.length kc) (.slice la L.length lc)).drew (fun i e => by omega) (by omega) (by omega)).weaken (fun i _ hi => by omega)
      · have e1 : ¬ (q : Int) < (n : Int) := by omega
        have e4 : decide (q < n) = false := decide_eq_false hqn
        go_wp2
        have xd := xx.drew; have ad := hA.drew; have aF0 := hA.fresh5 (.int .u8 168) (.int .u64 0) (.string ⟨#[]⟩) (.slice ka ks.length kc) (.slice la L.length lc); have aF := aF0.drew; have xF := (xx.upd (Upd.at5 wr w.heap.size (.int .u8 168) (.int .u64 0) (.string ⟨#[]⟩) (.slice ka ks.length kc) (.slice la L.length lc)) (fun e => by have := hz1.out; omega)).drew; have hF : Upd (Only rb) w _ := (hU.fresh5 (Nat.le_refl _) (.int .u8 168) (.int .u64 0) (.string ⟨#[]⟩) (.slice ka ks.length kc) (.slice la L.length lc)).drew; have dF := (dr.fresh5 hrl (.int .u8 168) (.int .u64 0) (.string ⟨#[]⟩) (.slice ka ks.length kc) (.slice la L.length lc)).pure (below_refl_dr _)
        have dd := dr.pure (below_refl_dr _)
        have ka0 := xd.at 0 rfl; have ka1 := xd.at 1 rfl; have ka2 := xd.at 2 rfl; have ka3 := xd.at 3 rfl; have ka4 := xd.at 4 rfl; have ka5 := dd.sp; have kb0 := xF.at 0 rfl; have kb1 := xF.at 1 rfl; have kb2 := xF.at 2 rfl; have kb3 := xF.at 3 rfl; have kb4 := xF.at 4 rfl; have kb5 := dF.sp
        have kz0 := ad.frozen 0; have kw0 := ad.at 0 rfl; have ky0 := hA.frozen 0; have kx0 := hA.at 0 rfl; have kz1 := ad.frozen 1; have kw1 := ad.at 1 rfl; have ky1 := hA.frozen 1; have kx1 := hA.at 1 rfl; have kz2 := ad.frozen 2; have kw2 := ad.at 2 rfl; have ky2 := hA.frozen 2; have kx2 := hA.at 2 rfl; have kz3 := ad.frozen 3; have kw3 := ad.at 3 rfl; have ky3 := hA.frozen 3; have kx3 := hA.at 3 rfl; have kz4 := ad.frozen 4; have kw4 := ad.at 4 rfl; have ky4 := hA.frozen 4; have kx4 := hA.at 4 rfl
        refine wp_region_held_drew (S := (fun w' => w'.cell? ⟨w1.heap.size, 0, none⟩ = some (.int .u8 168) ∧ w'.cell? ⟨w1.heap.size, 1, none⟩ = some (.int .u64 0) ∧ w'.cell? ⟨w1.heap.size, 2, none⟩ = some (.string ⟨#[]⟩) ∧ w'.cell? ⟨w1.heap.size, 3, none⟩ = some (.slice ka ks.length kc) ∧ w'.cell? ⟨w1.heap.size, 4, none⟩ = some (.slice la L.length lc) ∧ w'.cell? ⟨rb, 1, none⟩ = some (.bool false))) (by kernel_rfl) ?_ (fun hHeld => ?_)
        · (first | with_reducible exact ⟨ka0, ka1, ka2, ka3, ka4, ka5⟩ | with_reducible exact ⟨kb0, kb1, kb2, kb3, kb4, kb5⟩)
        refine takeY 0 108 rfl rfl (v := ?_) ?_ hHeld ?_
        rotate_left 1
        · (intro w hSw; (try dsimp only at hSw); go_simp; (try with_reducible rfl))
        try simp only [Act.put, lsT, lsZ, lsS]
        refine takeY 1 109 rfl rfl (v := ?_) ?_ hHeld ?_
        rotate_left 1
        · (intro w hSw; (try dsimp only at hSw); go_simp; (try with_reducible rfl))
        try simp only [Act.put, lsT, lsZ, lsS]
        refine takeY 2 110 rfl rfl (v := ?_) ?_ hHeld ?_
        rotate_left 1
        · (intro w hSw; (try dsimp only at hSw); go_simp; (try with_reducible rfl))
        try simp only [Act.put, lsT, lsZ, lsS]
        refine takeY 3 111 rfl rfl (v := ?_) ?_ hHeld ?_
        rotate_left 1
        · (intro w hSw; (try dsimp only at hSw); go_simp; (try with_reducible rfl))
        try simp only [Act.put, lsT, lsZ, lsS]
        refine takeY 4 112 rfl rfl (v := ?_) ?_ hHeld ?_
        rotate_left 1
        · (intro w hSw; (try dsimp only at hSw); go_simp; (try with_reducible rfl))
        try simp only [Act.put, lsT, lsZ, lsS]
        refine takeY 5 113 rfl rfl (v := ?_) ?_ hHeld ?_
        rotate_left 1
        · (intro w hSw; (try dsimp only at hSw); go_simp; (try with_reducible rfl))
        try simp only [Act.put, lsT, lsZ, lsS]
        refine takeY 6 114 rfl rfl (v := ?_) ?_ hHeld ?_
        rotate_left 1
        · (intro w hSw; (try dsimp only at hSw); go_simp; (try with_reducible rfl))
        try simp only [Act.put, lsT, lsZ, lsS]
        refine wpAnyH_ready (rs := [7]) (by kernel_rfl) (by simp) ?_
        refine AllReadyH.cons rfl (fun K hK => ?_) AllReadyH.nil
        go_simp
        skip
        refine hK.out _ _ ?_ (fun hHeld => ?_)
        · (first | with_reducible exact ⟨ka0, ka1, ka2, ka3, ka4, ka5⟩ | with_reducible exact ⟨kb0, kb1, kb2, kb3, kb4, kb5⟩)
        clear hK K
        try simp only [Act.put, lsT, lsZ, lsS]
        refine wpAnyH_ready (rs := [8]) (by kernel_rfl) (by simp) ?_
        refine AllReadyH.cons rfl (fun K hK => ?_) AllReadyH.nil
        go_simp
        skip
        refine hK.out _ _ ?_ (fun hHeld => ?_)
        · (first | with_reducible exact ⟨ka0, ka1, ka2, ka3, ka4, ka5⟩ | with_reducible exact ⟨kb0, kb1, kb2, kb3, kb4, kb5⟩)
        clear hK K
        try simp only [Act.put, lsT, lsZ, lsS]
        refine wpAnyH_ready (rs := [9]) (by kernel_rfl) (by simp) ?_
        refine AllReadyH.cons rfl (fun K hK => ?_) AllReadyH.nil
        go_simp
        skip
        refine hK.out _ _ ?_ (fun hHeld => ?_)
        · (first | with_reducible exact ⟨ka0, ka1, ka2, ka3, ka4, ka5⟩ | with_reducible exact ⟨kb0, kb1, kb2, kb3, kb4, kb5⟩)
        clear hK K
        try simp only [Act.put, lsT, lsZ, lsS]
        refine wpAnyH_done (by kernel_rfl) ?_ _
        have k0 := aF.at 0 rfl; have k1 := aF.at 1 rfl; have k2 := aF.at 2 rfl; have k3 := aF.at 3 rfl; have k4 := aF.at 4 rfl
        go_wp2
        refine bodyPost_ret (by simp [results, Tryd.results69, go_sem, k0, k1, k2, k3, k4]; rfl) rfl ?_
        rw [hfin.out]
        have hz := hz1.out; have hx1' := hx1.out; have hx2' := hx2.out
        refine ⟨.mk 168 0 ⟨#[]⟩ (.slice ka ks.length kc) (.slice la L.length lc) ks L, rfl, by rw [VT.v_eq]; rfl, ?_, dF, hF⟩
        exact (hMz.out.whole (S := fun i => i = w.heap.size) (Upd.at5 wr w.heap.size (.int .u8 168) (.int .u64 0) (.string ⟨#[]⟩) (.slice ka ks.length kc) (.slice la L.length lc)).drew (fun i e => by omega) (by omega) (by omega)).weaken (fun i _ hi => by omega)
end Go.Proofs.YtogkbbnpkckfdaaDoor

/- The document's reader of values: lists. Conditions: at most 200 values are left. Written by gen_getF.py. -/
namespace Go.Proofs.YtogkbbnpkckfdaaDoor
set_option linter.unusedSimpArgs false
set_option linter.unusedVariables false
open Go.RowKit

set_option maxRecDepth 100000 in
set_option maxHeartbeats 12800000 in
theorem dread_list169 (d : Nat) (hR : DReadOk d) (hBad : DReadBad) (w : World) (rb : Nat) (left dp : Int) (b b1 : List UInt8) (h : DrS w rb b false) (hg' : gN 1 b = some (169, b1)) (hd : dp + (d + 1 : Nat) = 7) (hd5 : d ≤ 5) (hl0 : 0 ≤ left - 1) (hl1 : left ≤ 200) (hL : Big b.length) :
    Calls Tryd.prog 69 #[.pointer (some ⟨rb, 0, none⟩), .int .i64 dp, .int .i64 left] w (DReadPost w rb (rdD (d + 1) left b)) := by
  have hrl := h.lt
  have hB1 : Below w.heap.size w (w.alloc (.cells #[.int .u8 0, .int .u64 0, .string ⟨#[]⟩, .slice none 0 0, .slice none 0 0] 27)) := (Below.refl _ _).alloc (Nat.le_refl _) _
  have a1 := Blk.new w [.int .u8 0, .int .u64 0, .string ⟨#[]⟩, .slice none 0 0, .slice none 0 0] 27
  have hd1 := h.pure hB1
  have hg := Lib.hid hg'
  have hL1 : Big b1.length := hL.mono (gN_lt hg').2.1
  have hkw : IntKind.u8.wrap (169 : Int) = 169 := rfl
  have hn3 : decide (left - 1 < 0) = false := decide_eq_false (by omega)
  have hn2 : ¬ left < 1 := by omega
  have hd6 : ¬ 6 < dp := by omega
  have hn4 : decide (6 < dp) = false := decide_eq_false hd6
  have hr0 : rdD (d + 1) left b = (gN 4 b1).bind fun x => (gN 4 x.2).bind fun y => (rdMany (rdD d) false (min y.1 200) (left - 1) y.2).bind fun z => some (.mk 169 0 ByteArray.empty z.1 z.2.1, z.2.2.1, z.2.2.2) := rdD_k hg' hl0
  clear hg'
  have hr0h := Lib.hid hr0
  clear hr0
  have hRh := Lib.hid hR; have hBh := Lib.hid hBad
  clear hR hBad
  have hwp : IntKind.i64.wrap (dp + 1) = dp + 1 := wrap_i64 _ (by omega) (by omega)
  have hdpl : dp ≤ 6 := by omega
  have hdd := Lib.hid hd
  clear hd
  go_enter Tryd.func69, Tryd.ntmps69
  go_upto_region 5 with (first | (go_at_call 42; (with_reducible refine (qnum_yes _ rb b 1 169 1 b1 hd1 rfl (by unfold Wd; omega) hg.out hL).mono ?_); rintro e w1 ⟨rfl, d1, hu1⟩; have a2 := a1.upd hu1 (fun e => by have := hrl; unfold Only at e; omega); have hz1 := Lib.hid a2.lt; have hb1 := (Below.refl w1.heap.size w1).alloc (Nat.le_refl _) (.cells #[.int .u8 169, .int .u64 0, .string ⟨#[]⟩, .slice none 0 0, .slice none 0 0] 27); have d2 := d1.pure hb1; have a3 := a2.alloc (.cells #[.int .u8 169, .int .u64 0, .string ⟨#[]⟩, .slice none 0 0, .slice none 0 0] 27); have x2 := Blk.new w1 [.int .u8 169, .int .u64 0, .string ⟨#[]⟩, .slice none 0 0, .slice none 0 0] 27; have u3 : Upd (Only rb) w (w1.alloc (.cells #[.int .u8 169, .int .u64 0, .string ⟨#[]⟩, .slice none 0 0, .slice none 0 0] 27)) := ((Upd.of_below hB1).trans hu1 (fun _ h _ => h)).trans (Upd.of_below hb1) (fun _ h _ => h); have sp2 := d2.sp; have f0 := x2.at 0 rfl; have fy0 := x2.frozen 0; have f1 := x2.at 1 rfl; have fy1 := x2.frozen 1; have f2 := x2.at 2 rfl; have fy2 := x2.frozen 2; have f3 := x2.at 3 rfl; have fy3 := x2.frozen 3; have f4 := x2.at 4 rfl; have fy4 := x2.frozen 4; have t0 := a3.at 0 rfl; have ty0 := a3.frozen 0; have t1 := a3.at 1 rfl; have ty1 := a3.frozen 1; have t2 := a3.at 2 rfl; have ty2 := a3.frozen 2; have t3 := a3.at 3 rfl; have ty3 := a3.frozen 3; have t4 := a3.at 4 rfl; have ty4 := a3.frozen 4))
  generalize w1.alloc _ = W2 at *
  clear hb1 d1 hu1 a2 hd1 hB1 a1 h hg
  have hx1 := Lib.hid (show rb < w1.heap.size by have := hz1.out; omega)
  have hx2 := Lib.hid x2.lt
  rcases gN_or 4 b1 with hno' | ⟨size, b2, hg1'⟩
  · have hno := Lib.hid hno'
    have hr := Lib.hid (show rdD (d + 1) left b = none by rw [hr0h.out, gN_none hno']; rfl)
    clear hno' 
    go_wp2_with (first | (go_at_call 42; (with_reducible refine (qnum_no _ rb b1 false 4 4 d2 rfl (by unfold Wd; omega) (Or.inr hno.out)).mono ?_); rintro e w3 ⟨rfl, d3, hu3⟩; have x3 := x2.upd hu3 (fun e => by have := hx1.out; unfold Only at e; omega); have a33 := a3.upd hu3 (fun e => by unfold Only at e; omega); have u33 := u3.trans hu3 (fun _ h _ => h)) | (go_at_call 42; (with_reducible refine (qnum_no _ rb [] true 4 4 d3 rfl (by unfold Wd; omega) (Or.inl rfl)).mono ?_); rintro e w4 ⟨rfl, d4, hu4⟩; have x4 := x3.upd hu4 (fun e => by have := hx1.out; unfold Only at e; omega); have a4 := a33.upd hu4 (fun e => by unfold Only at e; omega); have u4 := u33.trans hu4 (fun _ h _ => h)))
    go_loopw [2, 11] (fun s2 s11 wr => s2 = .int .i64 (left - 1) ∧ s11 = .int .u64 0 ∧ wr = w4) (fun _ _ _ => 0)
    case atStart => exact ⟨rfl, rfl, rfl⟩
    case round =>
      obtain ⟨rfl, rfl, rfl⟩ := hrel
      go_wp2
      have xd := x4.drew; have ad := a4.drew; have aF0 := a4.fresh5 (.int .u8 169) (.int .u64 0) (.string ⟨#[]⟩) (.slice none 0 0) (.slice none 0 0); have aF := aF0.drew; have xF := (x4.upd (Upd.at5 wr w.heap.size (.int .u8 169) (.int .u64 0) (.string ⟨#[]⟩) (.slice none 0 0) (.slice none 0 0)) (fun e => by have := hz1.out; omega)).drew; have hF : Upd (Only rb) w _ := (u4.fresh5 (Nat.le_refl _) (.int .u8 169) (.int .u64 0) (.string ⟨#[]⟩) (.slice none 0 0) (.slice none 0 0)).drew; have dF := (d4.fresh5 hrl (.int .u8 169) (.int .u64 0) (.string ⟨#[]⟩) (.slice none 0 0) (.slice none 0 0)).pure (below_refl_dr _)
      have dd := d4.pure (below_refl_dr _)
      have ka0 := xd.at 0 rfl; have ka1 := xd.at 1 rfl; have ka2 := xd.at 2 rfl; have ka3 := xd.at 3 rfl; have ka4 := xd.at 4 rfl; have ka5 := dd.sp; have kb0 := xF.at 0 rfl; have kb1 := xF.at 1 rfl; have kb2 := xF.at 2 rfl; have kb3 := xF.at 3 rfl; have kb4 := xF.at 4 rfl; have kb5 := dF.sp
      have kz0 := ad.frozen 0; have kw0 := ad.at 0 rfl; have ky0 := a4.frozen 0; have kx0 := a4.at 0 rfl; have kz1 := ad.frozen 1; have kw1 := ad.at 1 rfl; have ky1 := a4.frozen 1; have kx1 := a4.at 1 rfl; have kz2 := ad.frozen 2; have kw2 := ad.at 2 rfl; have ky2 := a4.frozen 2; have kx2 := a4.at 2 rfl; have kz3 := ad.frozen 3; have kw3 := ad.at 3 rfl; have ky3 := a4.frozen 3; have kx3 := a4.at 3 rfl; have kz4 := ad.frozen 4; have kw4 := ad.at 4 rfl; have ky4 := a4.frozen 4; have kx4 := a4.at 4 rfl
      refine wp_region_held_drew (S := (fun w' => w'.cell? ⟨w1.heap.size, 0, none⟩ = some (.int .u8 169) ∧ w'.cell? ⟨w1.heap.size, 1, none⟩ = some (.int .u64 0) ∧ w'.cell? ⟨w1.heap.size, 2, none⟩ = some (.string ⟨#[]⟩) ∧ w'.cell? ⟨w1.heap.size, 3, none⟩ = some (.slice none 0 0) ∧ w'.cell? ⟨w1.heap.size, 4, none⟩ = some (.slice none 0 0) ∧ w'.cell? ⟨rb, 1, none⟩ = some (.bool true))) (by kernel_rfl) ?_ (fun hHeld => ?_)
      · (first | with_reducible exact ⟨ka0, ka1, ka2, ka3, ka4, ka5⟩ | with_reducible exact ⟨kb0, kb1, kb2, kb3, kb4, kb5⟩)
      refine takeY 0 108 rfl rfl (v := ?_) ?_ hHeld ?_
      rotate_left 1
      · (intro w hSw; (try dsimp only at hSw); go_simp; (try with_reducible rfl))
      try simp only [Act.put, lsT, lsZ, lsS]
      refine takeY 1 109 rfl rfl (v := ?_) ?_ hHeld ?_
      rotate_left 1
      · (intro w hSw; (try dsimp only at hSw); go_simp; (try with_reducible rfl))
      try simp only [Act.put, lsT, lsZ, lsS]
      refine takeY 2 110 rfl rfl (v := ?_) ?_ hHeld ?_
      rotate_left 1
      · (intro w hSw; (try dsimp only at hSw); go_simp; (try with_reducible rfl))
      try simp only [Act.put, lsT, lsZ, lsS]
      refine takeY 3 111 rfl rfl (v := ?_) ?_ hHeld ?_
      rotate_left 1
      · (intro w hSw; (try dsimp only at hSw); go_simp; (try with_reducible rfl))
      try simp only [Act.put, lsT, lsZ, lsS]
      refine takeY 4 112 rfl rfl (v := ?_) ?_ hHeld ?_
      rotate_left 1
      · (intro w hSw; (try dsimp only at hSw); go_simp; (try with_reducible rfl))
      try simp only [Act.put, lsT, lsZ, lsS]
      refine takeY 5 113 rfl rfl (v := ?_) ?_ hHeld ?_
      rotate_left 1
      · (intro w hSw; (try dsimp only at hSw); go_simp; (try with_reducible rfl))
      try simp only [Act.put, lsT, lsZ, lsS]
      refine takeY 6 114 rfl rfl (v := ?_) ?_ hHeld ?_
      rotate_left 1
      · (intro w hSw; (try dsimp only at hSw); go_simp; (try with_reducible rfl))
      try simp only [Act.put, lsT, lsZ, lsS]
      refine wpAnyH_ready (rs := [7]) (by kernel_rfl) (by simp) ?_
      refine AllReadyH.cons rfl (fun K hK => ?_) AllReadyH.nil
      go_simp
      skip
      refine hK.out _ _ ?_ (fun hHeld => ?_)
      · (first | with_reducible exact ⟨ka0, ka1, ka2, ka3, ka4, ka5⟩ | with_reducible exact ⟨kb0, kb1, kb2, kb3, kb4, kb5⟩)
      clear hK K
      try simp only [Act.put, lsT, lsZ, lsS]
      refine wpAnyH_ready (rs := [8]) (by kernel_rfl) (by simp) ?_
      refine AllReadyH.cons rfl (fun K hK => ?_) AllReadyH.nil
      go_simp
      skip
      refine hK.out _ _ ?_ (fun hHeld => ?_)
      · (first | with_reducible exact ⟨ka0, ka1, ka2, ka3, ka4, ka5⟩ | with_reducible exact ⟨kb0, kb1, kb2, kb3, kb4, kb5⟩)
      clear hK K
      try simp only [Act.put, lsT, lsZ, lsS]
      refine wpAnyH_ready (rs := [9]) (by kernel_rfl) (by simp) ?_
      refine AllReadyH.cons rfl (fun K hK => ?_) AllReadyH.nil
      go_simp
      skip
      refine hK.out _ _ ?_ (fun hHeld => ?_)
      · (first | with_reducible exact ⟨ka0, ka1, ka2, ka3, ka4, ka5⟩ | with_reducible exact ⟨kb0, kb1, kb2, kb3, kb4, kb5⟩)
      clear hK K
      try simp only [Act.put, lsT, lsZ, lsS]
      refine wpAnyH_done (by kernel_rfl) ?_ _
      have k0 := aF.at 0 rfl; have k1 := aF.at 1 rfl; have k2 := aF.at 2 rfl; have k3 := aF.at 3 rfl; have k4 := aF.at 4 rfl
      go_wp2
      refine bodyPost_ret (by simp [results, Tryd.results69, go_sem, k0, k1, k2, k3, k4]; rfl) rfl ?_
      rw [hr.out]; exact ⟨.mk 169 0 ⟨#[]⟩ (.slice none 0 0) (.slice none 0 0) [] [], left - 1, rfl, Rd.leaf (by omega) (by omega) (by omega) (by omega), hF⟩
  have hL2 : Big b2.length := hL1.mono (gN_lt hg1').2.1
  have hL21 := Lib.hid (gN_lt hg1').2.1
  have hg1 := Lib.hid hg1'
  rcases gN_or 4 b2 with hno' | ⟨n, b3, hg2'⟩
  · have hno := Lib.hid hno'
    have hr := Lib.hid (show rdD (d + 1) left b = none by rw [hr0h.out, hg1', Option.bind_some]; dsimp only; rw [gN_none hno']; rfl)
    clear hno' hg1' 
    go_wp2_with (first | (go_at_call 42; (with_reducible refine (qnum_yes _ rb b1 4 size 4 b2 d2 rfl (by unfold Wd; omega) hg1.out hL1).mono ?_); rintro e w3 ⟨rfl, d3, hu3⟩; have x3 := x2.upd hu3 (fun e => by have := hx1.out; unfold Only at e; omega); have a33 := a3.upd hu3 (fun e => by unfold Only at e; omega); have u33 := u3.trans hu3 (fun _ h _ => h)) | (go_at_call 42; (with_reducible refine (qnum_no _ rb b2 false 4 4 d3 rfl (by unfold Wd; omega) (Or.inr hno.out)).mono ?_); rintro e w4 ⟨rfl, d4, hu4⟩; have x4 := x3.upd hu4 (fun e => by have := hx1.out; unfold Only at e; omega); have a4 := a33.upd hu4 (fun e => by unfold Only at e; omega); have u4 := u33.trans hu4 (fun _ h _ => h)))
    go_loopw [2, 11] (fun s2 s11 wr => s2 = .int .i64 (left - 1) ∧ s11 = .int .u64 0 ∧ wr = w4) (fun _ _ _ => 0)
    case atStart => exact ⟨rfl, rfl, rfl⟩
    case round =>
      obtain ⟨rfl, rfl, rfl⟩ := hrel
      go_wp2
      have xd := x4.drew; have ad := a4.drew; have aF0 := a4.fresh5 (.int .u8 169) (.int .u64 0) (.string ⟨#[]⟩) (.slice none 0 0) (.slice none 0 0); have aF := aF0.drew; have xF := (x4.upd (Upd.at5 wr w.heap.size (.int .u8 169) (.int .u64 0) (.string ⟨#[]⟩) (.slice none 0 0) (.slice none 0 0)) (fun e => by have := hz1.out; omega)).drew; have hF : Upd (Only rb) w _ := (u4.fresh5 (Nat.le_refl _) (.int .u8 169) (.int .u64 0) (.string ⟨#[]⟩) (.slice none 0 0) (.slice none 0 0)).drew; have dF := (d4.fresh5 hrl (.int .u8 169) (.int .u64 0) (.string ⟨#[]⟩) (.slice none 0 0) (.slice none 0 0)).pure (below_refl_dr _)
      have dd := d4.pure (below_refl_dr _)
      have ka0 := xd.at 0 rfl; have ka1 := xd.at 1 rfl; have ka2 := xd.at 2 rfl; have ka3 := xd.at 3 rfl; have ka4 := xd.at 4 rfl; have ka5 := dd.sp; have kb0 := xF.at 0 rfl; have kb1 := xF.at 1 rfl; have kb2 := xF.at 2 rfl; have kb3 := xF.at 3 rfl; have kb4 := xF.at 4 rfl; have kb5 := dF.sp
      have kz0 := ad.frozen 0; have kw0 := ad.at 0 rfl; have ky0 := a4.frozen 0; have kx0 := a4.at 0 rfl; have kz1 := ad.frozen 1; have kw1 := ad.at 1 rfl; have ky1 := a4.frozen 1; have kx1 := a4.at 1 rfl; have kz2 := ad.frozen 2; have kw2 := ad.at 2 rfl; have ky2 := a4.frozen 2; have kx2 := a4.at 2 rfl; have kz3 := ad.frozen 3; have kw3 := ad.at 3 rfl; have ky3 := a4.frozen 3; have kx3 := a4.at 3 rfl; have kz4 := ad.frozen 4; have kw4 := ad.at 4 rfl; have ky4 := a4.frozen 4; have kx4 := a4.at 4 rfl
      refine wp_region_held_drew (S := (fun w' => w'.cell? ⟨w1.heap.size, 0, none⟩ = some (.int .u8 169) ∧ w'.cell? ⟨w1.heap.size, 1, none⟩ = some (.int .u64 0) ∧ w'.cell? ⟨w1.heap.size, 2, none⟩ = some (.string ⟨#[]⟩) ∧ w'.cell? ⟨w1.heap.size, 3, none⟩ = some (.slice none 0 0) ∧ w'.cell? ⟨w1.heap.size, 4, none⟩ = some (.slice none 0 0) ∧ w'.cell? ⟨rb, 1, none⟩ = some (.bool true))) (by kernel_rfl) ?_ (fun hHeld => ?_)
      · (first | with_reducible exact ⟨ka0, ka1, ka2, ka3, ka4, ka5⟩ | with_reducible exact ⟨kb0, kb1, kb2, kb3, kb4, kb5⟩)
      refine takeY 0 108 rfl rfl (v := ?_) ?_ hHeld ?_
      rotate_left 1
      · (intro w hSw; (try dsimp only at hSw); go_simp; (try with_reducible rfl))
      try simp only [Act.put, lsT, lsZ, lsS]
      refine takeY 1 109 rfl rfl (v := ?_) ?_ hHeld ?_
      rotate_left 1
      · (intro w hSw; (try dsimp only at hSw); go_simp; (try with_reducible rfl))
      try simp only [Act.put, lsT, lsZ, lsS]
      refine takeY 2 110 rfl rfl (v := ?_) ?_ hHeld ?_
      rotate_left 1
      · (intro w hSw; (try dsimp only at hSw); go_simp; (try with_reducible rfl))
      try simp only [Act.put, lsT, lsZ, lsS]
      refine takeY 3 111 rfl rfl (v := ?_) ?_ hHeld ?_
      rotate_left 1
      · (intro w hSw; (try dsimp only at hSw); go_simp; (try with_reducible rfl))
      try simp only [Act.put, lsT, lsZ, lsS]
      refine takeY 4 112 rfl rfl (v := ?_) ?_ hHeld ?_
      rotate_left 1
      · (intro w hSw; (try dsimp only at hSw); go_simp; (try with_reducible rfl))
      try simp only [Act.put, lsT, lsZ, lsS]
      refine takeY 5 113 rfl rfl (v := ?_) ?_ hHeld ?_
      rotate_left 1
      · (intro w hSw; (try dsimp only at hSw); go_simp; (try with_reducible rfl))
      try simp only [Act.put, lsT, lsZ, lsS]
      refine takeY 6 114 rfl rfl (v := ?_) ?_ hHeld ?_
      rotate_left 1
      · (intro w hSw; (try dsimp only at hSw); go_simp; (try with_reducible rfl))
      try simp only [Act.put, lsT, lsZ, lsS]
      refine wpAnyH_ready (rs := [7]) (by kernel_rfl) (by simp) ?_
      refine AllReadyH.cons rfl (fun K hK => ?_) AllReadyH.nil
      go_simp
      skip
      refine hK.out _ _ ?_ (fun hHeld => ?_)
      · (first | with_reducible exact ⟨ka0, ka1, ka2, ka3, ka4, ka5⟩ | with_reducible exact ⟨kb0, kb1, kb2, kb3, kb4, kb5⟩)
      clear hK K
      try simp only [Act.put, lsT, lsZ, lsS]
      refine wpAnyH_ready (rs := [8]) (by kernel_rfl) (by simp) ?_
      refine AllReadyH.cons rfl (fun K hK => ?_) AllReadyH.nil
      go_simp
      skip
      refine hK.out _ _ ?_ (fun hHeld => ?_)
      · (first | with_reducible exact ⟨ka0, ka1, ka2, ka3, ka4, ka5⟩ | with_reducible exact ⟨kb0, kb1, kb2, kb3, kb4, kb5⟩)
      clear hK K
      try simp only [Act.put, lsT, lsZ, lsS]
      refine wpAnyH_ready (rs := [9]) (by kernel_rfl) (by simp) ?_
      refine AllReadyH.cons rfl (fun K hK => ?_) AllReadyH.nil
      go_simp
      skip
      refine hK.out _ _ ?_ (fun hHeld => ?_)
      · (first | with_reducible exact ⟨ka0, ka1, ka2, ka3, ka4, ka5⟩ | with_reducible exact ⟨kb0, kb1, kb2, kb3, kb4, kb5⟩)
      clear hK K
      try simp only [Act.put, lsT, lsZ, lsS]
      refine wpAnyH_done (by kernel_rfl) ?_ _
      have k0 := aF.at 0 rfl; have k1 := aF.at 1 rfl; have k2 := aF.at 2 rfl; have k3 := aF.at 3 rfl; have k4 := aF.at 4 rfl
      go_wp2
      refine bodyPost_ret (by simp [results, Tryd.results69, go_sem, k0, k1, k2, k3, k4]; rfl) rfl ?_
      rw [hr.out]; exact ⟨.mk 169 0 ⟨#[]⟩ (.slice none 0 0) (.slice none 0 0) [] [], left - 1, rfl, Rd.leaf (by omega) (by omega) (by omega) (by omega), hF⟩
  have hL3 : Big b3.length := hL2.mono (gN_lt hg2').2.1
  have hg2 := Lib.hid hg2'
  have hr := Lib.hid (show rdD (d + 1) left b = (rdMany (rdD d) false (min n 200) (left - 1) b3).bind fun z => some (.mk 169 0 ByteArray.empty z.1 z.2.1, z.2.2.1, z.2.2.2) by rw [hr0h.out, hg1', Option.bind_some]; dsimp only; rw [hg2', Option.bind_some])
  clear hg1' hg2'
  go_wp2_with (first | (go_at_call 42; (with_reducible refine (qnum_yes _ rb b1 4 size 4 b2 d2 rfl (by unfold Wd; omega) hg1.out hL1).mono ?_); rintro e w3 ⟨rfl, d3, hu3⟩; have x3 := x2.upd hu3 (fun e => by have := hx1.out; unfold Only at e; omega); have a33 := a3.upd hu3 (fun e => by unfold Only at e; omega); have u33 := u3.trans hu3 (fun _ h _ => h)) | (go_at_call 42; (with_reducible refine (qnum_yes _ rb b2 4 n 4 b3 d3 rfl (by unfold Wd; omega) hg2.out hL2).mono ?_); rintro e w4 ⟨rfl, d4, hu4⟩; have x4 := x3.upd hu4 (fun e => by have := hx1.out; unfold Only at e; omega); have a4 := a33.upd hu4 (fun e => by unfold Only at e; omega); have u4 := u33.trans hu4 (fun _ h _ => h)))
  have hup : Upd (DTwo rb w1.heap.size) W2 w4 := (hu3.trans hu4 (fun _ h _ => h)).mono (fun i e _ => Or.inl e)
  have hM4 := Lib.hid (show DSt W2 rb w1.heap.size 169 w4 b3 false (.slice none 0 0) (.slice none 0 0) [] [] from ⟨d4, x4, Own.nil, Own.nil, fun x hx => absurd hx (by simp), hup, hx1.out, hx2.out⟩)
  have hA3 := Lib.hid a3; have hU3 := Lib.hid u3
  clear x2 x3 x4 a3 a33 a4 u3 u33 u4 d2 d3 d4 hu3 hu4 hup sp2 f0 f1 f2 f3 f4 fy0 fy1 fy2 fy3 fy4 t0 t1 t2 t3 t4 ty0 ty1 ty2 ty3 ty4
  go_loopw [2, 11] (fun s2 s11 wr => ∃ (j : Nat) (kv lv : Value) (ks : List ByteArray) (L : List VT) (lj : Int) (bj : List UInt8), j ≤ min n 200 ∧ s2 = .int .i64 lj ∧ s11 = .int .u64 j ∧ Hid (DSt W2 rb w1.heap.size 169 wr bj false kv lv ks L) ∧ Hid (L.length = j ∧ ks.length ≤ j) ∧ 0 ≤ lj ∧ lj ≤ 200 ∧ Hid (bj.length ≤ b3.length) ∧ Hid (rdMany (rdD d) false (min n 200) (left - 1) b3 = glue ks (L.map VT.v) (rdMany (rdD d) false (min n 200 - j) lj bj))) (fun _ s11 _ => min n 200 - (intOf s11).toNat)
  case atStart => exact ⟨0, _, _, [], [], left - 1, b3, by omega, rfl, rfl, hM4, Lib.hid ⟨rfl, Nat.le_refl _⟩, hl0, by omega, Lib.hid (Nat.le_refl _), Lib.hid (by rw [List.map_nil, glue_nil]; rfl)⟩
  case round =>
    clear hM4
    obtain ⟨j, kv, lv, ks, L, lj, bj, hj, rfl, rfl, hMh, hlen, hl0j, hl1j, hbj, hT⟩ := hrel
    have hM := hMh.out
    obtain ⟨ka, kc, rfl⟩ := own_lenB hM.ko
    obtain ⟨la, lc, rfl⟩ := own_lenB hM.lo
    have hLj : Big bj.length := hL3.mono hbj.out
    have x0 := hM.x.at 0 rfl; have x3 := hM.x.at 3 rfl; have x4 := hM.x.at 4 rfl; have xs := hM.pr.sp
    have hA := hA3.out.upd hM.up (fun e => by have h1 := hz1.out; unfold DTwo at e; omega)
    have hU : Upd (Only rb) w wr := hU3.out.trans hM.up (fun i e hi => by have h1 := hz1.out; unfold DTwo at e; unfold Only; omega)
    by_cases hlt : j < min n 200
    · have h1 : (j : Int) < (n : Int) := by omega
      have h2 : (j : Int) < 200 := by omega
      have hkl := Lib.hid (show ks.length < 200 by have := hlen.out.2; omega)
      have hLl := Lib.hid (show L.length < 200 by have := hlen.out.1; omega)
      have hnj := Lib.hid (show min n 200 - j = (min n 200 - (j + 1)) + 1 by omega)
      have hA' := Lib.hid hA; have hU' := Lib.hid hU
      clear hA hU
      rcases hx : rdD d lj bj with _ | ⟨x, l1, b2'⟩
      · have hrT := Lib.hid (show rdD (d + 1) left b = none by rw [hr.out, hT.out, hnj.out, glue_noplain hx]; rfl)
        have hrd := Lib.hid (fun (u : World) (p : DrS u rb bj false) => show Calls Tryd.prog 69 #[.pointer (some ⟨rb, 0, none⟩), .int .i64 (dp + 1), .int .i64 lj] u (DReadPost u rb none) by have h9 := hdd.out; have := hRh.out u rb lj (dp + 1) bj p (by omega) (by omega) hl0j hl1j hLj; rw [hx] at this; exact this)
        clear hx
        go_wp2_with (first | (go_at_call 69; refine (hrd.out _ hM.pr).mono ?_; rintro e w7 ⟨t, l, he, htR, hu7⟩; obtain ⟨tk, tn, ts, xka, xkc, xla, xlc, tks, tl, rfl, -, -, -, -⟩ := htR.open; rw [VT.arg_mk] at he; subst he; have x7 := hM.x.upd hu7 (fun e => by have := hx1.out; unfold Only at e; omega); have a7 := (hA3.out.upd hM.up (fun e => by have h1 := hz1.out; unfold DTwo at e; omega)).upd hu7 (fun e => by unfold Only at e; omega); have x8 := x7.alloc (.cells #[.int .u8 tk, .int .u64 tn, .string ts, .slice xka tks.length xkc, .slice xla tl.length xlc] 27); have a8 := a7.alloc (.cells #[.int .u8 tk, .int .u64 tn, .string ts, .slice xka tks.length xkc, .slice xla tl.length xlc] 27); have m0 := x8.at 0 rfl; have my0 := x8.frozen 0; have m1 := x8.at 1 rfl; have my1 := x8.frozen 1; have m2 := x8.at 2 rfl; have my2 := x8.frozen 2; have m3 := x8.at 3 rfl; have my3 := x8.frozen 3; have m4 := x8.at 4 rfl; have my4 := x8.frozen 4; have t0 := a8.at 0 rfl; have ty0 := a8.frozen 0; have t1 := a8.at 1 rfl; have ty1 := a8.frozen 1; have t2 := a8.at 2 rfl; have ty2 := a8.frozen 2; have t3 := a8.at 3 rfl; have ty3 := a8.frozen 3; have t4 := a8.at 4 rfl; have ty4 := a8.frozen 4))
        have aF := a8.fresh5 (.int .u8 169) (.int .u64 0) (.string ⟨#[]⟩) (.slice ka ks.length kc) (.slice la L.length lc)
        have k0 := aF.at 0 rfl; have k1 := aF.at 1 rfl; have k2 := aF.at 2 rfl; have k3 := aF.at 3 rfl; have k4 := aF.at 4 rfl
        have hU5 : Upd (fun i => i = rb ∨ i = w.heap.size) wr _ := ((hu7.mono (T := fun i => i = rb ∨ i = w.heap.size) (fun i e _ => Or.inl e)).trans (Upd.of_below (S := fun _ => False) ((Below.refl w7.heap.size w7).alloc (Nat.le_refl _) (.cells #[.int .u8 tk, .int .u64 tn, .string ts, .slice xka tks.length xkc, .slice xla tl.length xlc] 27))) (fun _ e _ => e.elim)).trans (Upd.at5 (w7.alloc (.cells #[.int .u8 tk, .int .u64 tn, .string ts, .slice xka tks.length xkc, .slice xla tl.length xlc] 27)) w.heap.size (.int .u8 169) (.int .u64 0) (.string ⟨#[]⟩) (.slice ka ks.length kc) (.slice la L.length lc)) (fun i e _ => Or.inr e)
        refine bodyPost_ret (by simp [results, Tryd.results69, go_sem, k0, k1, k2, k3, k4]; rfl) rfl ?_
        rw [hrT.out]
        have hz := hz1.out; have hx1' := hx1.out; have hx2' := hx2.out
        refine ⟨.mk 169 0 ⟨#[]⟩ (.slice ka ks.length kc) (.slice la L.length lc) ks L, l, rfl, ?_, ?_⟩
        · exact (hM.whole hU5 (fun i e => by omega) (by omega) (by omega)).weaken (fun i _ hi => by omega)
        · exact (hU3.out.trans hM.up (fun i e hi => by unfold DTwo at e; unfold Only; omega)).trans hU5 (fun i e hi => by unfold Only; omega)
      · have hT2 := Lib.hid (show rdMany (rdD d) false (min n 200) (left - 1) b3 = glue ks (L.map VT.v ++ [x]) (rdMany (rdD d) false (min n 200 - (j + 1)) l1 b2') by rw [hT.out, hnj.out, glue_plain hx])
        have hll := rdD_left _ _ _ _ _ _ hx
        have hlb := Lib.hid (show b2'.length ≤ b3.length by have h1 := hll.2.2; have h2 := hbj.out; omega)
        have hl1' : l1 ≤ 200 := by omega
        have hl0' : 0 ≤ l1 := hll.1
        have hrd := Lib.hid (fun (u : World) (p : DrS u rb bj false) => show Calls Tryd.prog 69 #[.pointer (some ⟨rb, 0, none⟩), .int .i64 (dp + 1), .int .i64 lj] u (DReadPost u rb (some (x, l1, b2'))) by have h9 := hdd.out; have := hRh.out u rb lj (dp + 1) bj p (by omega) (by omega) hl0j hl1j hLj; rw [hx] at this; exact this)
        clear hx hll hT
        go_wp2_with (first | (go_at_call 69; refine (hrd.out _ hM.pr).mono ?_; rintro e w7 ⟨t, he, htv, htR, p7, hu7⟩; have hM7 := hM.moved p7 hu7 (fun i e => e); have ht7 := hM.tree htR; obtain ⟨tk, tn, ts, xka, xkc, xla, xlc, tks, tl, rfl, -, -, -, -⟩ := htR.open; rw [VT.arg_mk] at he; subst he; have htvh := Lib.hid htv; clear htv; have hb8 := (Below.refl w7.heap.size w7).alloc (Nat.le_refl _) (.cells #[.int .u8 tk, .int .u64 tn, .string ts, .slice xka tks.length xkc, .slice xla tl.length xlc] 27); have hM8 := hM7.alloc (.cells #[.int .u8 tk, .int .u64 tn, .string ts, .slice xka tks.length xkc, .slice xla tl.length xlc] 27); have bt := Blk.new w7 [.int .u8 tk, .int .u64 tn, .string ts, .slice xka tks.length xkc, .slice xla tl.length xlc] 27; have hM9 := hM8.alloc (.cells #[.int .u8 tk, .int .u64 tn, .string ts, .slice xka tks.length xkc, .slice xla tl.length xlc] 27); have bt9 := Blk.newK (w7.alloc (.cells #[.int .u8 tk, .int .u64 tn, .string ts, .slice xka tks.length xkc, .slice xla tl.length xlc] 27)) [.int .u8 tk, .int .u64 tn, .string ts, .slice xka tks.length xkc, .slice xla tl.length xlc] 27 (w7.heap.size + 1) (by simp); have ht9 := (ht7.pure hb8).pure ((Below.refl (w7.alloc (.cells #[.int .u8 tk, .int .u64 tn, .string ts, .slice xka tks.length xkc, .slice xla tl.length xlc] 27)).heap.size (w7.alloc (.cells #[.int .u8 tk, .int .u64 tn, .string ts, .slice xka tks.length xkc, .slice xla tl.length xlc] 27))).alloc (Nat.le_refl _) (.cells #[.int .u8 tk, .int .u64 tn, .string ts, .slice xka tks.length xkc, .slice xla tl.length xlc] 27)); have m4 := hM8.x.at 4 rfl; have n4 := hM9.x.at 4 rfl; have b0 := bt.at 0 rfl; have b1 := bt.at 1 rfl; have b2 := bt.at 2 rfl; have b3 := bt.at 3 rfl; have b4 := bt.at 4 rfl) | (at_builtin; refine wpList_appOne (base := W2.heap.size) rfl (.tmp 103) (.tmp 105) 25 27 rfl elem_val vEnc_len _ L rfl hM9.lo (w7.heap.size + 1) 1 (.mk tk tn ts (.slice xka tks.length xkc) (.slice xla tl.length xlc) tks tl) (by simp [vEnc, VT.k, VT.n, VT.s, VT.kv, VT.lv, Value.oneCell']) rfl (fun j u hu => (bt9.cell j).trans hu) (by have := hLl.out; omega) (by have := hLl.out; unfold maxLen; omega) hM9.up.size ?_; intro g cap w10 hO10 hgr10 hf10; obtain ⟨hx10, hM10⟩ := hM9.app hO10 hgr10 hf10 ht9; have r4 := hx10.at 4 rfl; have rz4 := hx10.frozen 4))
        go_roundw
        case rel => exact ⟨j + 1, _, _, _, _, l1, b2', by omega, rfl, by go_num, Lib.hid hM10, Lib.hid ⟨by have := hlen.out.1; simp; omega, by have := hlen.out.2; omega⟩, hl0', hl1', hlb, Lib.hid (by rw [hT2.out, List.map_append, ← htvh.out]; rfl)⟩
        case measure => simp [intOf]; omega
    · obtain rfl : j = min n 200 := by omega
      have hfin := Lib.hid (show rdD (d + 1) left b = some (.mk 169 0 ByteArray.empty ks (L.map VT.v), lj, bj) by rw [hr.out, hT.out, Nat.sub_self, glue_end]; rfl)
      obtain ⟨dr, xx⟩ : DrS wr rb bj false ∧ Blk wr w1.heap.size [.int .u8 169, .int .u64 0, .string ⟨#[]⟩, .slice ka ks.length kc, .slice la L.length lc] := ⟨hM.pr, hM.x⟩
      have hMz := Lib.hid hM
      have hnm := Lib.hid (show min n 200 ≤ 200 ∧ (min n 200 = n ∨ min n 200 = 200 ∧ 200 < n) by omega)
      obtain ⟨q, hq⟩ : ∃ q, min n 200 = q := ⟨_, rfl⟩
      rw [hq] at hnm ⊢
      have hq0 : (0 : Int) ≤ (q : Int) := by omega
      clear hM hMh hbj hT hr hL2 hL3 hLj hj hlt hlen hq
      by_cases hqn : q < n
      · have e1 : (q : Int) < (n : Int) := by omega
        have e2 : ¬ (q : Int) < 200 := by have := hnm.out; omega
        have e3 : decide ((q : Int) < 200) = false := decide_eq_false e2
        have e4 : decide (q < n) = true := decide_eq_true hqn
        go_wp2
        have xd := xx.drew; have ad := hA.drew; have aF0 := hA.fresh5 (.int .u8 169) (.int .u64 0) (.string ⟨#[]⟩) (.slice ka ks.length kc) (.slice la L.length lc); have aF := aF0.drew; have xF := (xx.upd (Upd.at5 wr w.heap.size (.int .u8 169) (.int .u64 0) (.string ⟨#[]⟩) (.slice ka ks.length kc) (.slice la L.length lc)) (fun e => by have := hz1.out; omega)).drew; have hF : Upd (Only rb) w _ := (hU.fresh5 (Nat.le_refl _) (.int .u8 169) (.int .u64 0) (.string ⟨#[]⟩) (.slice ka ks.length kc) (.slice la L.length lc)).drew; have dF := (dr.fresh5 hrl (.int .u8 169) (.int .u64 0) (.string ⟨#[]⟩) (.slice ka ks.length kc) (.slice la L.length lc)).pure (below_refl_dr _)
        have dd := dr.pure (below_refl_dr _)
        have ka0 := xd.at 0 rfl; have ka1 := xd.at 1 rfl; have ka2 := xd.at 2 rfl; have ka3 := xd.at 3 rfl; have ka4 := xd.at 4 rfl; have ka5 := dd.sp; have kb0 := xF.at 0 rfl; have kb1 := xF.at 1 rfl; have kb2 := xF.at 2 rfl; have kb3 := xF.at 3 rfl; have kb4 := xF.at 4 rfl; have kb5 := dF.sp
        have kz0 := ad.frozen 0; have kw0 := ad.at 0 rfl; have ky0 := hA.frozen 0; have kx0 := hA.at 0 rfl; have kz1 := ad.frozen 1; have kw1 := ad.at 1 rfl; have ky1 := hA.frozen 1; have kx1 := hA.at 1 rfl; have kz2 := ad.frozen 2; have kw2 := ad.at 2 rfl; have ky2 := hA.frozen 2; have kx2 := hA.at 2 rfl; have kz3 := ad.frozen 3; have kw3 := ad.at 3 rfl; have ky3 := hA.frozen 3; have kx3 := hA.at 3 rfl; have kz4 := ad.frozen 4; have kw4 := ad.at 4 rfl; have ky4 := hA.frozen 4; have kx4 := hA.at 4 rfl
        refine wp_region_held_drew (S := (fun w' => w'.cell? ⟨w1.heap.size, 0, none⟩ = some (.int .u8 169) ∧ w'.cell? ⟨w1.heap.size, 1, none⟩ = some (.int .u64 0) ∧ w'.cell? ⟨w1.heap.size, 2, none⟩ = some (.string ⟨#[]⟩) ∧ w'.cell? ⟨w1.heap.size, 3, none⟩ = some (.slice ka ks.length kc) ∧ w'.cell? ⟨w1.heap.size, 4, none⟩ = some (.slice la L.length lc) ∧ w'.cell? ⟨rb, 1, none⟩ = some (.bool false))) (by kernel_rfl) ?_ (fun hHeld => ?_)
        · (first | with_reducible exact ⟨ka0, ka1, ka2, ka3, ka4, ka5⟩ | with_reducible exact ⟨kb0, kb1, kb2, kb3, kb4, kb5⟩)
        refine takeY 0 108 rfl rfl (v := ?_) ?_ hHeld ?_
        rotate_left 1
        · (intro w hSw; (try dsimp only at hSw); go_simp; (try with_reducible rfl))
        try simp only [Act.put, lsT, lsZ, lsS]
        refine takeY 1 109 rfl rfl (v := ?_) ?_ hHeld ?_
        rotate_left 1
        · (intro w hSw; (try dsimp only at hSw); go_simp; (try with_reducible rfl))
        try simp only [Act.put, lsT, lsZ, lsS]
        refine takeY 2 110 rfl rfl (v := ?_) ?_ hHeld ?_
        rotate_left 1
        · (intro w hSw; (try dsimp only at hSw); go_simp; (try with_reducible rfl))
        try simp only [Act.put, lsT, lsZ, lsS]
        refine takeY 3 111 rfl rfl (v := ?_) ?_ hHeld ?_
        rotate_left 1
        · (intro w hSw; (try dsimp only at hSw); go_simp; (try with_reducible rfl))
        try simp only [Act.put, lsT, lsZ, lsS]
        refine takeY 4 112 rfl rfl (v := ?_) ?_ hHeld ?_
        rotate_left 1
        · (intro w hSw; (try dsimp only at hSw); go_simp; (try with_reducible rfl))
        try simp only [Act.put, lsT, lsZ, lsS]
        refine takeY 5 113 rfl rfl (v := ?_) ?_ hHeld ?_
        rotate_left 1
        · (intro w hSw; (try dsimp only at hSw); go_simp; (try with_reducible rfl))
        try simp only [Act.put, lsT, lsZ, lsS]
        refine takeY 6 114 rfl rfl (v := ?_) ?_ hHeld ?_
        rotate_left 1
        · (intro w hSw; (try dsimp only at hSw); go_simp; (try with_reducible rfl))
        try simp only [Act.put, lsT, lsZ, lsS]
        refine wpAnyH_ready (rs := [7]) (by kernel_rfl) (by simp) ?_
        refine AllReadyH.cons rfl (fun K hK => ?_) AllReadyH.nil
        go_simp
        skip
        refine hK.out _ _ ?_ (fun hHeld => ?_)
        · (first | with_reducible exact ⟨ka0, ka1, ka2, ka3, ka4, ka5⟩ | with_reducible exact ⟨kb0, kb1, kb2, kb3, kb4, kb5⟩)
        clear hK K
        try simp only [Act.put, lsT, lsZ, lsS]
        refine wpAnyH_ready (rs := [8]) (by kernel_rfl) (by simp) ?_
        refine AllReadyH.cons rfl (fun K hK => ?_) AllReadyH.nil
        go_simp
        skip
        refine hK.out _ _ ?_ (fun hHeld => ?_)
        · (first | with_reducible exact ⟨ka0, ka1, ka2, ka3, ka4, ka5⟩ | with_reducible exact ⟨kb0, kb1, kb2, kb3, kb4, kb5⟩)
        clear hK K
        try simp only [Act.put, lsT, lsZ, lsS]
        refine wpAnyH_ready (rs := [9]) (by kernel_rfl) (by simp) ?_
        refine AllReadyH.cons rfl (fun K hK => ?_) AllReadyH.nil
        go_simp
        skip
        refine hK.out _ _ ?_ (fun hHeld => ?_)
        · (first | with_reducible exact ⟨ka0, ka1, ka2, ka3, ka4, ka5⟩ | with_reducible exact ⟨kb0, kb1, kb2, kb3, kb4, kb5⟩)
        clear hK K
        try simp only [Act.put, lsT, lsZ, lsS]
        refine wpAnyH_done (by kernel_rfl) ?_ _
        have k0 := aF.at 0 rfl; have k1 := aF.at 1 rfl; have k2 := aF.at 2 rfl; have k3 := aF.at 3 rfl; have k4 := aF.at 4 rfl
        go_wp2
        refine bodyPost_ret (by simp [results, Tryd.results69, go_sem, k0, k1, k2, k3, k4]; rfl) rfl ?_
        rw [hfin.out]
        have hz := hz1.out; have hx1' := hx1.out; have hx2' := hx2.out
        refine ⟨.mk 169 0 ⟨#[]⟩ (.slice ka ks.length kc) (.slice la L.length lc) ks L, rfl, by rw [VT.v_eq]; rfl, ?_, dF, hF⟩
        exact (hMz.out.whole (S := fun i => i = w.heap.size) (Upd.at5 wr w.heap.size (.int .u8 169) (.int .u64 0) (.string ⟨#[]⟩) (.slice ka ks.length kc) (.slice la L.length lc)).drew (fun i e => by omega) (by omega) (by omega)).weaken (fun i _ hi => by omega)
      · have e1 : ¬ (q : Int) < (n : Int) := by omega
        have e4 : decide (q < n) = false := decide_eq_false hqn
        go_wp2
        have xd := xx.drew; have ad := hA.drew; have aF0 := hA.fresh5 (.int .u8 169) (.int .u64 0) (.string ⟨#[]⟩) (.slice ka ks.length kc) (.slice la L.length lc); have aF := aF0.drew; have xF := (xx.upd (Upd.at5 wr w.heap.size (.int .u8 169) (.int .u64 0) (.string ⟨#[]⟩) (.slice ka ks.length kc) (.slice la L.length lc)) (fun e => by have := hz1.out; omega)).drew; have hF : Upd (Only rb) w _ := (hU.fresh5 (Nat.le_refl _) (.int .u8 169) (.int .u64 0) (.string ⟨#[]⟩) (.slice ka ks.length kc) (.slice la L.length lc)).drew; have dF := (dr.fresh5 hrl (.int .u8 169) (.int .u64 0) (.string ⟨#[]⟩) (.slice ka ks.length kc) (.slice la L.length lc)).pure (below_refl_dr _)
        have dd := dr.pure (below_refl_dr _)
        have ka0 := xd.at 0 rfl; have ka1 := xd.at 1 rfl; have ka2 := xd.at 2 rfl; have ka3 := xd.at 3 rfl; have ka4 := xd.at 4 rfl; have ka5 := dd.sp; have kb0 := xF.at 0 rfl; have kb1 := xF.at 1 rfl; have kb2 := xF.at 2 rfl; have kb3 := xF.at 3 rfl; have kb4 := xF.at 4 rfl; have kb5 := dF.sp
        have kz0 := ad.frozen 0; have kw0 := ad.at 0 rfl; have ky0 := hA.frozen 0; have kx0 := hA.at 0 rfl; have kz1 := ad.frozen 1; have kw1 := ad.at 1 rfl; have ky1 := hA.frozen 1; have kx1 := hA.at 1 rfl; have kz2 := ad.frozen 2; have kw2 := ad.at 2 rfl; have ky2 := hA.frozen 2; have kx2 := hA.at 2 rfl; have kz3 := ad.frozen 3; have kw3 := ad.at 3 rfl; have ky3 := hA.frozen 3; have kx3 := hA.at 3 rfl; have kz4 := ad.frozen 4; have kw4 := ad.at 4 rfl; have ky4 := hA.frozen 4; have kx4 := hA.at 4 rfl
        refine wp_region_held_drew (S := (fun w' => w'.cell? ⟨w1.heap.size, 0, none⟩ = some (.int .u8 169) ∧ w'.cell? ⟨w1.heap.size, 1, none⟩ = some (.int .u64 0) ∧ w'.cell? ⟨w1.heap.size, 2, none⟩ = some (.string ⟨#[]⟩) ∧ w'.cell? ⟨w1.heap.size, 3, none⟩ = some (.slice ka ks.length kc) ∧ w'.cell? ⟨w1.heap.size, 4, none⟩ = some (.slice la L.length lc) ∧ w'.cell? ⟨rb, 1, none⟩ = some (.bool false))) (by kernel_rfl) ?_ (fun hHeld => ?_)
        · (first | with_reducible exact ⟨ka0, ka1, ka2, ka3, ka4, ka5⟩ | with_reducible exact ⟨kb0, kb1, kb2, kb3, kb4, kb5⟩)
        refine takeY 0 108 rfl rfl (v := ?_) ?_ hHeld ?_
        rotate_left 1
        · (intro w hSw; (try dsimp only at hSw); go_simp; (try with_reducible rfl))
        try simp only [Act.put, lsT, lsZ, lsS]
        refine takeY 1 109 rfl rfl (v := ?_) ?_ hHeld ?_
        rotate_left 1
        · (intro w hSw; (try dsimp only at hSw); go_simp; (try with_reducible rfl))
        try simp only [Act.put, lsT, lsZ, lsS]
        refine takeY 2 110 rfl rfl (v := ?_) ?_ hHeld ?_
        rotate_left 1
        · (intro w hSw; (try dsimp only at hSw); go_simp; (try with_reducible rfl))
        try simp only [Act.put, lsT, lsZ, lsS]
        refine takeY 3 111 rfl rfl (v := ?_) ?_ hHeld ?_
        rotate_left 1
        · (intro w hSw; (try dsimp only at hSw); go_simp; (try with_reducible rfl))
        try simp only [Act.put, lsT, lsZ, lsS]
        refine takeY 4 112 rfl rfl (v := ?_) ?_ hHeld ?_
        rotate_left 1
        · (intro w hSw; (try dsimp only at hSw); go_simp; (try with_reducible rfl))
        try simp only [Act.put, lsT, lsZ, lsS]
        refine takeY 5 113 rfl rfl (v := ?_) ?_ hHeld ?_
        rotate_left 1
        · (intro w hSw; (try dsimp only at hSw); go_simp; (try with_reducible rfl))
        try simp only [Act.put, lsT, lsZ, lsS]
        refine takeY 6 114 rfl rfl (v := ?_) ?_ hHeld ?_
        rotate_left 1
        · (intro w hSw; (try dsimp only at hSw); go_simp; (try with_reducible rfl))
        try simp only [Act.put, lsT, lsZ, lsS]
        refine wpAnyH_ready (rs := [7]) (by kernel_rfl) (by simp) ?_
        refine AllReadyH.cons rfl (fun K hK => ?_) AllReadyH.nil
        go_simp
        skip
        refine hK.out _ _ ?_ (fun hHeld => ?_)
        · (first | with_reducible exact ⟨ka0, ka1, ka2, ka3, ka4, ka5⟩ | with_reducible exact ⟨kb0, kb1, kb2, kb3, kb4, kb5⟩)
        clear hK K
        try simp only [Act.put, lsT, lsZ, lsS]
        refine wpAnyH_ready (rs := [8]) (by kernel_rfl) (by simp) ?_
        refine AllReadyH.cons rfl (fun K hK => ?_) AllReadyH.nil
        go_simp
        skip
        refine hK.out _ _ ?_ (fun hHeld => ?_)
        · (first | with_reducible exact ⟨ka0, ka1, ka2, ka3, ka4, ka5⟩ | with_reducible exact ⟨kb0, kb1, kb2, kb3, kb4, kb5⟩)
        clear hK K
        try simp only [Act.put, lsT, lsZ, lsS]
        refine wpAnyH_ready (rs := [9]) (by kernel_rfl) (by simp) ?_
        refine AllReadyH.cons rfl (fun K hK => ?_) AllReadyH.nil
        go_simp
        skip
        refine hK.out _ _ ?_ (fun hHeld => ?_)
        · (first | with_reducible exact ⟨ka0, ka1, ka2, ka3, ka4, ka5⟩ | with_reducible exact ⟨kb0, kb1, kb2, kb3, kb4, kb5⟩)
        clear hK K
        try simp only [Act.put, lsT, lsZ, lsS]
        refine wpAnyH_done (by kernel_rfl) ?_ _
        have k0 := aF.at 0 rfl; have k1 := aF.at 1 rfl; have k2 := aF.at 2 rfl; have k3 := aF.at 3 rfl; have k4 := aF.at 4 rfl
        go_wp2
        refine bodyPost_ret (by simp [results, Tryd.results69, go_sem, k0, k1, k2, k3, k4]; rfl) rfl ?_
        rw [hfin.out]
        have hz := hz1.out; have hx1' := hx1.out; have hx2' := hx2.out
        refine ⟨.mk 169 0 ⟨#[]⟩ (.slice ka ks.length kc) (.slice la L.length lc) ks L, rfl, by rw [VT.v_eq]; rfl, ?_, dF, hF⟩
        exact (hMz.out.whole (S := fun i => i = w.heap.size) (Upd.at5 wr w.heap.size (.int .u8 169) (.int .u64 0) (.string ⟨#[]⟩) (.slice ka ks.length kc) (.slice la L.length lc)).drew (fun i e => by omega) (by omega) (by omega)).weaken (fun i _ hi => by omega)
end Go.Proofs.YtogkbbnpkckfdaaDoor
