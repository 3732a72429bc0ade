/- The document's reader of values: values without values in them. Conditions: at most 200 values are left. Written by gen_getF.py. -/
import Derived.Test.YtogkbbnpkckfdaaDoorKM
namespace Go.Proofs.YtogkbbnpkckfdaaDoor
set_option linter.unusedSimpArgs false
set_option linter.unusedVariables false
open Go.RowKit

/-- The document's reading behind the kind. -/
def rdDk (d : Nat) (k : Nat) (left : Int) (b1 : List UInt8) : Option (V × Int × List UInt8) :=
  if k = 8 ∨ k = 2 then (gN 1 b1).bind fun x => some (.mk k x.1 ByteArray.empty [] [], left, x.2)
  else if k = 49 ∨ k = 50 then (gN 8 b1).bind fun x => some (.mk k x.1 ByteArray.empty [] [], left, x.2)
  else if k = 149 then (gT 2 4096 b1).bind fun x => some (.mk k 0 x.1 [] [], left, x.2)
  else if k = 160 then (gT 4 4096 b1).bind fun x => some (.mk k 0 x.1 [] [], left, x.2)
  else if k = 168 ∨ k = 169 then
    (gN 4 b1).bind fun x => (gN 4 x.2).bind fun y =>
    (rdMany (rdD d) (k == 168) (min y.1 200) left y.2).bind fun z => some (.mk k 0 ByteArray.empty z.1 z.2.1, z.2.2.1, z.2.2.2)
  else some (.mk k 0 ByteArray.empty [] [], left, b1)
theorem rdD_k {d k : Nat} {left : Int} {b b1 : List UInt8} (hg : gN 1 b = some (k, b1)) (hl : 0 ≤ left - 1) : rdD (d + 1) left b = rdDk d k (left - 1) b1 := by
  unfold rdD; rw [hg, Option.bind_some]; show (if left - 1 < 0 then none else _) = _; rw [if_neg (by omega)]; rfl
theorem u8_wrap (k : Nat) (h : k < 256) : IntKind.u8.wrap (k : Int) = (k : Int) := by
  have e : IntKind.u8.wrap (k : Int) = (k : Int) % 256 := rfl
  rw [e]; omega

set_option maxRecDepth 100000 in
set_option maxHeartbeats 12800000 in
theorem dread_deep (w : World) (rb k : Nat) (left dp : Int) (b b1 : List UInt8) (h : DrS w rb b false) (hg' : gN 1 b = some (k, b1)) (hno : left - 1 < 0 ∨ 6 < dp) (hl1 : left ≤ 200) (hl0 : 0 ≤ left) (hL : Big b.length) :
    Calls Tryd.prog 69 #[.pointer (some ⟨rb, 0, none⟩), .int .i64 dp, .int .i64 left] w (DReadPost w rb none) := by
  have hrl := h.lt
  have hB1 : Below w.heap.size w (w.alloc (.cells #[.int .u8 0, .int .u64 0, .string ⟨#[]⟩, .slice none 0 0, .slice none 0 0] 27)) := (Below.refl _ _).alloc (Nat.le_refl _) _
  have a1 := Blk.new w [.int .u8 0, .int .u64 0, .string ⟨#[]⟩, .slice none 0 0, .slice none 0 0] 27
  have hd1 := h.pure hB1
  have hg := Lib.hid hg'
  have hk8 : k < 256 := gN8 hg'
  have hkw := u8_wrap k hk8
  clear hg'
  by_cases hn1 : left - 1 < 0
  · have hn2 : left < 1 := by omega
    have hn3 : decide (left - 1 < 0) = true := decide_eq_true hn1
    clear hno
    go_enter Tryd.func69, Tryd.ntmps69
    go_wp2_with (first | (go_at_call 42; (with_reducible refine (qnum_yes _ rb b 1 k 1 b1 hd1 rfl (by unfold Wd; omega) hg.out hL).mono ?_); rintro e w1 ⟨rfl, d1, hu1⟩; have a2 := a1.upd hu1 (fun e => by have := hrl; unfold Only at e; omega); have hz1 := Lib.hid a2.lt; have hb1 := (Below.refl w1.heap.size w1).alloc (Nat.le_refl _) (.cells #[.int .u8 k, .int .u64 0, .string ⟨#[]⟩, .slice none 0 0, .slice none 0 0] 27); have d2 := d1.pure hb1; have a3 := a2.alloc (.cells #[.int .u8 k, .int .u64 0, .string ⟨#[]⟩, .slice none 0 0, .slice none 0 0] 27); have x2 := Blk.new w1 [.int .u8 k, .int .u64 0, .string ⟨#[]⟩, .slice none 0 0, .slice none 0 0] 27; have u3 : Upd (Only rb) w (w1.alloc (.cells #[.int .u8 k, .int .u64 0, .string ⟨#[]⟩, .slice none 0 0, .slice none 0 0] 27)) := ((Upd.of_below hB1).trans hu1 (fun _ h _ => h)).trans (Upd.of_below hb1) (fun _ h _ => h); have sp2 := d2.sp; have f0 := x2.at 0 rfl; have fy0 := x2.frozen 0; have f1 := x2.at 1 rfl; have fy1 := x2.frozen 1; have f2 := x2.at 2 rfl; have fy2 := x2.frozen 2; have f3 := x2.at 3 rfl; have fy3 := x2.frozen 3; have f4 := x2.at 4 rfl; have fy4 := x2.frozen 4; have t0 := a3.at 0 rfl; have ty0 := a3.frozen 0; have t1 := a3.at 1 rfl; have ty1 := a3.frozen 1; have t2 := a3.at 2 rfl; have ty2 := a3.frozen 2; have t3 := a3.at 3 rfl; have ty3 := a3.frozen 3; have t4 := a3.at 4 rfl; have ty4 := a3.frozen 4))
    have aF := a3.fresh5 (.int .u8 k) (.int .u64 0) (.string ⟨#[]⟩) (.slice none 0 0) (.slice none 0 0)
    have k0 := aF.at 0 rfl; have k1 := aF.at 1 rfl; have k2 := aF.at 2 rfl; have k3 := aF.at 3 rfl; have k4 := aF.at 4 rfl
    refine bodyPost_ret (by simp [results, Tryd.results69, go_sem, k0, k1, k2, k3, k4]; rfl) rfl ?_
    skip
    exact ⟨.mk k 0 ⟨#[]⟩ (.slice none 0 0) (.slice none 0 0) [] [], left - 1, rfl, Rd.leaf (by omega) (by omega) (by omega) (by omega), u3.fresh5 (Nat.le_refl _) (.int .u8 k) (.int .u64 0) (.string ⟨#[]⟩) (.slice none 0 0) (.slice none 0 0)⟩
  · have hn2 : ¬ left < 1 := by omega
    have hn3 : decide (left - 1 < 0) = false := decide_eq_false hn1
    have hd : 6 < dp := by omega
    have hn4 : decide (6 < dp) = true := decide_eq_true hd
    clear hno
    go_enter Tryd.func69, Tryd.ntmps69
    go_wp2_with (first | (go_at_call 42; (with_reducible refine (qnum_yes _ rb b 1 k 1 b1 hd1 rfl (by unfold Wd; omega) hg.out hL).mono ?_); rintro e w1 ⟨rfl, d1, hu1⟩; have a2 := a1.upd hu1 (fun e => by have := hrl; unfold Only at e; omega); have hz1 := Lib.hid a2.lt; have hb1 := (Below.refl w1.heap.size w1).alloc (Nat.le_refl _) (.cells #[.int .u8 k, .int .u64 0, .string ⟨#[]⟩, .slice none 0 0, .slice none 0 0] 27); have d2 := d1.pure hb1; have a3 := a2.alloc (.cells #[.int .u8 k, .int .u64 0, .string ⟨#[]⟩, .slice none 0 0, .slice none 0 0] 27); have x2 := Blk.new w1 [.int .u8 k, .int .u64 0, .string ⟨#[]⟩, .slice none 0 0, .slice none 0 0] 27; have u3 : Upd (Only rb) w (w1.alloc (.cells #[.int .u8 k, .int .u64 0, .string ⟨#[]⟩, .slice none 0 0, .slice none 0 0] 27)) := ((Upd.of_below hB1).trans hu1 (fun _ h _ => h)).trans (Upd.of_below hb1) (fun _ h _ => h); have sp2 := d2.sp; have f0 := x2.at 0 rfl; have fy0 := x2.frozen 0; have f1 := x2.at 1 rfl; have fy1 := x2.frozen 1; have f2 := x2.at 2 rfl; have fy2 := x2.frozen 2; have f3 := x2.at 3 rfl; have fy3 := x2.frozen 3; have f4 := x2.at 4 rfl; have fy4 := x2.frozen 4; have t0 := a3.at 0 rfl; have ty0 := a3.frozen 0; have t1 := a3.at 1 rfl; have ty1 := a3.frozen 1; have t2 := a3.at 2 rfl; have ty2 := a3.frozen 2; have t3 := a3.at 3 rfl; have ty3 := a3.frozen 3; have t4 := a3.at 4 rfl; have ty4 := a3.frozen 4))
    have aF := a3.fresh5 (.int .u8 k) (.int .u64 0) (.string ⟨#[]⟩) (.slice none 0 0) (.slice none 0 0)
    have k0 := aF.at 0 rfl; have k1 := aF.at 1 rfl; have k2 := aF.at 2 rfl; have k3 := aF.at 3 rfl; have k4 := aF.at 4 rfl
    refine bodyPost_ret (by simp [results, Tryd.results69, go_sem, k0, k1, k2, k3, k4]; rfl) rfl ?_
    skip
    exact ⟨.mk k 0 ⟨#[]⟩ (.slice none 0 0) (.slice none 0 0) [] [], left - 1, rfl, Rd.leaf (by omega) (by omega) (by omega) (by omega), u3.fresh5 (Nat.le_refl _) (.int .u8 k) (.int .u64 0) (.string ⟨#[]⟩) (.slice none 0 0) (.slice none 0 0)⟩
set_option maxRecDepth 100000 in
set_option maxHeartbeats 12800000 in
theorem dread_leaf (d : Nat) (w : World) (rb k : Nat) (left dp : Int) (b b1 : List UInt8) (h : DrS w rb b false) (hg' : gN 1 b = some (k, b1)) (hd : dp + (d + 1 : Nat) = 7) (hl0 : 0 ≤ left - 1) (hl1 : left ≤ 200) (hL : Big b.length) (hk168 : k ≠ 168) (hk169 : k ≠ 169) :
    Calls Tryd.prog 69 #[.pointer (some ⟨rb, 0, none⟩), .int .i64 dp, .int .i64 left] w (DReadPost w rb (rdD (d + 1) left b)) := by
  have hrl := h.lt
  have hB1 : Below w.heap.size w (w.alloc (.cells #[.int .u8 0, .int .u64 0, .string ⟨#[]⟩, .slice none 0 0, .slice none 0 0] 27)) := (Below.refl _ _).alloc (Nat.le_refl _) _
  have a1 := Blk.new w [.int .u8 0, .int .u64 0, .string ⟨#[]⟩, .slice none 0 0, .slice none 0 0] 27
  have hd1 := h.pure hB1

  have hg := Lib.hid hg'
  have hk8 : k < 256 := gN8 hg'
  have hL1 : Big b1.length := hL.mono (gN_lt hg').2.1
  have hkw := u8_wrap k hk8
  have hn3 : decide (left - 1 < 0) = false := decide_eq_false (by omega)
  have hn2 : ¬ left < 1 := by omega
  have hd6 : ¬ 6 < dp := by omega
  have hn4 : decide (6 < dp) = false := decide_eq_false hd6
  have hr0 : rdD (d + 1) left b = rdDk d k (left - 1) b1 := rdD_k hg' hl0
  clear hg'
  have hr0h := Lib.hid hr0
  clear hr0
  go_enter Tryd.func69, Tryd.ntmps69
  go_upto_region 5 with (first | (go_at_call 42; (with_reducible refine (qnum_yes _ rb b 1 k 1 b1 hd1 rfl (by unfold Wd; omega) hg.out hL).mono ?_); rintro e w1 ⟨rfl, d1, hu1⟩; have a2 := a1.upd hu1 (fun e => by have := hrl; unfold Only at e; omega); have hz1 := Lib.hid a2.lt; have hb1 := (Below.refl w1.heap.size w1).alloc (Nat.le_refl _) (.cells #[.int .u8 k, .int .u64 0, .string ⟨#[]⟩, .slice none 0 0, .slice none 0 0] 27); have d2 := d1.pure hb1; have a3 := a2.alloc (.cells #[.int .u8 k, .int .u64 0, .string ⟨#[]⟩, .slice none 0 0, .slice none 0 0] 27); have x2 := Blk.new w1 [.int .u8 k, .int .u64 0, .string ⟨#[]⟩, .slice none 0 0, .slice none 0 0] 27; have u3 : Upd (Only rb) w (w1.alloc (.cells #[.int .u8 k, .int .u64 0, .string ⟨#[]⟩, .slice none 0 0, .slice none 0 0] 27)) := ((Upd.of_below hB1).trans hu1 (fun _ h _ => h)).trans (Upd.of_below hb1) (fun _ h _ => h); have sp2 := d2.sp; have f0 := x2.at 0 rfl; have fy0 := x2.frozen 0; have f1 := x2.at 1 rfl; have fy1 := x2.frozen 1; have f2 := x2.at 2 rfl; have fy2 := x2.frozen 2; have f3 := x2.at 3 rfl; have fy3 := x2.frozen 3; have f4 := x2.at 4 rfl; have fy4 := x2.frozen 4; have t0 := a3.at 0 rfl; have ty0 := a3.frozen 0; have t1 := a3.at 1 rfl; have ty1 := a3.frozen 1; have t2 := a3.at 2 rfl; have ty2 := a3.frozen 2; have t3 := a3.at 3 rfl; have ty3 := a3.frozen 3; have t4 := a3.at 4 rfl; have ty4 := a3.frozen 4))
  generalize w1.alloc _ = W2 at *
  clear hb1 d1 hu1 a2 hd1 hB1 a1 h hg
  by_cases hk8 : k = 8
  · subst hk8
    have x2 : Blk W2 w1.heap.size [.int .u8 8, .int .u64 0, .string ⟨#[]⟩, .slice none 0 0, .slice none 0 0] := x2
    have f0 := x2.at 0 rfl
    clear hkw
    have hr' : rdD (d + 1) left b = (gN 1 b1).bind fun (x : Nat × List UInt8) => some (V.mk 8 x.1 ByteArray.empty [] [], left - 1, x.2) := by rw [hr0h.out]; rfl
    clear hr0h
    rcases gN_or 1 b1 with hno' | ⟨n, b2, hg2'⟩
    · rw [gN_none hno'] at hr'
      have hr := Lib.hid hr'; have hno := Lib.hid hno'
      clear hr' hno'
      go_wp2_with (first | (go_at_call 42; (with_reducible refine (qnum_no _ rb b1 false 1 1 d2 rfl (by unfold Wd; omega) (Or.inr hno.out)).mono ?_); rintro e w3 ⟨rfl, d3, hu3⟩; have x3 := x2.upd hu3 (fun e => by have := hz1.out; unfold Only at e; omega); have a4 := a3.upd hu3 (fun e => by unfold Only at e; omega); have u4 := u3.trans hu3 (fun _ h _ => h); have g1 := x3.frozen 1; have j1 := x3.at 1 rfl; have hs4 : Upd (fun k => k = w1.heap.size) w3 (w3.setCell ⟨w1.heap.size, 1, none⟩ (.int .u64 0)) := Upd.set (S := fun k => k = w1.heap.size) (p := ⟨w1.heap.size, 1, none⟩) rfl _; have d4 := d3.above hs4 (fun k e => by have := hz1.out; omega); have a5 := a4.upd hs4 (fun e => by have := hz1.out; omega); have x4 := x3.set 1 (.int .u64 0); have u5 : Upd (Only rb) w (w3.setCell ⟨w1.heap.size, 1, none⟩ (.int .u64 0)) := u4.trans hs4 (fun i e hi => by have := hz1.out; omega)))
      have xd := x4.drew; have ad := a5.drew; have aF0 := a5.fresh5 (.int .u8 8) (.int .u64 0) (.string ⟨#[]⟩) (.slice none 0 0) (.slice none 0 0); have aF := aF0.drew; have xF := (x4.upd (Upd.at5 (w3.setCell ⟨w1.heap.size, 1, none⟩ (.int .u64 0)) w.heap.size (.int .u8 8) (.int .u64 0) (.string ⟨#[]⟩) (.slice none 0 0) (.slice none 0 0)) (fun e => by have := hz1.out; omega)).drew; have hF : Upd (Only rb) w _ := (u5.fresh5 (Nat.le_refl _) (.int .u8 8) (.int .u64 0) (.string ⟨#[]⟩) (.slice none 0 0) (.slice none 0 0)).drew; have dF := (d4.fresh5 hrl (.int .u8 8) (.int .u64 0) (.string ⟨#[]⟩) (.slice none 0 0) (.slice none 0 0)).pure (below_refl_dr _)
      have dd := d4.pure (below_refl_dr _)
      have ka0 := xd.at 0 rfl; have ka1 := xd.at 1 rfl; have ka2 := xd.at 2 rfl; have ka3 := xd.at 3 rfl; have ka4 := xd.at 4 rfl; have ka5 := dd.sp; have kb0 := xF.at 0 rfl; have kb1 := xF.at 1 rfl; have kb2 := xF.at 2 rfl; have kb3 := xF.at 3 rfl; have kb4 := xF.at 4 rfl; have kb5 := dF.sp
      have kz0 := ad.frozen 0; have kw0 := ad.at 0 rfl; have ky0 := a5.frozen 0; have kx0 := a5.at 0 rfl; have kz1 := ad.frozen 1; have kw1 := ad.at 1 rfl; have ky1 := a5.frozen 1; have kx1 := a5.at 1 rfl; have kz2 := ad.frozen 2; have kw2 := ad.at 2 rfl; have ky2 := a5.frozen 2; have kx2 := a5.at 2 rfl; have kz3 := ad.frozen 3; have kw3 := ad.at 3 rfl; have ky3 := a5.frozen 3; have kx3 := a5.at 3 rfl; have kz4 := ad.frozen 4; have kw4 := ad.at 4 rfl; have ky4 := a5.frozen 4; have kx4 := a5.at 4 rfl
      refine wp_region_held_drew (S := (fun w' => w'.cell? ⟨w1.heap.size, 0, none⟩ = some (.int .u8 8) ∧ w'.cell? ⟨w1.heap.size, 1, none⟩ = some (.int .u64 0) ∧ w'.cell? ⟨w1.heap.size, 2, none⟩ = some (.string ⟨#[]⟩) ∧ w'.cell? ⟨w1.heap.size, 3, none⟩ = some (.slice none 0 0) ∧ w'.cell? ⟨w1.heap.size, 4, none⟩ = some (.slice none 0 0) ∧ w'.cell? ⟨rb, 1, none⟩ = some (.bool true))) (by kernel_rfl) ?_ (fun hHeld => ?_)
      · (first | with_reducible exact ⟨ka0, ka1, ka2, ka3, ka4, ka5⟩ | with_reducible exact ⟨kb0, kb1, kb2, kb3, kb4, kb5⟩)
      refine takeY 0 108 rfl rfl (v := ?_) ?_ hHeld ?_
      rotate_left 1
      · (intro w hSw; (try dsimp only at hSw); go_simp; (try with_reducible rfl))
      try simp only [Act.put, lsT, lsZ, lsS]
      refine takeY 1 109 rfl rfl (v := ?_) ?_ hHeld ?_
      rotate_left 1
      · (intro w hSw; (try dsimp only at hSw); go_simp; (try with_reducible rfl))
      try simp only [Act.put, lsT, lsZ, lsS]
      refine takeY 2 110 rfl rfl (v := ?_) ?_ hHeld ?_
      rotate_left 1
      · (intro w hSw; (try dsimp only at hSw); go_simp; (try with_reducible rfl))
      try simp only [Act.put, lsT, lsZ, lsS]
      refine takeY 3 111 rfl rfl (v := ?_) ?_ hHeld ?_
      rotate_left 1
      · (intro w hSw; (try dsimp only at hSw); go_simp; (try with_reducible rfl))
      try simp only [Act.put, lsT, lsZ, lsS]
      refine takeY 4 112 rfl rfl (v := ?_) ?_ hHeld ?_
      rotate_left 1
      · (intro w hSw; (try dsimp only at hSw); go_simp; (try with_reducible rfl))
      try simp only [Act.put, lsT, lsZ, lsS]
      refine takeY 5 113 rfl rfl (v := ?_) ?_ hHeld ?_
      rotate_left 1
      · (intro w hSw; (try dsimp only at hSw); go_simp; (try with_reducible rfl))
      try simp only [Act.put, lsT, lsZ, lsS]
      refine takeY 6 114 rfl rfl (v := ?_) ?_ hHeld ?_
      rotate_left 1
      · (intro w hSw; (try dsimp only at hSw); go_simp; (try with_reducible rfl))
      try simp only [Act.put, lsT, lsZ, lsS]
      refine wpAnyH_ready (rs := [7]) (by kernel_rfl) (by simp) ?_
      refine AllReadyH.cons rfl (fun K hK => ?_) AllReadyH.nil
      go_simp
      skip
      refine hK.out _ _ ?_ (fun hHeld => ?_)
      · (first | with_reducible exact ⟨ka0, ka1, ka2, ka3, ka4, ka5⟩ | with_reducible exact ⟨kb0, kb1, kb2, kb3, kb4, kb5⟩)
      clear hK K
      try simp only [Act.put, lsT, lsZ, lsS]
      refine wpAnyH_ready (rs := [8]) (by kernel_rfl) (by simp) ?_
      refine AllReadyH.cons rfl (fun K hK => ?_) AllReadyH.nil
      go_simp
      skip
      refine hK.out _ _ ?_ (fun hHeld => ?_)
      · (first | with_reducible exact ⟨ka0, ka1, ka2, ka3, ka4, ka5⟩ | with_reducible exact ⟨kb0, kb1, kb2, kb3, kb4, kb5⟩)
      clear hK K
      try simp only [Act.put, lsT, lsZ, lsS]
      refine wpAnyH_ready (rs := [9]) (by kernel_rfl) (by simp) ?_
      refine AllReadyH.cons rfl (fun K hK => ?_) AllReadyH.nil
      go_simp
      skip
      refine hK.out _ _ ?_ (fun hHeld => ?_)
      · (first | with_reducible exact ⟨ka0, ka1, ka2, ka3, ka4, ka5⟩ | with_reducible exact ⟨kb0, kb1, kb2, kb3, kb4, kb5⟩)
      clear hK K
      try simp only [Act.put, lsT, lsZ, lsS]
      refine wpAnyH_done (by kernel_rfl) ?_ _
      have k0 := aF.at 0 rfl; have k1 := aF.at 1 rfl; have k2 := aF.at 2 rfl; have k3 := aF.at 3 rfl; have k4 := aF.at 4 rfl
      go_wp2
      refine bodyPost_ret (by simp [results, Tryd.results69, go_sem, k0, k1, k2, k3, k4]; rfl) rfl ?_
      rw [hr.out]; exact ⟨.mk 8 0 ⟨#[]⟩ (.slice none 0 0) (.slice none 0 0) [] [], left - 1, rfl, Rd.leaf (by omega) (by omega) (by omega) (by omega), hF⟩
    · rw [hg2', Option.bind_some] at hr'
      have hr := Lib.hid hr'; have hg2 := Lib.hid hg2'
      have hnb := Lib.hid (gN_lt hg2').1
      clear hr' hg2'
      go_wp2_with (first | (go_at_call 42; (with_reducible refine (qnum_yes _ rb b1 1 n 1 b2 d2 rfl (by unfold Wd; omega) hg2.out hL1).mono ?_); rintro e w3 ⟨rfl, d3, hu3⟩; have x3 := x2.upd hu3 (fun e => by have := hz1.out; unfold Only at e; omega); have a4 := a3.upd hu3 (fun e => by unfold Only at e; omega); have u4 := u3.trans hu3 (fun _ h _ => h); have g1 := x3.frozen 1; have j1 := x3.at 1 rfl; have hs4 : Upd (fun k => k = w1.heap.size) w3 (w3.setCell ⟨w1.heap.size, 1, none⟩ (.int .u64 n)) := Upd.set (S := fun k => k = w1.heap.size) (p := ⟨w1.heap.size, 1, none⟩) rfl _; have d4 := d3.above hs4 (fun k e => by have := hz1.out; omega); have a5 := a4.upd hs4 (fun e => by have := hz1.out; omega); have x4 := x3.set 1 (.int .u64 n); have u5 : Upd (Only rb) w (w3.setCell ⟨w1.heap.size, 1, none⟩ (.int .u64 n)) := u4.trans hs4 (fun i e hi => by have := hz1.out; omega)))
      have xd := x4.drew; have ad := a5.drew; have aF0 := a5.fresh5 (.int .u8 8) (.int .u64 n) (.string ⟨#[]⟩) (.slice none 0 0) (.slice none 0 0); have aF := aF0.drew; have xF := (x4.upd (Upd.at5 (w3.setCell ⟨w1.heap.size, 1, none⟩ (.int .u64 n)) w.heap.size (.int .u8 8) (.int .u64 n) (.string ⟨#[]⟩) (.slice none 0 0) (.slice none 0 0)) (fun e => by have := hz1.out; omega)).drew; have hF : Upd (Only rb) w _ := (u5.fresh5 (Nat.le_refl _) (.int .u8 8) (.int .u64 n) (.string ⟨#[]⟩) (.slice none 0 0) (.slice none 0 0)).drew; have dF := (d4.fresh5 hrl (.int .u8 8) (.int .u64 n) (.string ⟨#[]⟩) (.slice none 0 0) (.slice none 0 0)).pure (below_refl_dr _)
      have dd := d4.pure (below_refl_dr _)
      have ka0 := xd.at 0 rfl; have ka1 := xd.at 1 rfl; have ka2 := xd.at 2 rfl; have ka3 := xd.at 3 rfl; have ka4 := xd.at 4 rfl; have ka5 := dd.sp; have kb0 := xF.at 0 rfl; have kb1 := xF.at 1 rfl; have kb2 := xF.at 2 rfl; have kb3 := xF.at 3 rfl; have kb4 := xF.at 4 rfl; have kb5 := dF.sp
      have kz0 := ad.frozen 0; have kw0 := ad.at 0 rfl; have ky0 := a5.frozen 0; have kx0 := a5.at 0 rfl; have kz1 := ad.frozen 1; have kw1 := ad.at 1 rfl; have ky1 := a5.frozen 1; have kx1 := a5.at 1 rfl; have kz2 := ad.frozen 2; have kw2 := ad.at 2 rfl; have ky2 := a5.frozen 2; have kx2 := a5.at 2 rfl; have kz3 := ad.frozen 3; have kw3 := ad.at 3 rfl; have ky3 := a5.frozen 3; have kx3 := a5.at 3 rfl; have kz4 := ad.frozen 4; have kw4 := ad.at 4 rfl; have ky4 := a5.frozen 4; have kx4 := a5.at 4 rfl
      refine wp_region_held_drew (S := (fun w' => w'.cell? ⟨w1.heap.size, 0, none⟩ = some (.int .u8 8) ∧ w'.cell? ⟨w1.heap.size, 1, none⟩ = some (.int .u64 n) ∧ w'.cell? ⟨w1.heap.size, 2, none⟩ = some (.string ⟨#[]⟩) ∧ w'.cell? ⟨w1.heap.size, 3, none⟩ = some (.slice none 0 0) ∧ w'.cell? ⟨w1.heap.size, 4, none⟩ = some (.slice none 0 0) ∧ w'.cell? ⟨rb, 1, none⟩ = some (.bool false))) (by kernel_rfl) ?_ (fun hHeld => ?_)
      · (first | with_reducible exact ⟨ka0, ka1, ka2, ka3, ka4, ka5⟩ | with_reducible exact ⟨kb0, kb1, kb2, kb3, kb4, kb5⟩)
      refine takeY 0 108 rfl rfl (v := ?_) ?_ hHeld ?_
      rotate_left 1
      · (intro w hSw; (try dsimp only at hSw); go_simp; (try with_reducible rfl))
      try simp only [Act.put, lsT, lsZ, lsS]
      refine takeY 1 109 rfl rfl (v := ?_) ?_ hHeld ?_
      rotate_left 1
      · (intro w hSw; (try dsimp only at hSw); go_simp; (try with_reducible rfl))
      try simp only [Act.put, lsT, lsZ, lsS]
      refine takeY 2 110 rfl rfl (v := ?_) ?_ hHeld ?_
      rotate_left 1
      · (intro w hSw; (try dsimp only at hSw); go_simp; (try with_reducible rfl))
      try simp only [Act.put, lsT, lsZ, lsS]
      refine takeY 3 111 rfl rfl (v := ?_) ?_ hHeld ?_
      rotate_left 1
      · (intro w hSw; (try dsimp only at hSw); go_simp; (try with_reducible rfl))
      try simp only [Act.put, lsT, lsZ, lsS]
      refine takeY 4 112 rfl rfl (v := ?_) ?_ hHeld ?_
      rotate_left 1
      · (intro w hSw; (try dsimp only at hSw); go_simp; (try with_reducible rfl))
      try simp only [Act.put, lsT, lsZ, lsS]
      refine takeY 5 113 rfl rfl (v := ?_) ?_ hHeld ?_
      rotate_left 1
      · (intro w hSw; (try dsimp only at hSw); go_simp; (try with_reducible rfl))
      try simp only [Act.put, lsT, lsZ, lsS]
      refine takeY 6 114 rfl rfl (v := ?_) ?_ hHeld ?_
      rotate_left 1
      · (intro w hSw; (try dsimp only at hSw); go_simp; (try with_reducible rfl))
      try simp only [Act.put, lsT, lsZ, lsS]
      refine wpAnyH_ready (rs := [7]) (by kernel_rfl) (by simp) ?_
      refine AllReadyH.cons rfl (fun K hK => ?_) AllReadyH.nil
      go_simp
      skip
      refine hK.out _ _ ?_ (fun hHeld => ?_)
      · (first | with_reducible exact ⟨ka0, ka1, ka2, ka3, ka4, ka5⟩ | with_reducible exact ⟨kb0, kb1, kb2, kb3, kb4, kb5⟩)
      clear hK K
      try simp only [Act.put, lsT, lsZ, lsS]
      refine wpAnyH_ready (rs := [8]) (by kernel_rfl) (by simp) ?_
      refine AllReadyH.cons rfl (fun K hK => ?_) AllReadyH.nil
      go_simp
      skip
      refine hK.out _ _ ?_ (fun hHeld => ?_)
      · (first | with_reducible exact ⟨ka0, ka1, ka2, ka3, ka4, ka5⟩ | with_reducible exact ⟨kb0, kb1, kb2, kb3, kb4, kb5⟩)
      clear hK K
      try simp only [Act.put, lsT, lsZ, lsS]
      refine wpAnyH_ready (rs := [9]) (by kernel_rfl) (by simp) ?_
      refine AllReadyH.cons rfl (fun K hK => ?_) AllReadyH.nil
      go_simp
      skip
      refine hK.out _ _ ?_ (fun hHeld => ?_)
      · (first | with_reducible exact ⟨ka0, ka1, ka2, ka3, ka4, ka5⟩ | with_reducible exact ⟨kb0, kb1, kb2, kb3, kb4, kb5⟩)
      clear hK K
      try simp only [Act.put, lsT, lsZ, lsS]
      refine wpAnyH_done (by kernel_rfl) ?_ _
      have k0 := aF.at 0 rfl; have k1 := aF.at 1 rfl; have k2 := aF.at 2 rfl; have k3 := aF.at 3 rfl; have k4 := aF.at 4 rfl
      go_wp2
      refine bodyPost_ret (by simp [results, Tryd.results69, go_sem, k0, k1, k2, k3, k4]; rfl) rfl ?_
      rw [hr.out]; exact ⟨.mk 8 n ⟨#[]⟩ (.slice none 0 0) (.slice none 0 0) [] [], rfl, rfl, Rd.leaf (by omega) (by have := hnb.out; omega) (by omega) (by omega), dF, hF⟩
  by_cases hk2 : k = 2
  · subst hk2
    have x2 : Blk W2 w1.heap.size [.int .u8 2, .int .u64 0, .string ⟨#[]⟩, .slice none 0 0, .slice none 0 0] := x2
    have f0 := x2.at 0 rfl
    clear hkw
    have hr' : rdD (d + 1) left b = (gN 1 b1).bind fun (x : Nat × List UInt8) => some (V.mk 2 x.1 ByteArray.empty [] [], left - 1, x.2) := by rw [hr0h.out]; rfl
    clear hr0h
    rcases gN_or 1 b1 with hno' | ⟨n, b2, hg2'⟩
    · rw [gN_none hno'] at hr'
      have hr := Lib.hid hr'; have hno := Lib.hid hno'
      clear hr' hno'
      go_wp2_with (first | (go_at_call 42; (with_reducible refine (qnum_no _ rb b1 false 1 1 d2 rfl (by unfold Wd; omega) (Or.inr hno.out)).mono ?_); rintro e w3 ⟨rfl, d3, hu3⟩; have x3 := x2.upd hu3 (fun e => by have := hz1.out; unfold Only at e; omega); have a4 := a3.upd hu3 (fun e => by unfold Only at e; omega); have u4 := u3.trans hu3 (fun _ h _ => h); have g1 := x3.frozen 1; have j1 := x3.at 1 rfl; have hs4 : Upd (fun k => k = w1.heap.size) w3 (w3.setCell ⟨w1.heap.size, 1, none⟩ (.int .u64 0)) := Upd.set (S := fun k => k = w1.heap.size) (p := ⟨w1.heap.size, 1, none⟩) rfl _; have d4 := d3.above hs4 (fun k e => by have := hz1.out; omega); have a5 := a4.upd hs4 (fun e => by have := hz1.out; omega); have x4 := x3.set 1 (.int .u64 0); have u5 : Upd (Only rb) w (w3.setCell ⟨w1.heap.size, 1, none⟩ (.int .u64 0)) := u4.trans hs4 (fun i e hi => by have := hz1.out; omega)))
      have xd := x4.drew; have ad := a5.drew; have aF0 := a5.fresh5 (.int .u8 2) (.int .u64 0) (.string ⟨#[]⟩) (.slice none 0 0) (.slice none 0 0); have aF := aF0.drew; have xF := (x4.upd (Upd.at5 (w3.setCell ⟨w1.heap.size, 1, none⟩ (.int .u64 0)) w.heap.size (.int .u8 2) (.int .u64 0) (.string ⟨#[]⟩) (.slice none 0 0) (.slice none 0 0)) (fun e => by have := hz1.out; omega)).drew; have hF : Upd (Only rb) w _ := (u5.fresh5 (Nat.le_refl _) (.int .u8 2) (.int .u64 0) (.string ⟨#[]⟩) (.slice none 0 0) (.slice none 0 0)).drew; have dF := (d4.fresh5 hrl (.int .u8 2) (.int .u64 0) (.string ⟨#[]⟩) (.slice none 0 0) (.slice none 0 0)).pure (below_refl_dr _)
      have dd := d4.pure (below_refl_dr _)
      have ka0 := xd.at 0 rfl; have ka1 := xd.at 1 rfl; have ka2 := xd.at 2 rfl; have ka3 := xd.at 3 rfl; have ka4 := xd.at 4 rfl; have ka5 := dd.sp; have kb0 := xF.at 0 rfl; have kb1 := xF.at 1 rfl; have kb2 := xF.at 2 rfl; have kb3 := xF.at 3 rfl; have kb4 := xF.at 4 rfl; have kb5 := dF.sp
      have kz0 := ad.frozen 0; have kw0 := ad.at 0 rfl; have ky0 := a5.frozen 0; have kx0 := a5.at 0 rfl; have kz1 := ad.frozen 1; have kw1 := ad.at 1 rfl; have ky1 := a5.frozen 1; have kx1 := a5.at 1 rfl; have kz2 := ad.frozen 2; have kw2 := ad.at 2 rfl; have ky2 := a5.frozen 2; have kx2 := a5.at 2 rfl; have kz3 := ad.frozen 3; have kw3 := ad.at 3 rfl; have ky3 := a5.frozen 3; have kx3 := a5.at 3 rfl; have kz4 := ad.frozen 4; have kw4 := ad.at 4 rfl; have ky4 := a5.frozen 4; have kx4 := a5.at 4 rfl
      refine wp_region_held_drew (S := (fun w' => w'.cell? ⟨w1.heap.size, 0, none⟩ = some (.int .u8 2) ∧ w'.cell? ⟨w1.heap.size, 1, none⟩ = some (.int .u64 0) ∧ w'.cell? ⟨w1.heap.size, 2, none⟩ = some (.string ⟨#[]⟩) ∧ w'.cell? ⟨w1.heap.size, 3, none⟩ = some (.slice none 0 0) ∧ w'.cell? ⟨w1.heap.size, 4, none⟩ = some (.slice none 0 0) ∧ w'.cell? ⟨rb, 1, none⟩ = some (.bool true))) (by kernel_rfl) ?_ (fun hHeld => ?_)
      · (first | with_reducible exact ⟨ka0, ka1, ka2, ka3, ka4, ka5⟩ | with_reducible exact ⟨kb0, kb1, kb2, kb3, kb4, kb5⟩)
      refine takeY 0 108 rfl rfl (v := ?_) ?_ hHeld ?_
      rotate_left 1
      · (intro w hSw; (try dsimp only at hSw); go_simp; (try with_reducible rfl))
      try simp only [Act.put, lsT, lsZ, lsS]
      refine takeY 1 109 rfl rfl (v := ?_) ?_ hHeld ?_
      rotate_left 1
      · (intro w hSw; (try dsimp only at hSw); go_simp; (try with_reducible rfl))
      try simp only [Act.put, lsT, lsZ, lsS]
      refine takeY 2 110 rfl rfl (v := ?_) ?_ hHeld ?_
      rotate_left 1
      · (intro w hSw; (try dsimp only at hSw); go_simp; (try with_reducible rfl))
      try simp only [Act.put, lsT, lsZ, lsS]
      refine takeY 3 111 rfl rfl (v := ?_) ?_ hHeld ?_
      rotate_left 1
      · (intro w hSw; (try dsimp only at hSw); go_simp; (try with_reducible rfl))
      try simp only [Act.put, lsT, lsZ, lsS]
      refine takeY 4 112 rfl rfl (v := ?_) ?_ hHeld ?_
      rotate_left 1
      · (intro w hSw; (try dsimp only at hSw); go_simp; (try with_reducible rfl))
      try simp only [Act.put, lsT, lsZ, lsS]
      refine takeY 5 113 rfl rfl (v := ?_) ?_ hHeld ?_
      rotate_left 1
      · (intro w hSw; (try dsimp only at hSw); go_simp; (try with_reducible rfl))
      try simp only [Act.put, lsT, lsZ, lsS]
      refine takeY 6 114 rfl rfl (v := ?_) ?_ hHeld ?_
      rotate_left 1
      · (intro w hSw; (try dsimp only at hSw); go_simp; (try with_reducible rfl))
      try simp only [Act.put, lsT, lsZ, lsS]
      refine wpAnyH_ready (rs := [7]) (by kernel_rfl) (by simp) ?_
      refine AllReadyH.cons rfl (fun K hK => ?_) AllReadyH.nil
      go_simp
      skip
      refine hK.out _ _ ?_ (fun hHeld => ?_)
      · (first | with_reducible exact ⟨ka0, ka1, ka2, ka3, ka4, ka5⟩ | with_reducible exact ⟨kb0, kb1, kb2, kb3, kb4, kb5⟩)
      clear hK K
      try simp only [Act.put, lsT, lsZ, lsS]
      refine wpAnyH_ready (rs := [8]) (by kernel_rfl) (by simp) ?_
      refine AllReadyH.cons rfl (fun K hK => ?_) AllReadyH.nil
      go_simp
      skip
      refine hK.out _ _ ?_ (fun hHeld => ?_)
      · (first | with_reducible exact ⟨ka0, ka1, ka2, ka3, ka4, ka5⟩ | with_reducible exact ⟨kb0, kb1, kb2, kb3, kb4, kb5⟩)
      clear hK K
      try simp only [Act.put, lsT, lsZ, lsS]
      refine wpAnyH_ready (rs := [9]) (by kernel_rfl) (by simp) ?_
      refine AllReadyH.cons rfl (fun K hK => ?_) AllReadyH.nil
      go_simp
      skip
      refine hK.out _ _ ?_ (fun hHeld => ?_)
      · (first | with_reducible exact ⟨ka0, ka1, ka2, ka3, ka4, ka5⟩ | with_reducible exact ⟨kb0, kb1, kb2, kb3, kb4, kb5⟩)
      clear hK K
      try simp only [Act.put, lsT, lsZ, lsS]
      refine wpAnyH_done (by kernel_rfl) ?_ _
      have k0 := aF.at 0 rfl; have k1 := aF.at 1 rfl; have k2 := aF.at 2 rfl; have k3 := aF.at 3 rfl; have k4 := aF.at 4 rfl
      go_wp2
      refine bodyPost_ret (by simp [results, Tryd.results69, go_sem, k0, k1, k2, k3, k4]; rfl) rfl ?_
      rw [hr.out]; exact ⟨.mk 2 0 ⟨#[]⟩ (.slice none 0 0) (.slice none 0 0) [] [], left - 1, rfl, Rd.leaf (by omega) (by omega) (by omega) (by omega), hF⟩
    · rw [hg2', Option.bind_some] at hr'
      have hr := Lib.hid hr'; have hg2 := Lib.hid hg2'
      have hnb := Lib.hid (gN_lt hg2').1
      clear hr' hg2'
      go_wp2_with (first | (go_at_call 42; (with_reducible refine (qnum_yes _ rb b1 1 n 1 b2 d2 rfl (by unfold Wd; omega) hg2.out hL1).mono ?_); rintro e w3 ⟨rfl, d3, hu3⟩; have x3 := x2.upd hu3 (fun e => by have := hz1.out; unfold Only at e; omega); have a4 := a3.upd hu3 (fun e => by unfold Only at e; omega); have u4 := u3.trans hu3 (fun _ h _ => h); have g1 := x3.frozen 1; have j1 := x3.at 1 rfl; have hs4 : Upd (fun k => k = w1.heap.size) w3 (w3.setCell ⟨w1.heap.size, 1, none⟩ (.int .u64 n)) := Upd.set (S := fun k => k = w1.heap.size) (p := ⟨w1.heap.size, 1, none⟩) rfl _; have d4 := d3.above hs4 (fun k e => by have := hz1.out; omega); have a5 := a4.upd hs4 (fun e => by have := hz1.out; omega); have x4 := x3.set 1 (.int .u64 n); have u5 : Upd (Only rb) w (w3.setCell ⟨w1.heap.size, 1, none⟩ (.int .u64 n)) := u4.trans hs4 (fun i e hi => by have := hz1.out; omega)))
      have xd := x4.drew; have ad := a5.drew; have aF0 := a5.fresh5 (.int .u8 2) (.int .u64 n) (.string ⟨#[]⟩) (.slice none 0 0) (.slice none 0 0); have aF := aF0.drew; have xF := (x4.upd (Upd.at5 (w3.setCell ⟨w1.heap.size, 1, none⟩ (.int .u64 n)) w.heap.size (.int .u8 2) (.int .u64 n) (.string ⟨#[]⟩) (.slice none 0 0) (.slice none 0 0)) (fun e => by have := hz1.out; omega)).drew; have hF : Upd (Only rb) w _ := (u5.fresh5 (Nat.le_refl _) (.int .u8 2) (.int .u64 n) (.string ⟨#[]⟩) (.slice none 0 0) (.slice none 0 0)).drew; have dF := (d4.fresh5 hrl (.int .u8 2) (.int .u64 n) (.string ⟨#[]⟩) (.slice none 0 0) (.slice none 0 0)).pure (below_refl_dr _)
      have dd := d4.pure (below_refl_dr _)
      have ka0 := xd.at 0 rfl; have ka1 := xd.at 1 rfl; have ka2 := xd.at 2 rfl; have ka3 := xd.at 3 rfl; have ka4 := xd.at 4 rfl; have ka5 := dd.sp; have kb0 := xF.at 0 rfl; have kb1 := xF.at 1 rfl; have kb2 := xF.at 2 rfl; have kb3 := xF.at 3 rfl; have kb4 := xF.at 4 rfl; have kb5 := dF.sp
      have kz0 := ad.frozen 0; have kw0 := ad.at 0 rfl; have ky0 := a5.frozen 0; have kx0 := a5.at 0 rfl; have kz1 := ad.frozen 1; have kw1 := ad.at 1 rfl; have ky1 := a5.frozen 1; have kx1 := a5.at 1 rfl; have kz2 := ad.frozen 2; have kw2 := ad.at 2 rfl; have ky2 := a5.frozen 2; have kx2 := a5.at 2 rfl; have kz3 := ad.frozen 3; have kw3 := ad.at 3 rfl; have ky3 := a5.frozen 3; have kx3 := a5.at 3 rfl; have kz4 := ad.frozen 4; have kw4 := ad.at 4 rfl; have ky4 := a5.frozen 4; have kx4 := a5.at 4 rfl
      refine wp_region_held_drew (S := (fun w' => w'.cell? ⟨w1.heap.size, 0, none⟩ = some (.int .u8 2) ∧ w'.cell? ⟨w1.heap.size, 1, none⟩ = some (.int .u64 n) ∧ w'.cell? ⟨w1.heap.size, 2, none⟩ = some (.string ⟨#[]⟩) ∧ w'.cell? ⟨w1.heap.size, 3, none⟩ = some (.slice none 0 0) ∧ w'.cell? ⟨w1.heap.size, 4, none⟩ = some (.slice none 0 0) ∧ w'.cell? ⟨rb, 1, none⟩ = some (.bool false))) (by kernel_rfl) ?_ (fun hHeld => ?_)
      · (first | with_reducible exact ⟨ka0, ka1, ka2, ka3, ka4, ka5⟩ | with_reducible exact ⟨kb0, kb1, kb2, kb3, kb4, kb5⟩)
      refine takeY 0 108 rfl rfl (v := ?_) ?_ hHeld ?_
      rotate_left 1
      · (intro w hSw; (try dsimp only at hSw); go_simp; (try with_reducible rfl))
      try simp only [Act.put, lsT, lsZ, lsS]
      refine takeY 1 109 rfl rfl (v := ?_) ?_ hHeld ?_
      rotate_left 1
      · (intro w hSw; (try dsimp only at hSw); go_simp; (try with_reducible rfl))
      try simp only [Act.put, lsT, lsZ, lsS]
      refine takeY 2 110 rfl rfl (v := ?_) ?_ hHeld ?_
      rotate_left 1
      · (intro w hSw; (try dsimp only at hSw); go_simp; (try with_reducible rfl))
      try simp only [Act.put, lsT, lsZ, lsS]
      refine takeY 3 111 rfl rfl (v := ?_) ?_ hHeld ?_
      rotate_left 1
      · (intro w hSw; (try dsimp only at hSw); go_simp; (try with_reducible rfl))
      try simp only [Act.put, lsT, lsZ, lsS]
      refine takeY 4 112 rfl rfl (v := ?_) ?_ hHeld ?_
      rotate_left 1
      · (intro w hSw; (try dsimp only at hSw); go_simp; (try with_reducible rfl))
      try simp only [Act.put, lsT, lsZ, lsS]
      refine takeY 5 113 rfl rfl (v := ?_) ?_ hHeld ?_
      rotate_left 1
      · (intro w hSw; (try dsimp only at hSw); go_simp; (try with_reducible rfl))
      try simp only [Act.put, lsT, lsZ, lsS]
      refine takeY 6 114 rfl rfl (v := ?_) ?_ hHeld ?_
      rotate_left 1
      · (intro w hSw; (try dsimp only at hSw); go_simp; (try with_reducible rfl))
      try simp only [Act.put, lsT, lsZ, lsS]
      refine wpAnyH_ready (rs := [7]) (by kernel_rfl) (by simp) ?_
      refine AllReadyH.cons rfl (fun K hK => ?_) AllReadyH.nil
      go_simp
      skip
      refine hK.out _ _ ?_ (fun hHeld => ?_)
      · (first | with_reducible exact ⟨ka0, ka1, ka2, ka3, ka4, ka5⟩ | with_reducible exact ⟨kb0, kb1, kb2, kb3, kb4, kb5⟩)
      clear hK K
      try simp only [Act.put, lsT, lsZ, lsS]
      refine wpAnyH_ready (rs := [8]) (by kernel_rfl) (by simp) ?_
      refine AllReadyH.cons rfl (fun K hK => ?_) AllReadyH.nil
      go_simp
      skip
      refine hK.out _ _ ?_ (fun hHeld => ?_)
      · (first | with_reducible exact ⟨ka0, ka1, ka2, ka3, ka4, ka5⟩ | with_reducible exact ⟨kb0, kb1, kb2, kb3, kb4, kb5⟩)
      clear hK K
      try simp only [Act.put, lsT, lsZ, lsS]
      refine wpAnyH_ready (rs := [9]) (by kernel_rfl) (by simp) ?_
      refine AllReadyH.cons rfl (fun K hK => ?_) AllReadyH.nil
      go_simp
      skip
      refine hK.out _ _ ?_ (fun hHeld => ?_)
      · (first | with_reducible exact ⟨ka0, ka1, ka2, ka3, ka4, ka5⟩ | with_reducible exact ⟨kb0, kb1, kb2, kb3, kb4, kb5⟩)
      clear hK K
      try simp only [Act.put, lsT, lsZ, lsS]
      refine wpAnyH_done (by kernel_rfl) ?_ _
      have k0 := aF.at 0 rfl; have k1 := aF.at 1 rfl; have k2 := aF.at 2 rfl; have k3 := aF.at 3 rfl; have k4 := aF.at 4 rfl
      go_wp2
      refine bodyPost_ret (by simp [results, Tryd.results69, go_sem, k0, k1, k2, k3, k4]; rfl) rfl ?_
      rw [hr.out]; exact ⟨.mk 2 n ⟨#[]⟩ (.slice none 0 0) (.slice none 0 0) [] [], rfl, rfl, Rd.leaf (by omega) (by have := hnb.out; omega) (by omega) (by omega), dF, hF⟩
  by_cases hk49 : k = 49
  · subst hk49
    have x2 : Blk W2 w1.heap.size [.int .u8 49, .int .u64 0, .string ⟨#[]⟩, .slice none 0 0, .slice none 0 0] := x2
    have f0 := x2.at 0 rfl
    clear hkw
    have hr' : rdD (d + 1) left b = (gN 8 b1).bind fun (x : Nat × List UInt8) => some (V.mk 49 x.1 ByteArray.empty [] [], left - 1, x.2) := by rw [hr0h.out]; rfl
    clear hr0h
    rcases gN_or 8 b1 with hno' | ⟨n, b2, hg2'⟩
    · rw [gN_none hno'] at hr'
      have hr := Lib.hid hr'; have hno := Lib.hid hno'
      clear hr' hno'
      go_wp2_with (first | (go_at_call 42; (with_reducible refine (qnum_no _ rb b1 false 8 8 d2 rfl (by unfold Wd; omega) (Or.inr hno.out)).mono ?_); rintro e w3 ⟨rfl, d3, hu3⟩; have x3 := x2.upd hu3 (fun e => by have := hz1.out; unfold Only at e; omega); have a4 := a3.upd hu3 (fun e => by unfold Only at e; omega); have u4 := u3.trans hu3 (fun _ h _ => h); have g1 := x3.frozen 1; have j1 := x3.at 1 rfl; have hs4 : Upd (fun k => k = w1.heap.size) w3 (w3.setCell ⟨w1.heap.size, 1, none⟩ (.int .u64 0)) := Upd.set (S := fun k => k = w1.heap.size) (p := ⟨w1.heap.size, 1, none⟩) rfl _; have d4 := d3.above hs4 (fun k e => by have := hz1.out; omega); have a5 := a4.upd hs4 (fun e => by have := hz1.out; omega); have x4 := x3.set 1 (.int .u64 0); have u5 : Upd (Only rb) w (w3.setCell ⟨w1.heap.size, 1, none⟩ (.int .u64 0)) := u4.trans hs4 (fun i e hi => by have := hz1.out; omega)))
      have xd := x4.drew; have ad := a5.drew; have aF0 := a5.fresh5 (.int .u8 49) (.int .u64 0) (.string ⟨#[]⟩) (.slice none 0 0) (.slice none 0 0); have aF := aF0.drew; have xF := (x4.upd (Upd.at5 (w3.setCell ⟨w1.heap.size, 1, none⟩ (.int .u64 0)) w.heap.size (.int .u8 49) (.int .u64 0) (.string ⟨#[]⟩) (.slice none 0 0) (.slice none 0 0)) (fun e => by have := hz1.out; omega)).drew; have hF : Upd (Only rb) w _ := (u5.fresh5 (Nat.le_refl _) (.int .u8 49) (.int .u64 0) (.string ⟨#[]⟩) (.slice none 0 0) (.slice none 0 0)).drew; have dF := (d4.fresh5 hrl (.int .u8 49) (.int .u64 0) (.string ⟨#[]⟩) (.slice none 0 0) (.slice none 0 0)).pure (below_refl_dr _)
      have dd := d4.pure (below_refl_dr _)
      have ka0 := xd.at 0 rfl; have ka1 := xd.at 1 rfl; have ka2 := xd.at 2 rfl; have ka3 := xd.at 3 rfl; have ka4 := xd.at 4 rfl; have ka5 := dd.sp; have kb0 := xF.at 0 rfl; have kb1 := xF.at 1 rfl; have kb2 := xF.at 2 rfl; have kb3 := xF.at 3 rfl; have kb4 := xF.at 4 rfl; have kb5 := dF.sp
      have kz0 := ad.frozen 0; have kw0 := ad.at 0 rfl; have ky0 := a5.frozen 0; have kx0 := a5.at 0 rfl; have kz1 := ad.frozen 1; have kw1 := ad.at 1 rfl; have ky1 := a5.frozen 1; have kx1 := a5.at 1 rfl; have kz2 := ad.frozen 2; have kw2 := ad.at 2 rfl; have ky2 := a5.frozen 2; have kx2 := a5.at 2 rfl; have kz3 := ad.frozen 3; have kw3 := ad.at 3 rfl; have ky3 := a5.frozen 3; have kx3 := a5.at 3 rfl; have kz4 := ad.frozen 4; have kw4 := ad.at 4 rfl; have ky4 := a5.frozen 4; have kx4 := a5.at 4 rfl
      refine wp_region_held_drew (S := (fun w' => w'.cell? ⟨w1.heap.size, 0, none⟩ = some (.int .u8 49) ∧ w'.cell? ⟨w1.heap.size, 1, none⟩ = some (.int .u64 0) ∧ w'.cell? ⟨w1.heap.size, 2, none⟩ = some (.string ⟨#[]⟩) ∧ w'.cell? ⟨w1.heap.size, 3, none⟩ = some (.slice none 0 0) ∧ w'.cell? ⟨w1.heap.size, 4, none⟩ = some (.slice none 0 0) ∧ w'.cell? ⟨rb, 1, none⟩ = some (.bool true))) (by kernel_rfl) ?_ (fun hHeld => ?_)
      · (first | with_reducible exact ⟨ka0, ka1, ka2, ka3, ka4, ka5⟩ | with_reducible exact ⟨kb0, kb1, kb2, kb3, kb4, kb5⟩)
      refine takeY 0 108 rfl rfl (v := ?_) ?_ hHeld ?_
      rotate_left 1
      · (intro w hSw; (try dsimp only at hSw); go_simp; (try with_reducible rfl))
      try simp only [Act.put, lsT, lsZ, lsS]
      refine takeY 1 109 rfl rfl (v := ?_) ?_ hHeld ?_
      rotate_left 1
      · (intro w hSw; (try dsimp only at hSw); go_simp; (try with_reducible rfl))
      try simp only [Act.put, lsT, lsZ, lsS]
      refine takeY 2 110 rfl rfl (v := ?_) ?_ hHeld ?_
      rotate_left 1
      · (intro w hSw; (try dsimp only at hSw); go_simp; (try with_reducible rfl))
      try simp only [Act.put, lsT, lsZ, lsS]
      refine takeY 3 111 rfl rfl (v := ?_) ?_ hHeld ?_
      rotate_left 1
      · (intro w hSw; (try dsimp only at hSw); go_simp; (try with_reducible rfl))
      try simp only [Act.put, lsT, lsZ, lsS]
      refine takeY 4 112 rfl rfl (v := ?_) ?_ hHeld ?_
      rotate_left 1
      · (intro w hSw; (try dsimp only at hSw); go_simp; (try with_reducible rfl))
      try simp only [Act.put, lsT, lsZ, lsS]
      refine takeY 5 113 rfl rfl (v := ?_) ?_ hHeld ?_
      rotate_left 1
      · (intro w hSw; (try dsimp only at hSw); go_simp; (try with_reducible rfl))
      try simp only [Act.put, lsT, lsZ, lsS]
      refine takeY 6 114 rfl rfl (v := ?_) ?_ hHeld ?_
      rotate_left 1
      · (intro w hSw; (try dsimp only at hSw); go_simp; (try with_reducible rfl))
      try simp only [Act.put, lsT, lsZ, lsS]
      refine wpAnyH_ready (rs := [7]) (by kernel_rfl) (by simp) ?_
      refine AllReadyH.cons rfl (fun K hK => ?_) AllReadyH.nil
      go_simp
      skip
      refine hK.out _ _ ?_ (fun hHeld => ?_)
      · (first | with_reducible exact ⟨ka0, ka1, ka2, ka3, ka4, ka5⟩ | with_reducible exact ⟨kb0, kb1, kb2, kb3, kb4, kb5⟩)
      clear hK K
      try simp only [Act.put, lsT, lsZ, lsS]
      refine wpAnyH_ready (rs := [8]) (by kernel_rfl) (by simp) ?_
      refine AllReadyH.cons rfl (fun K hK => ?_) AllReadyH.nil
      go_simp
      skip
      refine hK.out _ _ ?_ (fun hHeld => ?_)
      · (first | with_reducible exact ⟨ka0, ka1, ka2, ka3, ka4, ka5⟩ | with_reducible exact ⟨kb0, kb1, kb2, kb3, kb4, kb5⟩)
      clear hK K
      try simp only [Act.put, lsT, lsZ, lsS]
      refine wpAnyH_ready (rs := [9]) (by kernel_rfl) (by simp) ?_
      refine AllReadyH.cons rfl (fun K hK => ?_) AllReadyH.nil
      go_simp
      skip
      refine hK.out _ _ ?_ (fun hHeld => ?_)
      · (first | with_reducible exact ⟨ka0, ka1, ka2, ka3, ka4, ka5⟩ | with_reducible exact ⟨kb0, kb1, kb2, kb3, kb4, kb5⟩)
      clear hK K
      try simp only [Act.put, lsT, lsZ, lsS]
      refine wpAnyH_done (by kernel_rfl) ?_ _
      have k0 := aF.at 0 rfl; have k1 := aF.at 1 rfl; have k2 := aF.at 2 rfl; have k3 := aF.at 3 rfl; have k4 := aF.at 4 rfl
      go_wp2
      refine bodyPost_ret (by simp [results, Tryd.results69, go_sem, k0, k1, k2, k3, k4]; rfl) rfl ?_
      rw [hr.out]; exact ⟨.mk 49 0 ⟨#[]⟩ (.slice none 0 0) (.slice none 0 0) [] [], left - 1, rfl, Rd.leaf (by omega) (by omega) (by omega) (by omega), hF⟩
    · rw [hg2', Option.bind_some] at hr'
      have hr := Lib.hid hr'; have hg2 := Lib.hid hg2'
      have hnb := Lib.hid (gN_lt hg2').1
      clear hr' hg2'
      go_wp2_with (first | (go_at_call 42; (with_reducible refine (qnum_yes _ rb b1 8 n 8 b2 d2 rfl (by unfold Wd; omega) hg2.out hL1).mono ?_); rintro e w3 ⟨rfl, d3, hu3⟩; have x3 := x2.upd hu3 (fun e => by have := hz1.out; unfold Only at e; omega); have a4 := a3.upd hu3 (fun e => by unfold Only at e; omega); have u4 := u3.trans hu3 (fun _ h _ => h); have g1 := x3.frozen 1; have j1 := x3.at 1 rfl; have hs4 : Upd (fun k => k = w1.heap.size) w3 (w3.setCell ⟨w1.heap.size, 1, none⟩ (.int .u64 n)) := Upd.set (S := fun k => k = w1.heap.size) (p := ⟨w1.heap.size, 1, none⟩) rfl _; have d4 := d3.above hs4 (fun k e => by have := hz1.out; omega); have a5 := a4.upd hs4 (fun e => by have := hz1.out; omega); have x4 := x3.set 1 (.int .u64 n); have u5 : Upd (Only rb) w (w3.setCell ⟨w1.heap.size, 1, none⟩ (.int .u64 n)) := u4.trans hs4 (fun i e hi => by have := hz1.out; omega)))
      have xd := x4.drew; have ad := a5.drew; have aF0 := a5.fresh5 (.int .u8 49) (.int .u64 n) (.string ⟨#[]⟩) (.slice none 0 0) (.slice none 0 0); have aF := aF0.drew; have xF := (x4.upd (Upd.at5 (w3.setCell ⟨w1.heap.size, 1, none⟩ (.int .u64 n)) w.heap.size (.int .u8 49) (.int .u64 n) (.string ⟨#[]⟩) (.slice none 0 0) (.slice none 0 0)) (fun e => by have := hz1.out; omega)).drew; have hF : Upd (Only rb) w _ := (u5.fresh5 (Nat.le_refl _) (.int .u8 49) (.int .u64 n) (.string ⟨#[]⟩) (.slice none 0 0) (.slice none 0 0)).drew; have dF := (d4.fresh5 hrl (.int .u8 49) (.int .u64 n) (.string ⟨#[]⟩) (.slice none 0 0) (.slice none 0 0)).pure (below_refl_dr _)
      have dd := d4.pure (below_refl_dr _)
      have ka0 := xd.at 0 rfl; have ka1 := xd.at 1 rfl; have ka2 := xd.at 2 rfl; have ka3 := xd.at 3 rfl; have ka4 := xd.at 4 rfl; have ka5 := dd.sp; have kb0 := xF.at 0 rfl; have kb1 := xF.at 1 rfl; have kb2 := xF.at 2 rfl; have kb3 := xF.at 3 rfl; have kb4 := xF.at 4 rfl; have kb5 := dF.sp
      have kz0 := ad.frozen 0; have kw0 := ad.at 0 rfl; have ky0 := a5.frozen 0; have kx0 := a5.at 0 rfl; have kz1 := ad.frozen 1; have kw1 := ad.at 1 rfl; have ky1 := a5.frozen 1; have kx1 := a5.at 1 rfl; have kz2 := ad.frozen 2; have kw2 := ad.at 2 rfl; have ky2 := a5.frozen 2; have kx2 := a5.at 2 rfl; have kz3 := ad.frozen 3; have kw3 := ad.at 3 rfl; have ky3 := a5.frozen 3; have kx3 := a5.at 3 rfl; have kz4 := ad.frozen 4; have kw4 := ad.at 4 rfl; have ky4 := a5.frozen 4; have kx4 := a5.at 4 rfl
      refine wp_region_held_drew (S := (fun w' => w'.cell? ⟨w1.heap.size, 0, none⟩ = some (.int .u8 49) ∧ w'.cell? ⟨w1.heap.size, 1, none⟩ = some (.int .u64 n) ∧ w'.cell? ⟨w1.heap.size, 2, none⟩ = some (.string ⟨#[]⟩) ∧ w'.cell? ⟨w1.heap.size, 3, none⟩ = some (.slice none 0 0) ∧ w'.cell? ⟨w1.heap.size, 4, none⟩ = some (.slice none 0 0) ∧ w'.cell? ⟨rb, 1, none⟩ = some (.bool false))) (by kernel_rfl) ?_ (fun hHeld => ?_)
      · (first | with_reducible exact ⟨ka0, ka1, ka2, ka3, ka4, ka5⟩ | with_reducible exact ⟨kb0, kb1, kb2, kb3, kb4, kb5⟩)
      refine takeY 0 108 rfl rfl (v := ?_) ?_ hHeld ?_
      rotate_left 1
      · (intro w hSw; (try dsimp only at hSw); go_simp; (try with_reducible rfl))
      try simp only [Act.put, lsT, lsZ, lsS]
      refine takeY 1 109 rfl rfl (v := ?_) ?_ hHeld ?_
      rotate_left 1
      · (intro w hSw; (try dsimp only at hSw); go_simp; (try with_reducible rfl))
      try simp only [Act.put, lsT, lsZ, lsS]
      refine takeY 2 110 rfl rfl (v := ?_) ?_ hHeld ?_
      rotate_left 1
      · (intro w hSw; (try dsimp only at hSw); go_simp; (try with_reducible rfl))
      try simp only [Act.put, lsT, lsZ, lsS]
      refine takeY 3 111 rfl rfl (v := ?_) ?_ hHeld ?_
      rotate_left 1
      · (intro w hSw; (try dsimp only at hSw); go_simp; (try with_reducible rfl))
      try simp only [Act.put, lsT, lsZ, lsS]
      refine takeY 4 112 rfl rfl (v := ?_) ?_ hHeld ?_
      rotate_left 1
      · (intro w hSw; (try dsimp only at hSw); go_simp; (try with_reducible rfl))
      try simp only [Act.put, lsT, lsZ, lsS]
      refine takeY 5 113 rfl rfl (v := ?_) ?_ hHeld ?_
      rotate_left 1
      · (intro w hSw; (try dsimp only at hSw); go_simp; (try with_reducible rfl))
      try simp only [Act.put, lsT, lsZ, lsS]
      refine takeY 6 114 rfl rfl (v := ?_) ?_ hHeld ?_
      rotate_left 1
      · (intro w hSw; (try dsimp only at hSw); go_simp; (try with_reducible rfl))
      try simp only [Act.put, lsT, lsZ, lsS]
      refine wpAnyH_ready (rs := [7]) (by kernel_rfl) (by simp) ?_
      refine AllReadyH.cons rfl (fun K hK => ?_) AllReadyH.nil
      go_simp
      skip
      refine hK.out _ _ ?_ (fun hHeld => ?_)
      · (first | with_reducible exact ⟨ka0, ka1, ka2, ka3, ka4, ka5⟩ | with_reducible exact ⟨kb0, kb1, kb2, kb3, kb4, kb5⟩)
      clear hK K
      try simp only [Act.put, lsT, lsZ, lsS]
      refine wpAnyH_ready (rs := [8]) (by kernel_rfl) (by simp) ?_
      refine AllReadyH.cons rfl (fun K hK => ?_) AllReadyH.nil
      go_simp
      skip
      refine hK.out _ _ ?_ (fun hHeld => ?_)
      · (first | with_reducible exact ⟨ka0, ka1, ka2, ka3, ka4, ka5⟩ | with_reducible exact ⟨kb0, kb1, kb2, kb3, kb4, kb5⟩)
      clear hK K
      try simp only [Act.put, lsT, lsZ, lsS]
      refine wpAnyH_ready (rs := [9]) (by kernel_rfl) (by simp) ?_
      refine AllReadyH.cons rfl (fun K hK => ?_) AllReadyH.nil
      go_simp
      skip
      refine hK.out _ _ ?_ (fun hHeld => ?_)
      · (first | with_reducible exact ⟨ka0, ka1, ka2, ka3, ka4, ka5⟩ | with_reducible exact ⟨kb0, kb1, kb2, kb3, kb4, kb5⟩)
      clear hK K
      try simp only [Act.put, lsT, lsZ, lsS]
      refine wpAnyH_done (by kernel_rfl) ?_ _
      have k0 := aF.at 0 rfl; have k1 := aF.at 1 rfl; have k2 := aF.at 2 rfl; have k3 := aF.at 3 rfl; have k4 := aF.at 4 rfl
      go_wp2
      refine bodyPost_ret (by simp [results, Tryd.results69, go_sem, k0, k1, k2, k3, k4]; rfl) rfl ?_
      rw [hr.out]; exact ⟨.mk 49 n ⟨#[]⟩ (.slice none 0 0) (.slice none 0 0) [] [], rfl, rfl, Rd.leaf (by omega) (by have := hnb.out; omega) (by omega) (by omega), dF, hF⟩
  by_cases hk50 : k = 50
  · subst hk50
    have x2 : Blk W2 w1.heap.size [.int .u8 50, .int .u64 0, .string ⟨#[]⟩, .slice none 0 0, .slice none 0 0] := x2
    have f0 := x2.at 0 rfl
    clear hkw
    have hr' : rdD (d + 1) left b = (gN 8 b1).bind fun (x : Nat × List UInt8) => some (V.mk 50 x.1 ByteArray.empty [] [], left - 1, x.2) := by rw [hr0h.out]; rfl
    clear hr0h
    rcases gN_or 8 b1 with hno' | ⟨n, b2, hg2'⟩
    · rw [gN_none hno'] at hr'
      have hr := Lib.hid hr'; have hno := Lib.hid hno'
      clear hr' hno'
      go_wp2_with (first | (go_at_call 42; (with_reducible refine (qnum_no _ rb b1 false 8 8 d2 rfl (by unfold Wd; omega) (Or.inr hno.out)).mono ?_); rintro e w3 ⟨rfl, d3, hu3⟩; have x3 := x2.upd hu3 (fun e => by have := hz1.out; unfold Only at e; omega); have a4 := a3.upd hu3 (fun e => by unfold Only at e; omega); have u4 := u3.trans hu3 (fun _ h _ => h); have g1 := x3.frozen 1; have j1 := x3.at 1 rfl; have hs4 : Upd (fun k => k = w1.heap.size) w3 (w3.setCell ⟨w1.heap.size, 1, none⟩ (.int .u64 0)) := Upd.set (S := fun k => k = w1.heap.size) (p := ⟨w1.heap.size, 1, none⟩) rfl _; have d4 := d3.above hs4 (fun k e => by have := hz1.out; omega); have a5 := a4.upd hs4 (fun e => by have := hz1.out; omega); have x4 := x3.set 1 (.int .u64 0); have u5 : Upd (Only rb) w (w3.setCell ⟨w1.heap.size, 1, none⟩ (.int .u64 0)) := u4.trans hs4 (fun i e hi => by have := hz1.out; omega)))
      have xd := x4.drew; have ad := a5.drew; have aF0 := a5.fresh5 (.int .u8 50) (.int .u64 0) (.string ⟨#[]⟩) (.slice none 0 0) (.slice none 0 0); have aF := aF0.drew; have xF := (x4.upd (Upd.at5 (w3.setCell ⟨w1.heap.size, 1, none⟩ (.int .u64 0)) w.heap.size (.int .u8 50) (.int .u64 0) (.string ⟨#[]⟩) (.slice none 0 0) (.slice none 0 0)) (fun e => by have := hz1.out; omega)).drew; have hF : Upd (Only rb) w _ := (u5.fresh5 (Nat.le_refl _) (.int .u8 50) (.int .u64 0) (.string ⟨#[]⟩) (.slice none 0 0) (.slice none 0 0)).drew; have dF := (d4.fresh5 hrl (.int .u8 50) (.int .u64 0) (.string ⟨#[]⟩) (.slice none 0 0) (.slice none 0 0)).pure (below_refl_dr _)
      have dd := d4.pure (below_refl_dr _)
      have ka0 := xd.at 0 rfl; have ka1 := xd.at 1 rfl; have ka2 := xd.at 2 rfl; have ka3 := xd.at 3 rfl; have ka4 := xd.at 4 rfl; have ka5 := dd.sp; have kb0 := xF.at 0 rfl; have kb1 := xF.at 1 rfl; have kb2 := xF.at 2 rfl; have kb3 := xF.at 3 rfl; have kb4 := xF.at 4 rfl; have kb5 := dF.sp
      have kz0 := ad.frozen 0; have kw0 := ad.at 0 rfl; have ky0 := a5.frozen 0; have kx0 := a5.at 0 rfl; have kz1 := ad.frozen 1; have kw1 := ad.at 1 rfl; have ky1 := a5.frozen 1; have kx1 := a5.at 1 rfl; have kz2 := ad.frozen 2; have kw2 := ad.at 2 rfl; have ky2 := a5.frozen 2; have kx2 := a5.at 2 rfl; have kz3 := ad.frozen 3; have kw3 := ad.at 3 rfl; have ky3 := a5.frozen 3; have kx3 := a5.at 3 rfl; have kz4 := ad.frozen 4; have kw4 := ad.at 4 rfl; have ky4 := a5.frozen 4; have kx4 := a5.at 4 rfl
      refine wp_region_held_drew (S := (fun w' => w'.cell? ⟨w1.heap.size, 0, none⟩ = some (.int .u8 50) ∧ w'.cell? ⟨w1.heap.size, 1, none⟩ = some (.int .u64 0) ∧ w'.cell? ⟨w1.heap.size, 2, none⟩ = some (.string ⟨#[]⟩) ∧ w'.cell? ⟨w1.heap.size, 3, none⟩ = some (.slice none 0 0) ∧ w'.cell? ⟨w1.heap.size, 4, none⟩ = some (.slice none 0 0) ∧ w'.cell? ⟨rb, 1, none⟩ = some (.bool true))) (by kernel_rfl) ?_ (fun hHeld => ?_)
      · (first | with_reducible exact ⟨ka0, ka1, ka2, ka3, ka4, ka5⟩ | with_reducible exact ⟨kb0, kb1, kb2, kb3, kb4, kb5⟩)
      refine takeY 0 108 rfl rfl (v := ?_) ?_ hHeld ?_
      rotate_left 1
      · (intro w hSw; (try dsimp only at hSw); go_simp; (try with_reducible rfl))
      try simp only [Act.put, lsT, lsZ, lsS]
      refine takeY 1 109 rfl rfl (v := ?_) ?_ hHeld ?_
      rotate_left 1
      · (intro w hSw; (try dsimp only at hSw); go_simp; (try with_reducible rfl))
      try simp only [Act.put, lsT, lsZ, lsS]
      refine takeY 2 110 rfl rfl (v := ?_) ?_ hHeld ?_
      rotate_left 1
      · (intro w hSw; (try dsimp only at hSw); go_simp; (try with_reducible rfl))
      try simp only [Act.put, lsT, lsZ, lsS]
      refine takeY 3 111 rfl rfl (v := ?_) ?_ hHeld ?_
      rotate_left 1
      · (intro w hSw; (try dsimp only at hSw); go_simp; (try with_reducible rfl))
      try simp only [Act.put, lsT, lsZ, lsS]
      refine takeY 4 112 rfl rfl (v := ?_) ?_ hHeld ?_
      rotate_left 1
      · (intro w hSw; (try dsimp only at hSw); go_simp; (try with_reducible rfl))
      try simp only [Act.put, lsT, lsZ, lsS]
      refine takeY 5 113 rfl rfl (v := ?_) ?_ hHeld ?_
      rotate_left 1
      · (intro w hSw; (try dsimp only at hSw); go_simp; (try with_reducible rfl))
      try simp only [Act.put, lsT, lsZ, lsS]
      refine takeY 6 114 rfl rfl (v := ?_) ?_ hHeld ?_
      rotate_left 1
      · (intro w hSw; (try dsimp only at hSw); go_simp; (try with_reducible rfl))
      try simp only [Act.put, lsT, lsZ, lsS]
      refine wpAnyH_ready (rs := [7]) (by kernel_rfl) (by simp) ?_
      refine AllReadyH.cons rfl (fun K hK => ?_) AllReadyH.nil
      go_simp
      skip
      refine hK.out _ _ ?_ (fun hHeld => ?_)
      · (first | with_reducible exact ⟨ka0, ka1, ka2, ka3, ka4, ka5⟩ | with_reducible exact ⟨kb0, kb1, kb2, kb3, kb4, kb5⟩)
      clear hK K
      try simp only [Act.put, lsT, lsZ, lsS]
      refine wpAnyH_ready (rs := [8]) (by kernel_rfl) (by simp) ?_
      refine AllReadyH.cons rfl (fun K hK => ?_) AllReadyH.nil
      go_simp
      skip
      refine hK.out _ _ ?_ (fun hHeld => ?_)
      · (first | with_reducible exact ⟨ka0, ka1, ka2, ka3, ka4, ka5⟩ | with_reducible exact ⟨kb0, kb1, kb2, kb3, kb4, kb5⟩)
      clear hK K
      try simp only [Act.put, lsT, lsZ, lsS]
      refine wpAnyH_ready (rs := [9]) (by kernel_rfl) (by simp) ?_
      refine AllReadyH.cons rfl (fun K hK => ?_) AllReadyH.nil
      go_simp
      skip
      refine hK.out _ _ ?_ (fun hHeld => ?_)
      · (first | with_reducible exact ⟨ka0, ka1, ka2, ka3, ka4, ka5⟩ | with_reducible exact ⟨kb0, kb1, kb2, kb3, kb4, kb5⟩)
      clear hK K
      try simp only [Act.put, lsT, lsZ, lsS]
      refine wpAnyH_done (by kernel_rfl) ?_ _
      have k0 := aF.at 0 rfl; have k1 := aF.at 1 rfl; have k2 := aF.at 2 rfl; have k3 := aF.at 3 rfl; have k4 := aF.at 4 rfl
      go_wp2
      refine bodyPost_ret (by simp [results, Tryd.results69, go_sem, k0, k1, k2, k3, k4]; rfl) rfl ?_
      rw [hr.out]; exact ⟨.mk 50 0 ⟨#[]⟩ (.slice none 0 0) (.slice none 0 0) [] [], left - 1, rfl, Rd.leaf (by omega) (by omega) (by omega) (by omega), hF⟩
    · rw [hg2', Option.bind_some] at hr'
      have hr := Lib.hid hr'; have hg2 := Lib.hid hg2'
      have hnb := Lib.hid (gN_lt hg2').1
      clear hr' hg2'
      go_wp2_with (first | (go_at_call 42; (with_reducible refine (qnum_yes _ rb b1 8 n 8 b2 d2 rfl (by unfold Wd; omega) hg2.out hL1).mono ?_); rintro e w3 ⟨rfl, d3, hu3⟩; have x3 := x2.upd hu3 (fun e => by have := hz1.out; unfold Only at e; omega); have a4 := a3.upd hu3 (fun e => by unfold Only at e; omega); have u4 := u3.trans hu3 (fun _ h _ => h); have g1 := x3.frozen 1; have j1 := x3.at 1 rfl; have hs4 : Upd (fun k => k = w1.heap.size) w3 (w3.setCell ⟨w1.heap.size, 1, none⟩ (.int .u64 n)) := Upd.set (S := fun k => k = w1.heap.size) (p := ⟨w1.heap.size, 1, none⟩) rfl _; have d4 := d3.above hs4 (fun k e => by have := hz1.out; omega); have a5 := a4.upd hs4 (fun e => by have := hz1.out; omega); have x4 := x3.set 1 (.int .u64 n); have u5 : Upd (Only rb) w (w3.setCell ⟨w1.heap.size, 1, none⟩ (.int .u64 n)) := u4.trans hs4 (fun i e hi => by have := hz1.out; omega)))
      have xd := x4.drew; have ad := a5.drew; have aF0 := a5.fresh5 (.int .u8 50) (.int .u64 n) (.string ⟨#[]⟩) (.slice none 0 0) (.slice none 0 0); have aF := aF0.drew; have xF := (x4.upd (Upd.at5 (w3.setCell ⟨w1.heap.size, 1, none⟩ (.int .u64 n)) w.heap.size (.int .u8 50) (.int .u64 n) (.string ⟨#[]⟩) (.slice none 0 0) (.slice none 0 0)) (fun e => by have := hz1.out; omega)).drew; have hF : Upd (Only rb) w _ := (u5.fresh5 (Nat.le_refl _) (.int .u8 50) (.int .u64 n) (.string ⟨#[]⟩) (.slice none 0 0) (.slice none 0 0)).drew; have dF := (d4.fresh5 hrl (.int .u8 50) (.int .u64 n) (.string ⟨#[]⟩) (.slice none 0 0) (.slice none 0 0)).pure (below_refl_dr _)
      have dd := d4.pure (below_refl_dr _)
      have ka0 := xd.at 0 rfl; have ka1 := xd.at 1 rfl; have ka2 := xd.at 2 rfl; have ka3 := xd.at 3 rfl; have ka4 := xd.at 4 rfl; have ka5 := dd.sp; have kb0 := xF.at 0 rfl; have kb1 := xF.at 1 rfl; have kb2 := xF.at 2 rfl; have kb3 := xF.at 3 rfl; have kb4 := xF.at 4 rfl; have kb5 := dF.sp
      have kz0 := ad.frozen 0; have kw0 := ad.at 0 rfl; have ky0 := a5.frozen 0; have kx0 := a5.at 0 rfl; have kz1 := ad.frozen 1; have kw1 := ad.at 1 rfl; have ky1 := a5.frozen 1; have kx1 := a5.at 1 rfl; have kz2 := ad.frozen 2; have kw2 := ad.at 2 rfl; have ky2 := a5.frozen 2; have kx2 := a5.at 2 rfl; have kz3 := ad.frozen 3; have kw3 := ad.at 3 rfl; have ky3 := a5.frozen 3; have kx3 := a5.at 3 rfl; have kz4 := ad.frozen 4; have kw4 := ad.at 4 rfl; have ky4 := a5.frozen 4; have kx4 := a5.at 4 rfl
      refine wp_region_held_drew (S := (fun w' => w'.cell? ⟨w1.heap.size, 0, none⟩ = some (.int .u8 50) ∧ w'.cell? ⟨w1.heap.size, 1, none⟩ = some (.int .u64 n) ∧ w'.cell? ⟨w1.heap.size, 2, none⟩ = some (.string ⟨#[]⟩) ∧ w'.cell? ⟨w1.heap.size, 3, none⟩ = some (.slice none 0 0) ∧ w'.cell? ⟨w1.heap.size, 4, none⟩ = some (.slice none 0 0) ∧ w'.cell? ⟨rb, 1, none⟩ = some (.bool false))) (by kernel_rfl) ?_ (fun hHeld => ?_)
      · (first | with_reducible exact ⟨ka0, ka1, ka2, ka3, ka4, ka5⟩ | with_reducible exact ⟨kb0, kb1, kb2, kb3, kb4, kb5⟩)
      refine takeY 0 108 rfl rfl (v := ?_) ?_ hHeld ?_
      rotate_left 1
      · (intro w hSw; (try dsimp only at hSw); go_simp; (try with_reducible rfl))
      try simp only [Act.put, lsT, lsZ, lsS]
      refine takeY 1 109 rfl rfl (v := ?_) ?_ hHeld ?_
      rotate_left 1
      · (intro w hSw; (try dsimp only at hSw); go_simp; (try with_reducible rfl))
      try simp only [Act.put, lsT, lsZ, lsS]
      refine takeY 2 110 rfl rfl (v := ?_) ?_ hHeld ?_
      rotate_left 1
      · (intro w hSw; (try dsimp only at hSw); go_simp; (try with_reducible rfl))
      try simp only [Act.put, lsT, lsZ, lsS]
      refine takeY 3 111 rfl rfl (v := ?_) ?_ hHeld ?_
      rotate_left 1
      · (intro w hSw; (try dsimp only at hSw); go_simp; (try with_reducible rfl))
      try simp only [Act.put, lsT, lsZ, lsS]
      refine takeY 4 112 rfl rfl (v := ?_) ?_ hHeld ?_
      rotate_left 1
      · (intro w hSw; (try dsimp only at hSw); go_simp; (try with_reducible rfl))
      try simp only [Act.put, lsT, lsZ, lsS]
      refine takeY 5 113 rfl rfl (v := ?_) ?_ hHeld ?_
      rotate_left 1
      · (intro w hSw; (try dsimp only at hSw); go_simp; (try with_reducible rfl))
      try simp only [Act.put, lsT, lsZ, lsS]
      refine takeY 6 114 rfl rfl (v := ?_) ?_ hHeld ?_
      rotate_left 1
      · (intro w hSw; (try dsimp only at hSw); go_simp; (try with_reducible rfl))
      try simp only [Act.put, lsT, lsZ, lsS]
      refine wpAnyH_ready (rs := [7]) (by kernel_rfl) (by simp) ?_
      refine AllReadyH.cons rfl (fun K hK => ?_) AllReadyH.nil
      go_simp
      skip
      refine hK.out _ _ ?_ (fun hHeld => ?_)
      · (first | with_reducible exact ⟨ka0, ka1, ka2, ka3, ka4, ka5⟩ | with_reducible exact ⟨kb0, kb1, kb2, kb3, kb4, kb5⟩)
      clear hK K
      try simp only [Act.put, lsT, lsZ, lsS]
      refine wpAnyH_ready (rs := [8]) (by kernel_rfl) (by simp) ?_
      refine AllReadyH.cons rfl (fun K hK => ?_) AllReadyH.nil
      go_simp
      skip
      refine hK.out _ _ ?_ (fun hHeld => ?_)
      · (first | with_reducible exact ⟨ka0, ka1, ka2, ka3, ka4, ka5⟩ | with_reducible exact ⟨kb0, kb1, kb2, kb3, kb4, kb5⟩)
      clear hK K
      try simp only [Act.put, lsT, lsZ, lsS]
      refine wpAnyH_ready (rs := [9]) (by kernel_rfl) (by simp) ?_
      refine AllReadyH.cons rfl (fun K hK => ?_) AllReadyH.nil
      go_simp
      skip
      refine hK.out _ _ ?_ (fun hHeld => ?_)
      · (first | with_reducible exact ⟨ka0, ka1, ka2, ka3, ka4, ka5⟩ | with_reducible exact ⟨kb0, kb1, kb2, kb3, kb4, kb5⟩)
      clear hK K
      try simp only [Act.put, lsT, lsZ, lsS]
      refine wpAnyH_done (by kernel_rfl) ?_ _
      have k0 := aF.at 0 rfl; have k1 := aF.at 1 rfl; have k2 := aF.at 2 rfl; have k3 := aF.at 3 rfl; have k4 := aF.at 4 rfl
      go_wp2
      refine bodyPost_ret (by simp [results, Tryd.results69, go_sem, k0, k1, k2, k3, k4]; rfl) rfl ?_
      rw [hr.out]; exact ⟨.mk 50 n ⟨#[]⟩ (.slice none 0 0) (.slice none 0 0) [] [], rfl, rfl, Rd.leaf (by omega) (by have := hnb.out; omega) (by omega) (by omega), dF, hF⟩
  by_cases hk149 : k = 149
  · subst hk149
    have x2 : Blk W2 w1.heap.size [.int .u8 149, .int .u64 0, .string ⟨#[]⟩, .slice none 0 0, .slice none 0 0] := x2
    have f0 := x2.at 0 rfl
    clear hkw
    have hr' : rdD (d + 1) left b = (gT 2 4096 b1).bind fun (x : ByteArray × List UInt8) => some (V.mk 149 0 x.1 [] [], left - 1, x.2) := by rw [hr0h.out]; rfl
    clear hr0h
    rcases hg2' : gT 2 4096 b1 with _ | ⟨n, b2⟩
    · rw [hg2'] at hr'
      have hr := Lib.hid hr'; have hno := Lib.hid hg2'
      clear hr' hg2'
      go_wp2_with (first | (go_at_call 43; (with_reducible refine (qtext_no _ rb b1 false 2 4096 2 4096 d2 rfl rfl (by omega) (by omega) (Or.inr hno.out) hL1).mono ?_); rintro e w3 ⟨rfl, d3, hu3⟩; have x3 := x2.upd hu3 (fun e => by have := hz1.out; unfold Only at e; omega); have a4 := a3.upd hu3 (fun e => by unfold Only at e; omega); have u4 := u3.trans hu3 (fun _ h _ => h); have g2 := x3.frozen 2; have j2 := x3.at 2 rfl; have hs4 : Upd (fun k => k = w1.heap.size) w3 (w3.setCell ⟨w1.heap.size, 2, none⟩ (.string ⟨#[]⟩)) := Upd.set (S := fun k => k = w1.heap.size) (p := ⟨w1.heap.size, 2, none⟩) rfl _; have d4 := d3.above hs4 (fun k e => by have := hz1.out; omega); have a5 := a4.upd hs4 (fun e => by have := hz1.out; omega); have x4 := x3.set 2 (.string ⟨#[]⟩); have u5 : Upd (Only rb) w (w3.setCell ⟨w1.heap.size, 2, none⟩ (.string ⟨#[]⟩)) := u4.trans hs4 (fun i e hi => by have := hz1.out; omega)))
      have xd := x4.drew; have ad := a5.drew; have aF0 := a5.fresh5 (.int .u8 149) (.int .u64 0) (.string ⟨#[]⟩) (.slice none 0 0) (.slice none 0 0); have aF := aF0.drew; have xF := (x4.upd (Upd.at5 (w3.setCell ⟨w1.heap.size, 2, none⟩ (.string ⟨#[]⟩)) w.heap.size (.int .u8 149) (.int .u64 0) (.string ⟨#[]⟩) (.slice none 0 0) (.slice none 0 0)) (fun e => by have := hz1.out; omega)).drew; have hF : Upd (Only rb) w _ := (u5.fresh5 (Nat.le_refl _) (.int .u8 149) (.int .u64 0) (.string ⟨#[]⟩) (.slice none 0 0) (.slice none 0 0)).drew; have dF := (d4.fresh5 hrl (.int .u8 149) (.int .u64 0) (.string ⟨#[]⟩) (.slice none 0 0) (.slice none 0 0)).pure (below_refl_dr _)
      have dd := d4.pure (below_refl_dr _)
      have ka0 := xd.at 0 rfl; have ka1 := xd.at 1 rfl; have ka2 := xd.at 2 rfl; have ka3 := xd.at 3 rfl; have ka4 := xd.at 4 rfl; have ka5 := dd.sp; have kb0 := xF.at 0 rfl; have kb1 := xF.at 1 rfl; have kb2 := xF.at 2 rfl; have kb3 := xF.at 3 rfl; have kb4 := xF.at 4 rfl; have kb5 := dF.sp
      have kz0 := ad.frozen 0; have kw0 := ad.at 0 rfl; have ky0 := a5.frozen 0; have kx0 := a5.at 0 rfl; have kz1 := ad.frozen 1; have kw1 := ad.at 1 rfl; have ky1 := a5.frozen 1; have kx1 := a5.at 1 rfl; have kz2 := ad.frozen 2; have kw2 := ad.at 2 rfl; have ky2 := a5.frozen 2; have kx2 := a5.at 2 rfl; have kz3 := ad.frozen 3; have kw3 := ad.at 3 rfl; have ky3 := a5.frozen 3; have kx3 := a5.at 3 rfl; have kz4 := ad.frozen 4; have kw4 := ad.at 4 rfl; have ky4 := a5.frozen 4; have kx4 := a5.at 4 rfl
      refine wp_region_held_drew (S := (fun w' => w'.cell? ⟨w1.heap.size, 0, none⟩ = some (.int .u8 149) ∧ w'.cell? ⟨w1.heap.size, 1, none⟩ = some (.int .u64 0) ∧ w'.cell? ⟨w1.heap.size, 2, none⟩ = some (.string ⟨#[]⟩) ∧ w'.cell? ⟨w1.heap.size, 3, none⟩ = some (.slice none 0 0) ∧ w'.cell? ⟨w1.heap.size, 4, none⟩ = some (.slice none 0 0) ∧ w'.cell? ⟨rb, 1, none⟩ = some (.bool true))) (by kernel_rfl) ?_ (fun hHeld => ?_)
      · (first | with_reducible exact ⟨ka0, ka1, ka2, ka3, ka4, ka5⟩ | with_reducible exact ⟨kb0, kb1, kb2, kb3, kb4, kb5⟩)
      refine takeY 0 108 rfl rfl (v := ?_) ?_ hHeld ?_
      rotate_left 1
      · (intro w hSw; (try dsimp only at hSw); go_simp; (try with_reducible rfl))
      try simp only [Act.put, lsT, lsZ, lsS]
      refine takeY 1 109 rfl rfl (v := ?_) ?_ hHeld ?_
      rotate_left 1
      · (intro w hSw; (try dsimp only at hSw); go_simp; (try with_reducible rfl))
      try simp only [Act.put, lsT, lsZ, lsS]
      refine takeY 2 110 rfl rfl (v := ?_) ?_ hHeld ?_
      rotate_left 1
      · (intro w hSw; (try dsimp only at hSw); go_simp; (try with_reducible rfl))
      try simp only [Act.put, lsT, lsZ, lsS]
      refine takeY 3 111 rfl rfl (v := ?_) ?_ hHeld ?_
      rotate_left 1
      · (intro w hSw; (try dsimp only at hSw); go_simp; (try with_reducible rfl))
      try simp only [Act.put, lsT, lsZ, lsS]
      refine takeY 4 112 rfl rfl (v := ?_) ?_ hHeld ?_
      rotate_left 1
      · (intro w hSw; (try dsimp only at hSw); go_simp; (try with_reducible rfl))
      try simp only [Act.put, lsT, lsZ, lsS]
      refine takeY 5 113 rfl rfl (v := ?_) ?_ hHeld ?_
      rotate_left 1
      · (intro w hSw; (try dsimp only at hSw); go_simp; (try with_reducible rfl))
      try simp only [Act.put, lsT, lsZ, lsS]
      refine takeY 6 114 rfl rfl (v := ?_) ?_ hHeld ?_
      rotate_left 1
      · (intro w hSw; (try dsimp only at hSw); go_simp; (try with_reducible rfl))
      try simp only [Act.put, lsT, lsZ, lsS]
      refine wpAnyH_ready (rs := [7]) (by kernel_rfl) (by simp) ?_
      refine AllReadyH.cons rfl (fun K hK => ?_) AllReadyH.nil
      go_simp
      skip
      refine hK.out _ _ ?_ (fun hHeld => ?_)
      · (first | with_reducible exact ⟨ka0, ka1, ka2, ka3, ka4, ka5⟩ | with_reducible exact ⟨kb0, kb1, kb2, kb3, kb4, kb5⟩)
      clear hK K
      try simp only [Act.put, lsT, lsZ, lsS]
      refine wpAnyH_ready (rs := [8]) (by kernel_rfl) (by simp) ?_
      refine AllReadyH.cons rfl (fun K hK => ?_) AllReadyH.nil
      go_simp
      skip
      refine hK.out _ _ ?_ (fun hHeld => ?_)
      · (first | with_reducible exact ⟨ka0, ka1, ka2, ka3, ka4, ka5⟩ | with_reducible exact ⟨kb0, kb1, kb2, kb3, kb4, kb5⟩)
      clear hK K
      try simp only [Act.put, lsT, lsZ, lsS]
      refine wpAnyH_ready (rs := [9]) (by kernel_rfl) (by simp) ?_
      refine AllReadyH.cons rfl (fun K hK => ?_) AllReadyH.nil
      go_simp
      skip
      refine hK.out _ _ ?_ (fun hHeld => ?_)
      · (first | with_reducible exact ⟨ka0, ka1, ka2, ka3, ka4, ka5⟩ | with_reducible exact ⟨kb0, kb1, kb2, kb3, kb4, kb5⟩)
      clear hK K
      try simp only [Act.put, lsT, lsZ, lsS]
      refine wpAnyH_done (by kernel_rfl) ?_ _
      have k0 := aF.at 0 rfl; have k1 := aF.at 1 rfl; have k2 := aF.at 2 rfl; have k3 := aF.at 3 rfl; have k4 := aF.at 4 rfl
      go_wp2
      refine bodyPost_ret (by simp [results, Tryd.results69, go_sem, k0, k1, k2, k3, k4]; rfl) rfl ?_
      rw [hr.out]; exact ⟨.mk 149 0 ⟨#[]⟩ (.slice none 0 0) (.slice none 0 0) [] [], left - 1, rfl, Rd.leaf (by omega) (by omega) (by omega) (by omega), hF⟩
    · rw [hg2', Option.bind_some] at hr'
      have hr := Lib.hid hr'; have hg2 := Lib.hid hg2'
      clear hr' hg2'
      go_wp2_with (first | (go_at_call 43; (with_reducible refine (qtext_yes _ rb b1 2 4096 2 4096 n b2 d2 rfl rfl (by omega) (by omega) hg2.out hL1).mono ?_); rintro e w3 ⟨rfl, d3, hu3⟩; have x3 := x2.upd hu3 (fun e => by have := hz1.out; unfold Only at e; omega); have a4 := a3.upd hu3 (fun e => by unfold Only at e; omega); have u4 := u3.trans hu3 (fun _ h _ => h); have g2 := x3.frozen 2; have j2 := x3.at 2 rfl; have hs4 : Upd (fun k => k = w1.heap.size) w3 (w3.setCell ⟨w1.heap.size, 2, none⟩ (.string n)) := Upd.set (S := fun k => k = w1.heap.size) (p := ⟨w1.heap.size, 2, none⟩) rfl _; have d4 := d3.above hs4 (fun k e => by have := hz1.out; omega); have a5 := a4.upd hs4 (fun e => by have := hz1.out; omega); have x4 := x3.set 2 (.string n); have u5 : Upd (Only rb) w (w3.setCell ⟨w1.heap.size, 2, none⟩ (.string n)) := u4.trans hs4 (fun i e hi => by have := hz1.out; omega)))
      have xd := x4.drew; have ad := a5.drew; have aF0 := a5.fresh5 (.int .u8 149) (.int .u64 0) (.string n) (.slice none 0 0) (.slice none 0 0); have aF := aF0.drew; have xF := (x4.upd (Upd.at5 (w3.setCell ⟨w1.heap.size, 2, none⟩ (.string n)) w.heap.size (.int .u8 149) (.int .u64 0) (.string n) (.slice none 0 0) (.slice none 0 0)) (fun e => by have := hz1.out; omega)).drew; have hF : Upd (Only rb) w _ := (u5.fresh5 (Nat.le_refl _) (.int .u8 149) (.int .u64 0) (.string n) (.slice none 0 0) (.slice none 0 0)).drew; have dF := (d4.fresh5 hrl (.int .u8 149) (.int .u64 0) (.string n) (.slice none 0 0) (.slice none 0 0)).pure (below_refl_dr _)
      have dd := d4.pure (below_refl_dr _)
      have ka0 := xd.at 0 rfl; have ka1 := xd.at 1 rfl; have ka2 := xd.at 2 rfl; have ka3 := xd.at 3 rfl; have ka4 := xd.at 4 rfl; have ka5 := dd.sp; have kb0 := xF.at 0 rfl; have kb1 := xF.at 1 rfl; have kb2 := xF.at 2 rfl; have kb3 := xF.at 3 rfl; have kb4 := xF.at 4 rfl; have kb5 := dF.sp
      have kz0 := ad.frozen 0; have kw0 := ad.at 0 rfl; have ky0 := a5.frozen 0; have kx0 := a5.at 0 rfl; have kz1 := ad.frozen 1; have kw1 := ad.at 1 rfl; have ky1 := a5.frozen 1; have kx1 := a5.at 1 rfl; have kz2 := ad.frozen 2; have kw2 := ad.at 2 rfl; have ky2 := a5.frozen 2; have kx2 := a5.at 2 rfl; have kz3 := ad.frozen 3; have kw3 := ad.at 3 rfl; have ky3 := a5.frozen 3; have kx3 := a5.at 3 rfl; have kz4 := ad.frozen 4; have kw4 := ad.at 4 rfl; have ky4 := a5.frozen 4; have kx4 := a5.at 4 rfl
      refine wp_region_held_drew (S := (fun w' => w'.cell? ⟨w1.heap.size, 0, none⟩ = some (.int .u8 149) ∧ w'.cell? ⟨w1.heap.size, 1, none⟩ = some (.int .u64 0) ∧ w'.cell? ⟨w1.heap.size, 2, none⟩ = some (.string n) ∧ w'.cell? ⟨w1.heap.size, 3, none⟩ = some (.slice none 0 0) ∧ w'.cell? ⟨w1.heap.size, 4, none⟩ = some (.slice none 0 0) ∧ w'.cell? ⟨rb, 1, none⟩ = some (.bool false))) (by kernel_rfl) ?_ (fun hHeld => ?_)
      · (first | with_reducible exact ⟨ka0, ka1, ka2, ka3, ka4, ka5⟩ | with_reducible exact ⟨kb0, kb1, kb2, kb3, kb4, kb5⟩)
      refine takeY 0 108 rfl rfl (v := ?_) ?_ hHeld ?_
      rotate_left 1
      · (intro w hSw; (try dsimp only at hSw); go_simp; (try with_reducible rfl))
      try simp only [Act.put, lsT, lsZ, lsS]
      refine takeY 1 109 rfl rfl (v := ?_) ?_ hHeld ?_
      rotate_left 1
      · (intro w hSw; (try dsimp only at hSw); go_simp; (try with_reducible rfl))
      try simp only [Act.put, lsT, lsZ, lsS]
      refine takeY 2 110 rfl rfl (v := ?_) ?_ hHeld ?_
      rotate_left 1
      · (intro w hSw; (try dsimp only at hSw); go_simp; (try with_reducible rfl))
      try simp only [Act.put, lsT, lsZ, lsS]
      refine takeY 3 111 rfl rfl (v := ?_) ?_ hHeld ?_
      rotate_left 1
      · (intro w hSw; (try dsimp only at hSw); go_simp; (try with_reducible rfl))
      try simp only [Act.put, lsT, lsZ, lsS]
      refine takeY 4 112 rfl rfl (v := ?_) ?_ hHeld ?_
      rotate_left 1
      · (intro w hSw; (try dsimp only at hSw); go_simp; (try with_reducible rfl))
      try simp only [Act.put, lsT, lsZ, lsS]
      refine takeY 5 113 rfl rfl (v := ?_) ?_ hHeld ?_
      rotate_left 1
      · (intro w hSw; (try dsimp only at hSw); go_simp; (try with_reducible rfl))
      try simp only [Act.put, lsT, lsZ, lsS]
      refine takeY 6 114 rfl rfl (v := ?_) ?_ hHeld ?_
      rotate_left 1
      · (intro w hSw; (try dsimp only at hSw); go_simp; (try with_reducible rfl))
      try simp only [Act.put, lsT, lsZ, lsS]
      refine wpAnyH_ready (rs := [7]) (by kernel_rfl) (by simp) ?_
      refine AllReadyH.cons rfl (fun K hK => ?_) AllReadyH.nil
      go_simp
      skip
      refine hK.out _ _ ?_ (fun hHeld => ?_)
      · (first | with_reducible exact ⟨ka0, ka1, ka2, ka3, ka4, ka5⟩ | with_reducible exact ⟨kb0, kb1, kb2, kb3, kb4, kb5⟩)
      clear hK K
      try simp only [Act.put, lsT, lsZ, lsS]
      refine wpAnyH_ready (rs := [8]) (by kernel_rfl) (by simp) ?_
      refine AllReadyH.cons rfl (fun K hK => ?_) AllReadyH.nil
      go_simp
      skip
      refine hK.out _ _ ?_ (fun hHeld => ?_)
      · (first | with_reducible exact ⟨ka0, ka1, ka2, ka3, ka4, ka5⟩ | with_reducible exact ⟨kb0, kb1, kb2, kb3, kb4, kb5⟩)
      clear hK K
      try simp only [Act.put, lsT, lsZ, lsS]
      refine wpAnyH_ready (rs := [9]) (by kernel_rfl) (by simp) ?_
      refine AllReadyH.cons rfl (fun K hK => ?_) AllReadyH.nil
      go_simp
      skip
      refine hK.out _ _ ?_ (fun hHeld => ?_)
      · (first | with_reducible exact ⟨ka0, ka1, ka2, ka3, ka4, ka5⟩ | with_reducible exact ⟨kb0, kb1, kb2, kb3, kb4, kb5⟩)
      clear hK K
      try simp only [Act.put, lsT, lsZ, lsS]
      refine wpAnyH_done (by kernel_rfl) ?_ _
      have k0 := aF.at 0 rfl; have k1 := aF.at 1 rfl; have k2 := aF.at 2 rfl; have k3 := aF.at 3 rfl; have k4 := aF.at 4 rfl
      go_wp2
      refine bodyPost_ret (by simp [results, Tryd.results69, go_sem, k0, k1, k2, k3, k4]; rfl) rfl ?_
      rw [hr.out]; exact ⟨.mk 149 0 n (.slice none 0 0) (.slice none 0 0) [] [], rfl, rfl, Rd.leaf (by omega) (by omega) (by omega) (by omega), dF, hF⟩
  by_cases hk160 : k = 160
  · subst hk160
    have x2 : Blk W2 w1.heap.size [.int .u8 160, .int .u64 0, .string ⟨#[]⟩, .slice none 0 0, .slice none 0 0] := x2
    have f0 := x2.at 0 rfl
    clear hkw
    have hr' : rdD (d + 1) left b = (gT 4 4096 b1).bind fun (x : ByteArray × List UInt8) => some (V.mk 160 0 x.1 [] [], left - 1, x.2) := by rw [hr0h.out]; rfl
    clear hr0h
    rcases hg2' : gT 4 4096 b1 with _ | ⟨n, b2⟩
    · rw [hg2'] at hr'
      have hr := Lib.hid hr'; have hno := Lib.hid hg2'
      clear hr' hg2'
      go_wp2_with (first | (go_at_call 43; (with_reducible refine (qtext_no _ rb b1 false 4 4096 4 4096 d2 rfl rfl (by omega) (by omega) (Or.inr hno.out) hL1).mono ?_); rintro e w3 ⟨rfl, d3, hu3⟩; have x3 := x2.upd hu3 (fun e => by have := hz1.out; unfold Only at e; omega); have a4 := a3.upd hu3 (fun e => by unfold Only at e; omega); have u4 := u3.trans hu3 (fun _ h _ => h); have g2 := x3.frozen 2; have j2 := x3.at 2 rfl; have hs4 : Upd (fun k => k = w1.heap.size) w3 (w3.setCell ⟨w1.heap.size, 2, none⟩ (.string ⟨#[]⟩)) := Upd.set (S := fun k => k = w1.heap.size) (p := ⟨w1.heap.size, 2, none⟩) rfl _; have d4 := d3.above hs4 (fun k e => by have := hz1.out; omega); have a5 := a4.upd hs4 (fun e => by have := hz1.out; omega); have x4 := x3.set 2 (.string ⟨#[]⟩); have u5 : Upd (Only rb) w (w3.setCell ⟨w1.heap.size, 2, none⟩ (.string ⟨#[]⟩)) := u4.trans hs4 (fun i e hi => by have := hz1.out; omega)))
      have xd := x4.drew; have ad := a5.drew; have aF0 := a5.fresh5 (.int .u8 160) (.int .u64 0) (.string ⟨#[]⟩) (.slice none 0 0) (.slice none 0 0); have aF := aF0.drew; have xF := (x4.upd (Upd.at5 (w3.setCell ⟨w1.heap.size, 2, none⟩ (.string ⟨#[]⟩)) w.heap.size (.int .u8 160) (.int .u64 0) (.string ⟨#[]⟩) (.slice none 0 0) (.slice none 0 0)) (fun e => by have := hz1.out; omega)).drew; have hF : Upd (Only rb) w _ := (u5.fresh5 (Nat.le_refl _) (.int .u8 160) (.int .u64 0) (.string ⟨#[]⟩) (.slice none 0 0) (.slice none 0 0)).drew; have dF := (d4.fresh5 hrl (.int .u8 160) (.int .u64 0) (.string ⟨#[]⟩) (.slice none 0 0) (.slice none 0 0)).pure (below_refl_dr _)
      have dd := d4.pure (below_refl_dr _)
      have ka0 := xd.at 0 rfl; have ka1 := xd.at 1 rfl; have ka2 := xd.at 2 rfl; have ka3 := xd.at 3 rfl; have ka4 := xd.at 4 rfl; have ka5 := dd.sp; have kb0 := xF.at 0 rfl; have kb1 := xF.at 1 rfl; have kb2 := xF.at 2 rfl; have kb3 := xF.at 3 rfl; have kb4 := xF.at 4 rfl; have kb5 := dF.sp
      have kz0 := ad.frozen 0; have kw0 := ad.at 0 rfl; have ky0 := a5.frozen 0; have kx0 := a5.at 0 rfl; have kz1 := ad.frozen 1; have kw1 := ad.at 1 rfl; have ky1 := a5.frozen 1; have kx1 := a5.at 1 rfl; have kz2 := ad.frozen 2; have kw2 := ad.at 2 rfl; have ky2 := a5.frozen 2; have kx2 := a5.at 2 rfl; have kz3 := ad.frozen 3; have kw3 := ad.at 3 rfl; have ky3 := a5.frozen 3; have kx3 := a5.at 3 rfl; have kz4 := ad.frozen 4; have kw4 := ad.at 4 rfl; have ky4 := a5.frozen 4; have kx4 := a5.at 4 rfl
      refine wp_region_held_drew (S := (fun w' => w'.cell? ⟨w1.heap.size, 0, none⟩ = some (.int .u8 160) ∧ w'.cell? ⟨w1.heap.size, 1, none⟩ = some (.int .u64 0) ∧ w'.cell? ⟨w1.heap.size, 2, none⟩ = some (.string ⟨#[]⟩) ∧ w'.cell? ⟨w1.heap.size, 3, none⟩ = some (.slice none 0 0) ∧ w'.cell? ⟨w1.heap.size, 4, none⟩ = some (.slice none 0 0) ∧ w'.cell? ⟨rb, 1, none⟩ = some (.bool true))) (by kernel_rfl) ?_ (fun hHeld => ?_)
      · (first | with_reducible exact ⟨ka0, ka1, ka2, ka3, ka4, ka5⟩ | with_reducible exact ⟨kb0, kb1, kb2, kb3, kb4, kb5⟩)
      refine takeY 0 108 rfl rfl (v := ?_) ?_ hHeld ?_
      rotate_left 1
      · (intro w hSw; (try dsimp only at hSw); go_simp; (try with_reducible rfl))
      try simp only [Act.put, lsT, lsZ, lsS]
      refine takeY 1 109 rfl rfl (v := ?_) ?_ hHeld ?_
      rotate_left 1
      · (intro w hSw; (try dsimp only at hSw); go_simp; (try with_reducible rfl))
      try simp only [Act.put, lsT, lsZ, lsS]
      refine takeY 2 110 rfl rfl (v := ?_) ?_ hHeld ?_
      rotate_left 1
      · (intro w hSw; (try dsimp only at hSw); go_simp; (try with_reducible rfl))
      try simp only [Act.put, lsT, lsZ, lsS]
      refine takeY 3 111 rfl rfl (v := ?_) ?_ hHeld ?_
      rotate_left 1
      · (intro w hSw; (try dsimp only at hSw); go_simp; (try with_reducible rfl))
      try simp only [Act.put, lsT, lsZ, lsS]
      refine takeY 4 112 rfl rfl (v := ?_) ?_ hHeld ?_
      rotate_left 1
      · (intro w hSw; (try dsimp only at hSw); go_simp; (try with_reducible rfl))
      try simp only [Act.put, lsT, lsZ, lsS]
      refine takeY 5 113 rfl rfl (v := ?_) ?_ hHeld ?_
      rotate_left 1
      · (intro w hSw; (try dsimp only at hSw); go_simp; (try with_reducible rfl))
      try simp only [Act.put, lsT, lsZ, lsS]
      refine takeY 6 114 rfl rfl (v := ?_) ?_ hHeld ?_
      rotate_left 1
      · (intro w hSw; (try dsimp only at hSw); go_simp; (try with_reducible rfl))
      try simp only [Act.put, lsT, lsZ, lsS]
      refine wpAnyH_ready (rs := [7]) (by kernel_rfl) (by simp) ?_
      refine AllReadyH.cons rfl (fun K hK => ?_) AllReadyH.nil
      go_simp
      skip
      refine hK.out _ _ ?_ (fun hHeld => ?_)
      · (first | with_reducible exact ⟨ka0, ka1, ka2, ka3, ka4, ka5⟩ | with_reducible exact ⟨kb0, kb1, kb2, kb3, kb4, kb5⟩)
      clear hK K
      try simp only [Act.put, lsT, lsZ, lsS]
      refine wpAnyH_ready (rs := [8]) (by kernel_rfl) (by simp) ?_
      refine AllReadyH.cons rfl (fun K hK => ?_) AllReadyH.nil
      go_simp
      skip
      refine hK.out _ _ ?_ (fun hHeld => ?_)
      · (first | with_reducible exact ⟨ka0, ka1, ka2, ka3, ka4, ka5⟩ | with_reducible exact ⟨kb0, kb1, kb2, kb3, kb4, kb5⟩)
      clear hK K
      try simp only [Act.put, lsT, lsZ, lsS]
      refine wpAnyH_ready (rs := [9]) (by kernel_rfl) (by simp) ?_
      refine AllReadyH.cons rfl (fun K hK => ?_) AllReadyH.nil
      go_simp
      skip
      refine hK.out _ _ ?_ (fun hHeld => ?_)
      · (first | with_reducible exact ⟨ka0, ka1, ka2, ka3, ka4, ka5⟩ | with_reducible exact ⟨kb0, kb1, kb2, kb3, kb4, kb5⟩)
      clear hK K
      try simp only [Act.put, lsT, lsZ, lsS]
      refine wpAnyH_done (by kernel_rfl) ?_ _
      have k0 := aF.at 0 rfl; have k1 := aF.at 1 rfl; have k2 := aF.at 2 rfl; have k3 := aF.at 3 rfl; have k4 := aF.at 4 rfl
      go_wp2
      refine bodyPost_ret (by simp [results, Tryd.results69, go_sem, k0, k1, k2, k3, k4]; rfl) rfl ?_
      rw [hr.out]; exact ⟨.mk 160 0 ⟨#[]⟩ (.slice none 0 0) (.slice none 0 0) [] [], left - 1, rfl, Rd.leaf (by omega) (by omega) (by omega) (by omega), hF⟩
    · rw [hg2', Option.bind_some] at hr'
      have hr := Lib.hid hr'; have hg2 := Lib.hid hg2'
      clear hr' hg2'
      go_wp2_with (first | (go_at_call 43; (with_reducible refine (qtext_yes _ rb b1 4 4096 4 4096 n b2 d2 rfl rfl (by omega) (by omega) hg2.out hL1).mono ?_); rintro e w3 ⟨rfl, d3, hu3⟩; have x3 := x2.upd hu3 (fun e => by have := hz1.out; unfold Only at e; omega); have a4 := a3.upd hu3 (fun e => by unfold Only at e; omega); have u4 := u3.trans hu3 (fun _ h _ => h); have g2 := x3.frozen 2; have j2 := x3.at 2 rfl; have hs4 : Upd (fun k => k = w1.heap.size) w3 (w3.setCell ⟨w1.heap.size, 2, none⟩ (.string n)) := Upd.set (S := fun k => k = w1.heap.size) (p := ⟨w1.heap.size, 2, none⟩) rfl _; have d4 := d3.above hs4 (fun k e => by have := hz1.out; omega); have a5 := a4.upd hs4 (fun e => by have := hz1.out; omega); have x4 := x3.set 2 (.string n); have u5 : Upd (Only rb) w (w3.setCell ⟨w1.heap.size, 2, none⟩ (.string n)) := u4.trans hs4 (fun i e hi => by have := hz1.out; omega)))
      have xd := x4.drew; have ad := a5.drew; have aF0 := a5.fresh5 (.int .u8 160) (.int .u64 0) (.string n) (.slice none 0 0) (.slice none 0 0); have aF := aF0.drew; have xF := (x4.upd (Upd.at5 (w3.setCell ⟨w1.heap.size, 2, none⟩ (.string n)) w.heap.size (.int .u8 160) (.int .u64 0) (.string n) (.slice none 0 0) (.slice none 0 0)) (fun e => by have := hz1.out; omega)).drew; have hF : Upd (Only rb) w _ := (u5.fresh5 (Nat.le_refl _) (.int .u8 160) (.int .u64 0) (.string n) (.slice none 0 0) (.slice none 0 0)).drew; have dF := (d4.fresh5 hrl (.int .u8 160) (.int .u64 0) (.string n) (.slice none 0 0) (.slice none 0 0)).pure (below_refl_dr _)
      have dd := d4.pure (below_refl_dr _)
      have ka0 := xd.at 0 rfl; have ka1 := xd.at 1 rfl; have ka2 := xd.at 2 rfl; have ka3 := xd.at 3 rfl; have ka4 := xd.at 4 rfl; have ka5 := dd.sp; have kb0 := xF.at 0 rfl; have kb1 := xF.at 1 rfl; have kb2 := xF.at 2 rfl; have kb3 := xF.at 3 rfl; have kb4 := xF.at 4 rfl; have kb5 := dF.sp
      have kz0 := ad.frozen 0; have kw0 := ad.at 0 rfl; have ky0 := a5.frozen 0; have kx0 := a5.at 0 rfl; have kz1 := ad.frozen 1; have kw1 := ad.at 1 rfl; have ky1 := a5.frozen 1; have kx1 := a5.at 1 rfl; have kz2 := ad.frozen 2; have kw2 := ad.at 2 rfl; have ky2 := a5.frozen 2; have kx2 := a5.at 2 rfl; have kz3 := ad.frozen 3; have kw3 := ad.at 3 rfl; have ky3 := a5.frozen 3; have kx3 := a5.at 3 rfl; have kz4 := ad.frozen 4; have kw4 := ad.at 4 rfl; have ky4 := a5.frozen 4; have kx4 := a5.at 4 rfl
      refine wp_region_held_drew (S := (fun w' => w'.cell? ⟨w1.heap.size, 0, none⟩ = some (.int .u8 160) ∧ w'.cell? ⟨w1.heap.size, 1, none⟩ = some (.int .u64 0) ∧ w'.cell? ⟨w1.heap.size, 2, none⟩ = some (.string n) ∧ w'.cell? ⟨w1.heap.size, 3, none⟩ = some (.slice none 0 0) ∧ w'.cell? ⟨w1.heap.size, 4, none⟩ = some (.slice none 0 0) ∧ w'.cell? ⟨rb, 1, none⟩ = some (.bool false))) (by kernel_rfl) ?_ (fun hHeld => ?_)
      · (first | with_reducible exact ⟨ka0, ka1, ka2, ka3, ka4, ka5⟩ | with_reducible exact ⟨kb0, kb1, kb2, kb3, kb4, kb5⟩)
      refine takeY 0 108 rfl rfl (v := ?_) ?_ hHeld ?_
      rotate_left 1
      · (intro w hSw; (try dsimp only at hSw); go_simp; (try with_reducible rfl))
      try simp only [Act.put, lsT, lsZ, lsS]
      refine takeY 1 109 rfl rfl (v := ?_) ?_ hHeld ?_
      rotate_left 1
      · (intro w hSw; (try dsimp only at hSw); go_simp; (try with_reducible rfl))
      try simp only [Act.put, lsT, lsZ, lsS]
      refine takeY 2 110 rfl rfl (v := ?_) ?_ hHeld ?_
      rotate_left 1
      · (intro w hSw; (try dsimp only at hSw); go_simp; (try with_reducible rfl))
      try simp only [Act.put, lsT, lsZ, lsS]
      refine takeY 3 111 rfl rfl (v := ?_) ?_ hHeld ?_
      rotate_left 1
      · (intro w hSw; (try dsimp only at hSw); go_simp; (try with_reducible rfl))
      try simp only [Act.put, lsT, lsZ, lsS]
      refine takeY 4 112 rfl rfl (v := ?_) ?_ hHeld ?_
      rotate_left 1
      · (intro w hSw; (try dsimp only at hSw); go_simp; (try with_reducible rfl))
      try simp only [Act.put, lsT, lsZ, lsS]
      refine takeY 5 113 rfl rfl (v := ?_) ?_ hHeld ?_
      rotate_left 1
      · (intro w hSw; (try dsimp only at hSw); go_simp; (try with_reducible rfl))
      try simp only [Act.put, lsT, lsZ, lsS]
      refine takeY 6 114 rfl rfl (v := ?_) ?_ hHeld ?_
      rotate_left 1
      · (intro w hSw; (try dsimp only at hSw); go_simp; (try with_reducible rfl))
      try simp only [Act.put, lsT, lsZ, lsS]
      refine wpAnyH_ready (rs := [7]) (by kernel_rfl) (by simp) ?_
      refine AllReadyH.cons rfl (fun K hK => ?_) AllReadyH.nil
      go_simp
      skip
      refine hK.out _ _ ?_ (fun hHeld => ?_)
      · (first | with_reducible exact ⟨ka0, ka1, ka2, ka3, ka4, ka5⟩ | with_reducible exact ⟨kb0, kb1, kb2, kb3, kb4, kb5⟩)
      clear hK K
      try simp only [Act.put, lsT, lsZ, lsS]
      refine wpAnyH_ready (rs := [8]) (by kernel_rfl) (by simp) ?_
      refine AllReadyH.cons rfl (fun K hK => ?_) AllReadyH.nil
      go_simp
      skip
      refine hK.out _ _ ?_ (fun hHeld => ?_)
      · (first | with_reducible exact ⟨ka0, ka1, ka2, ka3, ka4, ka5⟩ | with_reducible exact ⟨kb0, kb1, kb2, kb3, kb4, kb5⟩)
      clear hK K
      try simp only [Act.put, lsT, lsZ, lsS]
      refine wpAnyH_ready (rs := [9]) (by kernel_rfl) (by simp) ?_
      refine AllReadyH.cons rfl (fun K hK => ?_) AllReadyH.nil
      go_simp
      skip
      refine hK.out _ _ ?_ (fun hHeld => ?_)
      · (first | with_reducible exact ⟨ka0, ka1, ka2, ka3, ka4, ka5⟩ | with_reducible exact ⟨kb0, kb1, kb2, kb3, kb4, kb5⟩)
      clear hK K
      try simp only [Act.put, lsT, lsZ, lsS]
      refine wpAnyH_done (by kernel_rfl) ?_ _
      have k0 := aF.at 0 rfl; have k1 := aF.at 1 rfl; have k2 := aF.at 2 rfl; have k3 := aF.at 3 rfl; have k4 := aF.at 4 rfl
      go_wp2
      refine bodyPost_ret (by simp [results, Tryd.results69, go_sem, k0, k1, k2, k3, k4]; rfl) rfl ?_
      rw [hr.out]; exact ⟨.mk 160 0 n (.slice none 0 0) (.slice none 0 0) [] [], rfl, rfl, Rd.leaf (by omega) (by omega) (by omega) (by omega), dF, hF⟩
  have hr := Lib.hid (show rdD (d + 1) left b = some (.mk k 0 ByteArray.empty [] [], left - 1, b1) by
    rw [hr0h.out]; unfold rdDk; rw [if_neg (by omega), if_neg (by omega), if_neg hk149, if_neg hk160, if_neg (by omega)])
  clear hr0h
  have q8 : ((k : Int) == 8) = false := beq_eq_false_iff_ne.2 (by omega)
  have q2 : ((k : Int) == 2) = false := beq_eq_false_iff_ne.2 (by omega)
  have q49 : ((k : Int) == 49) = false := beq_eq_false_iff_ne.2 (by omega)
  have q50 : ((k : Int) == 50) = false := beq_eq_false_iff_ne.2 (by omega)
  have q149 : ((k : Int) == 149) = false := beq_eq_false_iff_ne.2 (by omega)
  have q160 : ((k : Int) == 160) = false := beq_eq_false_iff_ne.2 (by omega)
  have q168 : ((k : Int) == 168) = false := beq_eq_false_iff_ne.2 (by omega)
  have q169 : ((k : Int) == 169) = false := beq_eq_false_iff_ne.2 (by omega)
  clear hk8 hk2 hk49 hk50 hk149 hk160 hk168 hk169
  go_wp2
  have xd := x2.drew; have ad := a3.drew; have aF0 := a3.fresh5 (.int .u8 k) (.int .u64 0) (.string ⟨#[]⟩) (.slice none 0 0) (.slice none 0 0); have aF := aF0.drew; have xF := (x2.upd (Upd.at5 W2 w.heap.size (.int .u8 k) (.int .u64 0) (.string ⟨#[]⟩) (.slice none 0 0) (.slice none 0 0)) (fun e => by have := hz1.out; omega)).drew; have hF : Upd (Only rb) w _ := (u3.fresh5 (Nat.le_refl _) (.int .u8 k) (.int .u64 0) (.string ⟨#[]⟩) (.slice none 0 0) (.slice none 0 0)).drew; have dF := (d2.fresh5 hrl (.int .u8 k) (.int .u64 0) (.string ⟨#[]⟩) (.slice none 0 0) (.slice none 0 0)).pure (below_refl_dr _)
  have dd := d2.pure (below_refl_dr _)
  have ka0 := xd.at 0 rfl; have ka1 := xd.at 1 rfl; have ka2 := xd.at 2 rfl; have ka3 := xd.at 3 rfl; have ka4 := xd.at 4 rfl; have ka5 := dd.sp; have kb0 := xF.at 0 rfl; have kb1 := xF.at 1 rfl; have kb2 := xF.at 2 rfl; have kb3 := xF.at 3 rfl; have kb4 := xF.at 4 rfl; have kb5 := dF.sp
  have kz0 := ad.frozen 0; have kw0 := ad.at 0 rfl; have ky0 := a3.frozen 0; have kx0 := a3.at 0 rfl; have kz1 := ad.frozen 1; have kw1 := ad.at 1 rfl; have ky1 := a3.frozen 1; have kx1 := a3.at 1 rfl; have kz2 := ad.frozen 2; have kw2 := ad.at 2 rfl; have ky2 := a3.frozen 2; have kx2 := a3.at 2 rfl; have kz3 := ad.frozen 3; have kw3 := ad.at 3 rfl; have ky3 := a3.frozen 3; have kx3 := a3.at 3 rfl; have kz4 := ad.frozen 4; have kw4 := ad.at 4 rfl; have ky4 := a3.frozen 4; have kx4 := a3.at 4 rfl
  refine wp_region_held_drew (S := (fun w' => w'.cell? ⟨w1.heap.size, 0, none⟩ = some (.int .u8 k) ∧ w'.cell? ⟨w1.heap.size, 1, none⟩ = some (.int .u64 0) ∧ w'.cell? ⟨w1.heap.size, 2, none⟩ = some (.string ⟨#[]⟩) ∧ w'.cell? ⟨w1.heap.size, 3, none⟩ = some (.slice none 0 0) ∧ w'.cell? ⟨w1.heap.size, 4, none⟩ = some (.slice none 0 0) ∧ w'.cell? ⟨rb, 1, none⟩ = some (.bool false))) (by kernel_rfl) ?_ (fun hHeld => ?_)
  · (first | with_reducible exact ⟨ka0, ka1, ka2, ka3, ka4, ka5⟩ | with_reducible exact ⟨kb0, kb1, kb2, kb3, kb4, kb5⟩)
  refine takeY 0 108 rfl rfl (v := ?_) ?_ hHeld ?_
  rotate_left 1
  · (intro w hSw; (try dsimp only at hSw); go_simp; (try with_reducible rfl))
  try simp only [Act.put, lsT, lsZ, lsS]
  refine takeY 1 109 rfl rfl (v := ?_) ?_ hHeld ?_
  rotate_left 1
  · (intro w hSw; (try dsimp only at hSw); go_simp; (try with_reducible rfl))
  try simp only [Act.put, lsT, lsZ, lsS]
  refine takeY 2 110 rfl rfl (v := ?_) ?_ hHeld ?_
  rotate_left 1
  · (intro w hSw; (try dsimp only at hSw); go_simp; (try with_reducible rfl))
  try simp only [Act.put, lsT, lsZ, lsS]
  refine takeY 3 111 rfl rfl (v := ?_) ?_ hHeld ?_
  rotate_left 1
  · (intro w hSw; (try dsimp only at hSw); go_simp; (try with_reducible rfl))
  try simp only [Act.put, lsT, lsZ, lsS]
  refine takeY 4 112 rfl rfl (v := ?_) ?_ hHeld ?_
  rotate_left 1
  · (intro w hSw; (try dsimp only at hSw); go_simp; (try with_reducible rfl))
  try simp only [Act.put, lsT, lsZ, lsS]
  refine takeY 5 113 rfl rfl (v := ?_) ?_ hHeld ?_
  rotate_left 1
  · (intro w hSw; (try dsimp only at hSw); go_simp; (try with_reducible rfl))
  try simp only [Act.put, lsT, lsZ, lsS]
  refine takeY 6 114 rfl rfl (v := ?_) ?_ hHeld ?_
  rotate_left 1
  · (intro w hSw; (try dsimp only at hSw); go_simp; (try with_reducible rfl))
  try simp only [Act.put, lsT, lsZ, lsS]
  refine wpAnyH_ready (rs := [7]) (by kernel_rfl) (by simp) ?_
  refine AllReadyH.cons rfl (fun K hK => ?_) AllReadyH.nil
  go_simp
  skip
  refine hK.out _ _ ?_ (fun hHeld => ?_)
  · (first | with_reducible exact ⟨ka0, ka1, ka2, ka3, ka4, ka5⟩ | with_reducible exact ⟨kb0, kb1, kb2, kb3, kb4, kb5⟩)
  clear hK K
  try simp only [Act.put, lsT, lsZ, lsS]
  refine wpAnyH_ready (rs := [8]) (by kernel_rfl) (by simp) ?_
  refine AllReadyH.cons rfl (fun K hK => ?_) AllReadyH.nil
  go_simp
  skip
  refine hK.out _ _ ?_ (fun hHeld => ?_)
  · (first | with_reducible exact ⟨ka0, ka1, ka2, ka3, ka4, ka5⟩ | with_reducible exact ⟨kb0, kb1, kb2, kb3, kb4, kb5⟩)
  clear hK K
  try simp only [Act.put, lsT, lsZ, lsS]
  refine wpAnyH_ready (rs := [9]) (by kernel_rfl) (by simp) ?_
  refine AllReadyH.cons rfl (fun K hK => ?_) AllReadyH.nil
  go_simp
  skip
  refine hK.out _ _ ?_ (fun hHeld => ?_)
  · (first | with_reducible exact ⟨ka0, ka1, ka2, ka3, ka4, ka5⟩ | with_reducible exact ⟨kb0, kb1, kb2, kb3, kb4, kb5⟩)
  clear hK K
  try simp only [Act.put, lsT, lsZ, lsS]
  refine wpAnyH_done (by kernel_rfl) ?_ _
  have k0 := aF.at 0 rfl; have k1 := aF.at 1 rfl; have k2 := aF.at 2 rfl; have k3 := aF.at 3 rfl; have k4 := aF.at 4 rfl
  go_wp2
  refine bodyPost_ret (by simp [results, Tryd.results69, go_sem, k0, k1, k2, k3, k4]; rfl) rfl ?_
  rw [hr.out]; exact ⟨.mk k 0 ⟨#[]⟩ (.slice none 0 0) (.slice none 0 0) [] [], rfl, rfl, Rd.leaf (by omega) (by omega) (by omega) (by omega), dF, hF⟩
end Go.Proofs.YtogkbbnpkckfdaaDoor
