/- Values: contracts as laws use them. Conditions: none. Written by gen_getL.py. (Texts joined.) -/
import Derived.Test.YtflglpbjapgciaaGreatDoorKH
import Derived.Test.YtflglpbjapgciaaGreatDoorKE
import Derived.Test.YtflglpbjapgciaaGreatDoorKQ
import Derived.Test.YtflglpbjapgciaaGreatDoorKX
import Derived.Test.YtflglpbjapgciaaGreatDoorVal
set_option linter.unusedSimpArgs false
set_option linter.unusedVariables false
namespace Go.Proofs.YtflglpbjapgciaaGreatDoor
open Go.RowKit
theorem dread_bad : DReadBad := fun w rb left dp b h hl0 hl1 => dread_no w rb left dp b true h (.inl rfl) hl0 hl1
theorem dread_all : ∀ d, DReadOk d
  | 0 => by
    intro w rb left dp b h hd hd6 hl0 hl1 hL; rcases gN_or 1 b with hno | ⟨k, b1, hg⟩
    · exact dread_no w rb left dp b false h (.inr hno) hl0 hl1
    · exact dread_deep w rb k left dp b b1 h hg (.inr (by omega)) hl1 hl0 hL
  | d + 1 => by
    intro w rb left dp b h hd hd6 hl0 hl1 hL; rcases gN_or 1 b with hno | ⟨k, b1, hg⟩
    · have : rdD (d + 1) left b = none := by unfold rdD; rw [gN_none hno]; rfl
      rw [this]; exact dread_no w rb left dp b false h (.inr hno) hl0 hl1
    · by_cases hl : left - 1 < 0
      · have : rdD (d + 1) left b = none := by unfold rdD; rw [hg, Option.bind_some]; exact if_pos hl
        rw [this]; exact dread_deep w rb k left dp b b1 h hg (.inl hl) hl1 hl0 hL
      · by_cases h8 : k = 168
        · subst h8; exact dread_list168 d (dread_all d) dread_bad w rb left dp b b1 h hg hd (by omega) (by omega) hl1 hL
        · by_cases h9 : k = 169
          · subst h9; exact dread_list169 d (dread_all d) dread_bad w rb left dp b b1 h hg hd (by omega) (by omega) hl1 hL
          · exact dread_leaf d w rb k left dp b b1 h hg hd (by omega) hl1 hL h8 h9
theorem slc_cap {α : Type} {enc : α → List Value} {m : Nat} {w : World} {a : Option Addr} {n c : Nat} {L : List α} (h : Slc enc m w (.slice a n c) L) : n ≤ c := by
  rcases h with ⟨a', c', e, _, _⟩ | ⟨g, off, c', e, h1, h2, _⟩
  · simp only [Value.slice.injEq] at e; omega
  · simp only [Value.slice.injEq] at e; omega
theorem slc_take {α : Type} {enc : α → List Value} {m : Nat} {w : World} {a : Option Addr} {c n : Nat} {L : List α} (h : Slc enc m w (.slice a L.length c) L) (hn : n ≤ L.length) : Slc enc m w (.slice a n c) (L.take n) := by
  have hcap := slc_cap h; rcases h with ⟨a', c', e, h1, rfl⟩ | ⟨g, off, c', e, h1, h2, h3⟩
  · simp only [Value.slice.injEq] at e; obtain rfl : n = 0 := by simpa using hn
    exact .inl ⟨a, c, rfl, by rw [e.2.2]; exact h1, rfl⟩
  · simp only [Value.slice.injEq] at e; obtain ⟨rfl, -, rfl⟩ := e; have hl : (L.take n).length = n := by rw [List.length_take]; omega
    refine .inr ⟨g, off, c, by rw [hl], by rw [hl]; omega, h2, fun i hi j u hu => ?_⟩; rw [List.getElem_take] at hu; exact h3 i (by rw [hl] at hi; omega) j u hu
theorem str_eq {l l' : List UInt8} : (⟨l.toArray⟩ : ByteArray) = ⟨l'.toArray⟩ ↔ l = l' := by
  constructor
  · intro e; have := congrArg (fun b : ByteArray => b.data.toList) e
    simpa using this
  · rintro rfl; rfl
theorem may_big {v : V} (h : v.chk = 0) : Big (v.bytes.length + 100) := by
  obtain ⟨-, h2, h3⟩ := chk_zero h; have := bytes_len v h3 200 h2; unfold Big; omega
set_option maxRecDepth 100000 in
set_option maxHeartbeats 12800000 in
theorem dget_any (w : World) (v : Value) (L : List UInt8) (h : Slc byEnc 1 w v L) (hL : Big L.length) :
    Calls Tryz.prog 87 #[v] w (GetPost w (getD L)) := by
  have hB1 : Below w.heap.size w (w.alloc (.cells #[.int .u8 0, .int .u64 0, .string ⟨#[]⟩, .slice none 0 0, .slice none 0 0] 60)) := (Below.refl _ _).alloc (Nat.le_refl _) _; have a1 := Blk.new w [.int .u8 0, .int .u64 0, .string ⟨#[]⟩, .slice none 0 0, .slice none 0 0] 60; have hrd0 := fun (u : World) (rb : Nat) (p : DrS u rb L false) => dread_all 6 u rb 200 1 L p (by omega) (by omega) (by omega) (by omega) hL
  obtain ⟨va, vc, rfl, -⟩ := h.len; rcases hx : rdD 6 200 L with _ | ⟨x, left, r⟩
  · simp only [hx] at hrd0; have hrd := Lib.hid hrd0; have hpost := Lib.hid (show getD L = none by unfold getD; rw [hx]; rfl); clear hrd0 hx; go_enter Tryz.func87, Tryz.ntmps87; go_wp2_with (first | (go_at_call 47; refine (dopen_any _ _ L (h.pure hB1) hL).mono ?_; rintro e w2 ⟨rb, rfl, d2, hrb, hB2⟩; have a2 := a1.pure hB2; have hT2 := hB1.trans (hB2.mono hB1.size); have hz2 := Lib.hid (show w.heap.size < rb by have := a1.lt; omega)) | (go_at_call 103; refine (hrd.out _ rb d2).mono ?_; rintro e w3 ⟨t, l, he, htR, hu3⟩; obtain ⟨tk, tn, ts, ka, kc, la, lc, tks, tl, rfl, -, -, -, -⟩ := htR.open; rw [VT.arg_mk] at he; subst he; have a3 := a2.upd hu3 (fun e => by have := hz2.out; unfold Only at e; omega); have hT3 := below_upd hT2 hu3 (fun k e => by have := hz2.out; unfold Only at e; omega) hT2.size; have hB4 := (Below.refl w3.heap.size w3).alloc (Nat.le_refl _) (.cells #[.int .u8 tk, .int .u64 tn, .string ts, .slice ka tks.length kc, .slice la tl.length lc] 60); have a4 := a3.alloc (.cells #[.int .u8 tk, .int .u64 tn, .string ts, .slice ka tks.length kc, .slice la tl.length lc] 60); have x4 := Blk.new w3 [.int .u8 tk, .int .u64 tn, .string ts, .slice ka tks.length kc, .slice la tl.length lc] 60; have hT4 := hT3.trans (hB4.mono hT3.size); have hR4 := htR.pure hB4; have p0 := a4.at 0 rfl; have py0 := a4.frozen 0; have p1 := a4.at 1 rfl; have py1 := a4.frozen 1; have p2 := a4.at 2 rfl; have py2 := a4.frozen 2; have p3 := a4.at 3 rfl; have py3 := a4.frozen 3; have p4 := a4.at 4 rfl; have py4 := a4.frozen 4; have q0 := x4.at 0 rfl; have qy0 := x4.frozen 0; have q1 := x4.at 1 rfl; have qy1 := x4.frozen 1; have q2 := x4.at 2 rfl; have qy2 := x4.frozen 2; have q3 := x4.at 3 rfl; have qy3 := x4.frozen 3; have q4 := x4.at 4 rfl; have qy4 := x4.frozen 4)); have aF := (a4.fresh5 (.int .u8 0) (.int .u64 0) (.string ⟨#[]⟩) (.slice none 0 0) (.slice none 0 0)); have k0 := aF.at 0 rfl; have k1 := aF.at 1 rfl; have k2 := aF.at 2 rfl; have k3 := aF.at 3 rfl; have k4 := aF.at 4 rfl; refine bodyPost_ret (by simp [results, Tryz.results87, go_sem, k0, k1, k2, k3, k4]; rfl) rfl ?_; rw [hpost.out]; exact ⟨rfl, below_upd hT4 (Upd.at5 _ w.heap.size (.int .u8 0) (.int .u64 0) (.string ⟨#[]⟩) (.slice none 0 0) (.slice none 0 0)) (fun k e => by omega) hT4.size⟩
  · simp only [hx] at hrd0; have hrd := Lib.hid hrd0; have hgp : getD L = if x.chk = 0 ∧ x.bytes <+: L then some (x, x.bytes.length) else none := by unfold getD; rw [hx]; rfl
    clear hrd0 hx; by_cases hc : x.chk = 0
    rotate_left 1
    · rw [if_neg (fun e => hc e.1)] at hgp; have hpost := Lib.hid hgp; have hcb : (x.chk != 0) = true := bne_iff_ne.2 hc; have hcb2 : (x.chk == 0) = false := beq_eq_false_iff_ne.2 hc; clear hgp hc; go_enter Tryz.func87, Tryz.ntmps87; go_wp2_with (first | (go_at_call 47; refine (dopen_any _ _ L (h.pure hB1) hL).mono ?_; rintro e w2 ⟨rb, rfl, d2, hrb, hB2⟩; have a2 := a1.pure hB2; have hT2 := hB1.trans (hB2.mono hB1.size); have hz2 := Lib.hid (show w.heap.size < rb by have := a1.lt; omega)) | (go_at_call 103; refine (hrd.out _ rb d2).mono ?_; rintro e w3 ⟨t, he, htv, htR, d3, hu3⟩; obtain ⟨tk, tn, ts, ka, kc, la, lc, tks, tl, rfl, -, -, -, -⟩ := htR.open; rw [VT.arg_mk] at he; subst he; have a3 := a2.upd hu3 (fun e => by have := hz2.out; unfold Only at e; omega); have hT3 := below_upd hT2 hu3 (fun k e => by have := hz2.out; unfold Only at e; omega) hT2.size; have hB4 := (Below.refl w3.heap.size w3).alloc (Nat.le_refl _) (.cells #[.int .u8 tk, .int .u64 tn, .string ts, .slice ka tks.length kc, .slice la tl.length lc] 60); have a4 := a3.alloc (.cells #[.int .u8 tk, .int .u64 tn, .string ts, .slice ka tks.length kc, .slice la tl.length lc] 60); have x4 := Blk.new w3 [.int .u8 tk, .int .u64 tn, .string ts, .slice ka tks.length kc, .slice la tl.length lc] 60; have hT4 := hT3.trans (hB4.mono hT3.size); have hR4 := htR.pure hB4; have p0 := a4.at 0 rfl; have py0 := a4.frozen 0; have p1 := a4.at 1 rfl; have py1 := a4.frozen 1; have p2 := a4.at 2 rfl; have py2 := a4.frozen 2; have p3 := a4.at 3 rfl; have py3 := a4.frozen 3; have p4 := a4.at 4 rfl; have py4 := a4.frozen 4; have q0 := x4.at 0 rfl; have qy0 := x4.frozen 0; have q1 := x4.at 1 rfl; have qy1 := x4.frozen 1; have q2 := x4.at 2 rfl; have qy2 := x4.frozen 2; have q3 := x4.at 3 rfl; have qy3 := x4.frozen 3; have q4 := x4.at 4 rfl; have qy4 := x4.frozen 4)); have hck := dcheck_any _ _ _ hR4; rw [VT.arg_mk, htv] at hck; refine hck.mono ?_; rintro e w5 ⟨rfl, hB5⟩; have a5 := a4.pure hB5; have hT5 := hT4.trans (hB5.mono hT4.size); have r0 := a5.at 0 rfl; have ry0 := a5.frozen 0; have r1 := a5.at 1 rfl; have ry1 := a5.frozen 1; have r2 := a5.at 2 rfl; have ry2 := a5.frozen 2; have r3 := a5.at 3 rfl; have ry3 := a5.frozen 3; have r4 := a5.at 4 rfl; have ry4 := a5.frozen 4; clear htv; go_wp2; have aF := (a5.fresh5 (.int .u8 0) (.int .u64 0) (.string ⟨#[]⟩) (.slice none 0 0) (.slice none 0 0)); have k0 := aF.at 0 rfl; have k1 := aF.at 1 rfl; have k2 := aF.at 2 rfl; have k3 := aF.at 3 rfl; have k4 := aF.at 4 rfl; refine bodyPost_ret (by simp [results, Tryz.results87, go_sem, k0, k1, k2, k3, k4]; rfl) rfl ?_; rw [hpost.out]; exact ⟨rfl, below_upd hT5 (Upd.at5 _ w.heap.size (.int .u8 0) (.int .u64 0) (.string ⟨#[]⟩) (.slice none 0 0) (.slice none 0 0)) (fun k e => by omega) hT5.size⟩
    · have hbig := may_big hc; have hcz := Lib.hid hc; have hmay := Lib.hid (chk_zero hc).2.2; have hLle := Lib.hid hL.le; have hbigh := Lib.hid hbig; have hgp' := Lib.hid hgp; clear hgp hc hbig; go_enter Tryz.func87, Tryz.ntmps87; go_wp2_with (first | (go_at_call 47; refine (dopen_any _ _ L (h.pure hB1) hL).mono ?_; rintro e w2 ⟨rb, rfl, d2, hrb, hB2⟩; have a2 := a1.pure hB2; have hT2 := hB1.trans (hB2.mono hB1.size); have hz2 := Lib.hid (show w.heap.size < rb by have := a1.lt; omega)) | (go_at_call 103; refine (hrd.out _ rb d2).mono ?_; rintro e w3 ⟨t, he, htv, htR, d3, hu3⟩; obtain ⟨tk, tn, ts, ka, kc, la, lc, tks, tl, rfl, -, -, -, -⟩ := htR.open; rw [VT.arg_mk] at he; subst he; have a3 := a2.upd hu3 (fun e => by have := hz2.out; unfold Only at e; omega); have hT3 := below_upd hT2 hu3 (fun k e => by have := hz2.out; unfold Only at e; omega) hT2.size; have hB4 := (Below.refl w3.heap.size w3).alloc (Nat.le_refl _) (.cells #[.int .u8 tk, .int .u64 tn, .string ts, .slice ka tks.length kc, .slice la tl.length lc] 60); have a4 := a3.alloc (.cells #[.int .u8 tk, .int .u64 tn, .string ts, .slice ka tks.length kc, .slice la tl.length lc] 60); have x4 := Blk.new w3 [.int .u8 tk, .int .u64 tn, .string ts, .slice ka tks.length kc, .slice la tl.length lc] 60; have hT4 := hT3.trans (hB4.mono hT3.size); have hR4 := htR.pure hB4; have p0 := a4.at 0 rfl; have py0 := a4.frozen 0; have p1 := a4.at 1 rfl; have py1 := a4.frozen 1; have p2 := a4.at 2 rfl; have py2 := a4.frozen 2; have p3 := a4.at 3 rfl; have py3 := a4.frozen 3; have p4 := a4.at 4 rfl; have py4 := a4.frozen 4; have q0 := x4.at 0 rfl; have qy0 := x4.frozen 0; have q1 := x4.at 1 rfl; have qy1 := x4.frozen 1; have q2 := x4.at 2 rfl; have qy2 := x4.frozen 2; have q3 := x4.at 3 rfl; have qy3 := x4.frozen 3; have q4 := x4.at 4 rfl; have qy4 := x4.frozen 4)); have hck := dcheck_any _ _ _ hR4; rw [VT.arg_mk, htv, hcz.out] at hck; refine hck.mono ?_; rintro e w5 ⟨rfl, hB5⟩; have a5 := a4.pure hB5; have hT5 := hT4.trans (hB5.mono hT4.size); have x5 := x4.pure hB5; have hR5 := hR4.pure hB5; have r0 := a5.at 0 rfl; have ry0 := a5.frozen 0; have r1 := a5.at 1 rfl; have ry1 := a5.frozen 1; have r2 := a5.at 2 rfl; have ry2 := a5.frozen 2; have r3 := a5.at 3 rfl; have ry3 := a5.frozen 3; have r4 := a5.at 4 rfl; have ry4 := a5.frozen 4; have s0 := x5.at 0 rfl; have sy0 := x5.frozen 0; have s1 := x5.at 1 rfl; have sy1 := x5.frozen 1; have s2 := x5.at 2 rfl; have sy2 := x5.frozen 2; have s3 := x5.at 3 rfl; have sy3 := x5.frozen 3; have s4 := x5.at 4 rfl; have sy4 := x5.frozen 4; have htvh := Lib.hid htv; have hby := dbytes_any _ _ _ hR5 (by rw [htv]; exact hmay.out) (by rw [htv]; exact hbigh.out); rw [VT.arg_mk, htv] at hby; have hbyh := Lib.hid hby; clear htv hby hck; go_wp2_with (go_at_call 71; refine hbyh.out.mono ?_; rintro e w6 ⟨r6, rfl, hO6, hB6⟩; have a6 := a5.pure hB6; have x6 := x5.pure hB6; have hT6 := hT5.trans (hB6.mono hT5.size); have hR6 := hR5.pure hB6; obtain ⟨ca, cc, rfl⟩ := own_lenB hO6); have hs6 := (hO6.slc byEnc_len).pure (below_refl_dr _); have hb6 := (h.pure hT6).pure (below_refl_dr _); obtain ⟨bs, hbs⟩ : ∃ bs, x.bytes = bs := ⟨_, rfl⟩
      rw [hbs] at hs6 hgp' hO6 ⊢; have ad := a6.drew; have xd := x6.drew; have hTd := below_dr hT6; have hRd := hR6.pure (below_refl_dr w6); have t0 := ad.at 0 rfl; have ty0 := ad.frozen 0; have t1 := ad.at 1 rfl; have ty1 := ad.frozen 1; have t2 := ad.at 2 rfl; have ty2 := ad.frozen 2; have t3 := ad.at 3 rfl; have ty3 := ad.frozen 3; have t4 := ad.at 4 rfl; have ty4 := ad.frozen 4; have v0 := xd.at 0 rfl; have vy0 := xd.frozen 0; have v1 := xd.at 1 rfl; have vy1 := xd.frozen 1; have v2 := xd.at 2 rfl; have vy2 := xd.frozen 2; have v3 := xd.at 3 rfl; have vy3 := xd.frozen 3; have v4 := xd.at 4 rfl; have vy4 := xd.frozen 4; have y0 := a6.at 0 rfl; have yy0 := a6.frozen 0; have y1 := a6.at 1 rfl; have yy1 := a6.frozen 1; have y2 := a6.at 2 rfl; have yy2 := a6.frozen 2; have y3 := a6.at 3 rfl; have yy3 := a6.frozen 3; have y4 := a6.at 4 rfl; have yy4 := a6.frozen 4; have z0 := x6.at 0 rfl; have zy0 := x6.frozen 0; have z1 := x6.at 1 rfl; have zy1 := x6.frozen 1; have z2 := x6.at 2 rfl; have zy2 := x6.frozen 2; have z3 := x6.at 3 rfl; have zy3 := x6.frozen 3; have z4 := x6.at 4 rfl; have zy4 := x6.frozen 4; by_cases hlen : L.length < bs.length
      · have hpost := Lib.hid (show getD L = none by rw [hgp'.out, if_neg (fun e => by have := e.2.length_le; omega)]); have hl1 : decide ((L.length : Int) < (bs.length : Int)) = true := decide_eq_true (by omega); have hl2 : decide (L.length < bs.length) = true := decide_eq_true hlen; clear hgp' ; refine wp_region_held_drew (S := fun u => u = w6.drew) (by kernel_rfl) rfl (fun hHeld => ?_); refine takeY 0 26 rfl rfl (v := ?_) ?_ hHeld ?_
        rotate_left 1
        · (intro u hSw; (try dsimp only at hSw); subst hSw; go_simp; (try with_reducible rfl))
        (try simp only [Act.put, lsT, lsZ, lsS]); refine takeY 1 27 rfl rfl (v := ?_) ?_ hHeld ?_
        rotate_left 1
        · (intro u hSw; (try dsimp only at hSw); subst hSw; go_simp; (try with_reducible rfl))
        (try simp only [Act.put, lsT, lsZ, lsS]); refine takeY 2 28 rfl rfl (v := ?_) ?_ hHeld ?_
        rotate_left 1
        · (intro u hSw; (try dsimp only at hSw); subst hSw; go_simp; (try with_reducible rfl))
        (try simp only [Act.put, lsT, lsZ, lsS]); refine takeY 3 29 rfl rfl (v := ?_) ?_ hHeld ?_
        rotate_left 1
        · (intro u hSw; (try dsimp only at hSw); subst hSw; go_simp; (try with_reducible rfl))
        (try simp only [Act.put, lsT, lsZ, lsS]); refine takeY 4 30 rfl rfl (v := ?_) ?_ hHeld ?_
        rotate_left 1
        · (intro u hSw; (try dsimp only at hSw); subst hSw; go_simp; (try with_reducible rfl))
        (try simp only [Act.put, lsT, lsZ, lsS]); refine takeY 5 31 rfl rfl (v := ?_) ?_ hHeld ?_
        rotate_left 1
        · (intro u hSw; (try dsimp only at hSw); subst hSw; go_simp; (try with_reducible rfl))
        (try simp only [Act.put, lsT, lsZ, lsS]); refine takeN 6 32 rfl rfl hHeld ?_; (try simp only [Act.put, lsT, lsZ, lsS]); refine takeN 7 33 rfl rfl hHeld ?_; (try simp only [Act.put, lsT, lsZ, lsS]); refine takeN 8 34 rfl rfl hHeld ?_; (try simp only [Act.put, lsT, lsZ, lsS]); refine takeN 9 35 rfl rfl hHeld ?_; (try simp only [Act.put, lsT, lsZ, lsS]); refine takeN 10 36 rfl rfl hHeld ?_; (try simp only [Act.put, lsT, lsZ, lsS]); refine takeN 11 37 rfl rfl hHeld ?_; (try simp only [Act.put, lsT, lsZ, lsS]); refine takeN 12 38 rfl rfl hHeld ?_; (try simp only [Act.put, lsT, lsZ, lsS]); refine takeN 13 39 rfl rfl hHeld ?_; (try simp only [Act.put, lsT, lsZ, lsS]); refine takeY 14 40 rfl rfl (v := ?_) ?_ hHeld ?_
        rotate_left 1
        · (intro u hSw; (try dsimp only at hSw); subst hSw; go_simp; (try with_reducible rfl))
        (try simp only [Act.put, lsT, lsZ, lsS]); refine wpAnyH_done (by kernel_rfl) ?_ _; go_wp2; have aF := (a6.fresh5 (.int .u8 0) (.int .u64 0) (.string ⟨#[]⟩) (.slice none 0 0) (.slice none 0 0)).drew; have k0 := aF.at 0 rfl; have k1 := aF.at 1 rfl; have k2 := aF.at 2 rfl; have k3 := aF.at 3 rfl; have k4 := aF.at 4 rfl; refine bodyPost_ret (by simp [results, Tryz.results87, go_sem, k0, k1, k2, k3, k4]; rfl) rfl ?_; rw [hpost.out]; exact ⟨rfl, below_dr (below_upd hT6 (Upd.at5 _ w.heap.size (.int .u8 0) (.int .u64 0) (.string ⟨#[]⟩) (.slice none 0 0) (.slice none 0 0)) (fun k e => by omega) hT6.size)⟩
      have hle : bs.length ≤ L.length := by omega
      have hl1 : decide ((L.length : Int) < (bs.length : Int)) = false := decide_eq_false (by omega); have hl2 : decide (L.length < bs.length) = false := decide_eq_false hlen; have hcapn := slc_cap hb6; have hcv1 := conv_str w6.drew _ bs hs6; have hcv2 := conv_str w6.drew _ _ (slc_take hb6 hle); have hcap1 : (bs.length : Int) ≤ (vc : Int) := by omega
      have hcap0 : (0 : Int) ≤ (bs.length : Int) := by omega
      obtain ⟨s1, hs1⟩ : ∃ s1 : ByteArray, (⟨bs.toArray⟩ : ByteArray) = s1 := ⟨_, rfl⟩
      obtain ⟨s2, hs2⟩ : ∃ s2 : ByteArray, (⟨(L.take bs.length).toArray⟩ : ByteArray) = s2 := ⟨_, rfl⟩
      rw [hs1] at hcv1; rw [hs2] at hcv2; clear hs6 hb6; by_cases hss : s1 = s2
      · have hpre : bs <+: L := by rw [List.prefix_iff_eq_take]; exact str_eq.1 (by rw [hs1, hs2, hss])
        have hpost := Lib.hid (show getD L = some (x, bs.length) by rw [hgp'.out, if_pos ⟨hcz.out, hpre⟩]); have hleh := Lib.hid hle; clear hs1 hs2 hgp' hpre hlen hle; subst hss; refine wp_region_held_drew (S := fun u => u = w6.drew) (by kernel_rfl) rfl (fun hHeld => ?_); refine takeY 0 26 rfl rfl (v := ?_) ?_ hHeld ?_
        rotate_left 1
        · (intro u hSw; (try dsimp only at hSw); subst hSw; go_simp; (try with_reducible rfl))
        (try simp only [Act.put, lsT, lsZ, lsS]); refine takeY 1 27 rfl rfl (v := ?_) ?_ hHeld ?_
        rotate_left 1
        · (intro u hSw; (try dsimp only at hSw); subst hSw; go_simp; (try with_reducible rfl))
        (try simp only [Act.put, lsT, lsZ, lsS]); refine takeY 2 28 rfl rfl (v := ?_) ?_ hHeld ?_
        rotate_left 1
        · (intro u hSw; (try dsimp only at hSw); subst hSw; go_simp; (try with_reducible rfl))
        (try simp only [Act.put, lsT, lsZ, lsS]); refine takeY 3 29 rfl rfl (v := ?_) ?_ hHeld ?_
        rotate_left 1
        · (intro u hSw; (try dsimp only at hSw); subst hSw; go_simp; (try with_reducible rfl))
        (try simp only [Act.put, lsT, lsZ, lsS]); refine takeY 4 30 rfl rfl (v := ?_) ?_ hHeld ?_
        rotate_left 1
        · (intro u hSw; (try dsimp only at hSw); subst hSw; go_simp; (try with_reducible rfl))
        (try simp only [Act.put, lsT, lsZ, lsS]); refine takeY 5 31 rfl rfl (v := ?_) ?_ hHeld ?_
        rotate_left 1
        · (intro u hSw; (try dsimp only at hSw); subst hSw; go_simp; (try with_reducible rfl))
        (try simp only [Act.put, lsT, lsZ, lsS]); refine takeY 6 32 rfl rfl (v := ?_) ?_ hHeld ?_
        rotate_left 1
        · (intro u hSw; (try dsimp only at hSw); subst hSw; go_simp; (try with_reducible rfl))
        (try simp only [Act.put, lsT, lsZ, lsS]); refine takeY 7 33 rfl rfl (v := ?_) ?_ hHeld ?_
        rotate_left 1
        · (intro u hSw; (try dsimp only at hSw); subst hSw; go_simp; (try with_reducible rfl))
        (try simp only [Act.put, lsT, lsZ, lsS]); refine takeY 8 34 rfl rfl (v := ?_) ?_ hHeld ?_
        rotate_left 1
        · (intro u hSw; (try dsimp only at hSw); subst hSw; go_simp; (try with_reducible rfl))
        (try simp only [Act.put, lsT, lsZ, lsS]); refine takeY 9 35 rfl rfl (v := ?_) ?_ hHeld ?_
        rotate_left 1
        · (intro u hSw; (try dsimp only at hSw); subst hSw; go_simp; (try with_reducible rfl))
        (try simp only [Act.put, lsT, lsZ, lsS]); refine takeY 10 36 rfl rfl (v := ?_) ?_ hHeld ?_
        rotate_left 1
        · (intro u hSw; (try dsimp only at hSw); subst hSw; go_simp; (try with_reducible rfl))
        (try simp only [Act.put, lsT, lsZ, lsS]); refine takeY 11 37 rfl rfl (v := ?_) ?_ hHeld ?_
        rotate_left 1
        · (intro u hSw; (try dsimp only at hSw); subst hSw; go_simp; (try with_reducible rfl))
        (try simp only [Act.put, lsT, lsZ, lsS]); refine takeY 12 38 rfl rfl (v := ?_) ?_ hHeld ?_
        rotate_left 1
        · (intro u hSw; (try dsimp only at hSw); subst hSw; go_simp; (try with_reducible rfl))
        (try simp only [Act.put, lsT, lsZ, lsS]); refine takeY 13 39 rfl rfl (v := ?_) ?_ hHeld ?_
        rotate_left 1
        · (intro u hSw; (try dsimp only at hSw); subst hSw; go_simp; (try with_reducible rfl))
        (try simp only [Act.put, lsT, lsZ, lsS]); refine takeY 14 40 rfl rfl (v := ?_) ?_ hHeld ?_
        rotate_left 1
        · (intro u hSw; (try dsimp only at hSw); subst hSw; go_simp; (try with_reducible rfl))
        (try simp only [Act.put, lsT, lsZ, lsS]); refine wpAnyH_done (by kernel_rfl) ?_ _; go_wp2; have aF := (a6.fresh5 (.int .u8 tk) (.int .u64 tn) (.string ts) (.slice ka tks.length kc) (.slice la tl.length lc)).drew; have k0 := aF.at 0 rfl; have k1 := aF.at 1 rfl; have k2 := aF.at 2 rfl; have k3 := aF.at 3 rfl; have k4 := aF.at 4 rfl; refine bodyPost_ret (by simp [results, Tryz.results87, go_sem, k0, k1, k2, k3, k4]; rfl) rfl ?_; rw [hpost.out]; have hzz := hz2.out; exact ⟨(.mk tk tn ts (.slice ka tks.length kc) (.slice la tl.length lc) tks tl), rfl, htvh.out, ((hR6.upd (Upd.at5 _ w.heap.size (.int .u8 tk) (.int .u64 tn) (.string ts) (.slice ka tks.length kc) (.slice la tl.length lc)) (fun i hi e => by have h1 := hB2.size; have h2 := a1.lt; omega)).pure (below_refl_dr _)).weaken (fun i _ hi => by have h1 := hB2.size; have h2 := a1.lt; omega), below_dr (below_upd hT6 (Upd.at5 _ w.heap.size (.int .u8 tk) (.int .u64 tn) (.string ts) (.slice ka tks.length kc) (.slice la tl.length lc)) (fun k e => by omega) hT6.size)⟩
      · have hpost := Lib.hid (show getD L = none by
          rw [hgp'.out, if_neg (fun e => hss (by rw [← hs1, ← hs2, str_eq, ← List.prefix_iff_eq_take]; exact e.2))])
        have hn1 := ba_toList_ne hss; have hn2 : (!s1.toList == s2.toList) = true := by simp [hn1]
        have hn3 : (s1.toList == s2.toList) = false := by simp [hn1]
        clear hs1 hs2 hgp' hlen hle hss; refine wp_region_held_drew (S := fun u => u = w6.drew) (by kernel_rfl) rfl (fun hHeld => ?_); refine takeY 0 26 rfl rfl (v := ?_) ?_ hHeld ?_
        rotate_left 1
        · (intro u hSw; (try dsimp only at hSw); subst hSw; go_simp; (try with_reducible rfl))
        (try simp only [Act.put, lsT, lsZ, lsS]); refine takeY 1 27 rfl rfl (v := ?_) ?_ hHeld ?_
        rotate_left 1
        · (intro u hSw; (try dsimp only at hSw); subst hSw; go_simp; (try with_reducible rfl))
        (try simp only [Act.put, lsT, lsZ, lsS]); refine takeY 2 28 rfl rfl (v := ?_) ?_ hHeld ?_
        rotate_left 1
        · (intro u hSw; (try dsimp only at hSw); subst hSw; go_simp; (try with_reducible rfl))
        (try simp only [Act.put, lsT, lsZ, lsS]); refine takeY 3 29 rfl rfl (v := ?_) ?_ hHeld ?_
        rotate_left 1
        · (intro u hSw; (try dsimp only at hSw); subst hSw; go_simp; (try with_reducible rfl))
        (try simp only [Act.put, lsT, lsZ, lsS]); refine takeY 4 30 rfl rfl (v := ?_) ?_ hHeld ?_
        rotate_left 1
        · (intro u hSw; (try dsimp only at hSw); subst hSw; go_simp; (try with_reducible rfl))
        (try simp only [Act.put, lsT, lsZ, lsS]); refine takeY 5 31 rfl rfl (v := ?_) ?_ hHeld ?_
        rotate_left 1
        · (intro u hSw; (try dsimp only at hSw); subst hSw; go_simp; (try with_reducible rfl))
        (try simp only [Act.put, lsT, lsZ, lsS]); refine takeY 6 32 rfl rfl (v := ?_) ?_ hHeld ?_
        rotate_left 1
        · (intro u hSw; (try dsimp only at hSw); subst hSw; go_simp; (try with_reducible rfl))
        (try simp only [Act.put, lsT, lsZ, lsS]); refine takeY 7 33 rfl rfl (v := ?_) ?_ hHeld ?_
        rotate_left 1
        · (intro u hSw; (try dsimp only at hSw); subst hSw; go_simp; (try with_reducible rfl))
        (try simp only [Act.put, lsT, lsZ, lsS]); refine takeY 8 34 rfl rfl (v := ?_) ?_ hHeld ?_
        rotate_left 1
        · (intro u hSw; (try dsimp only at hSw); subst hSw; go_simp; (try with_reducible rfl))
        (try simp only [Act.put, lsT, lsZ, lsS]); refine takeY 9 35 rfl rfl (v := ?_) ?_ hHeld ?_
        rotate_left 1
        · (intro u hSw; (try dsimp only at hSw); subst hSw; go_simp; (try with_reducible rfl))
        (try simp only [Act.put, lsT, lsZ, lsS]); refine takeY 10 36 rfl rfl (v := ?_) ?_ hHeld ?_
        rotate_left 1
        · (intro u hSw; (try dsimp only at hSw); subst hSw; go_simp; (try with_reducible rfl))
        (try simp only [Act.put, lsT, lsZ, lsS]); refine takeY 11 37 rfl rfl (v := ?_) ?_ hHeld ?_
        rotate_left 1
        · (intro u hSw; (try dsimp only at hSw); subst hSw; go_simp; (try with_reducible rfl))
        (try simp only [Act.put, lsT, lsZ, lsS]); refine takeY 12 38 rfl rfl (v := ?_) ?_ hHeld ?_
        rotate_left 1
        · (intro u hSw; (try dsimp only at hSw); subst hSw; go_simp; (try with_reducible rfl))
        (try simp only [Act.put, lsT, lsZ, lsS]); refine takeY 13 39 rfl rfl (v := ?_) ?_ hHeld ?_
        rotate_left 1
        · (intro u hSw; (try dsimp only at hSw); subst hSw; go_simp; (try with_reducible rfl))
        (try simp only [Act.put, lsT, lsZ, lsS]); refine takeY 14 40 rfl rfl (v := ?_) ?_ hHeld ?_
        rotate_left 1
        · (intro u hSw; (try dsimp only at hSw); subst hSw; go_simp; (try with_reducible rfl))
        (try simp only [Act.put, lsT, lsZ, lsS]); refine wpAnyH_done (by kernel_rfl) ?_ _; go_wp2; have aF := (a6.fresh5 (.int .u8 0) (.int .u64 0) (.string ⟨#[]⟩) (.slice none 0 0) (.slice none 0 0)).drew; have k0 := aF.at 0 rfl; have k1 := aF.at 1 rfl; have k2 := aF.at 2 rfl; have k3 := aF.at 3 rfl; have k4 := aF.at 4 rfl; refine bodyPost_ret (by simp [results, Tryz.results87, go_sem, k0, k1, k2, k3, k4]; rfl) rfl ?_; rw [hpost.out]; exact ⟨rfl, below_dr (below_upd hT6 (Upd.at5 _ w.heap.size (.int .u8 0) (.int .u64 0) (.string ⟨#[]⟩) (.slice none 0 0) (.slice none 0 0)) (fun k e => by omega) hT6.size)⟩
end Go.Proofs.YtflglpbjapgciaaGreatDoor
namespace Go.Proofs.YtflglpbjapgciaaGreatDoor
/-- What Get tells, in one form: the value of nothing where there is none. -/
def getV (o : Option (V × Nat)) : V := match o with | some (x, _) => x | none => .mk 0 0 ⟨#[]⟩ [] []
def getN (o : Option (V × Nat)) : Nat := match o with | some (_, n) => n | none => 0
def getE (o : Option (V × Nat)) : Int := match o with | some _ => 0 | none => 5
end Go.Proofs.YtflglpbjapgciaaGreatDoor
namespace Go.Proofs.YtflglpbjapgciaaGreatDoor
open Go.RowKit
theorem dsame_yes {t u : VT} {P P2 : Nat → Prop} {w : World} (h : Rd P w t) (k : Rd P2 w u) (e : t.v = u.v) : Calls Tryz.prog 94 #[t.arg, u.arg] w fun r w' => r = .returned (.bool true) ∧ Below w.heap.size w w' :=
  (dsame_any t u P P2 w h k).mono fun r w' ⟨⟨b, hr, hb⟩, hB⟩ => ⟨by rw [hr, hb.2 e], hB⟩
theorem psame_yes {t u : VT} {P P2 : Nat → Prop} {w : World} (h : Rd P w t) (k : Rd P2 w u) (e : t.v = u.v) : Calls Tryz.prog 90 #[t.arg, u.arg] w fun r w' => r = .returned (.bool true) ∧ Below w.heap.size w w' :=
  (psame_any t u P P2 w h k).mono fun r w' ⟨⟨b, hr, hb⟩, hB⟩ => ⟨by rw [hr, hb.2 e], hB⟩
theorem psame_no {t u : VT} {P P2 : Nat → Prop} {w : World} (h : Rd P w t) (k : Rd P2 w u) (e : t.v ≠ u.v) : Calls Tryz.prog 90 #[t.arg, u.arg] w fun r w' => r = .returned (.bool false) ∧ Below w.heap.size w w' :=
  (psame_any t u P P2 w h k).mono fun r w' ⟨⟨b, hr, hb⟩, hB⟩ => ⟨by rw [hr]; cases b with | false => rfl | true => exact absurd (hb.1 rfl) e, hB⟩
theorem dsame_no {t u : VT} {P P2 : Nat → Prop} {w : World} (h : Rd P w t) (k : Rd P2 w u) (e : t.v ≠ u.v) : Calls Tryz.prog 94 #[t.arg, u.arg] w fun r w' => r = .returned (.bool false) ∧ Below w.heap.size w w' :=
  (dsame_any t u P P2 w h k).mono fun r w' ⟨⟨b, hr, hb⟩, hB⟩ => ⟨by rw [hr]; cases b with | false => rfl | true => exact absurd (hb.1 rfl) e, hB⟩
theorem VT.zero_rd {P : Nat → Prop} {w : World} : Rd P w VT.zero := Rd.leaf (by omega) (by omega) (by omega) (by omega)
theorem VT.zero_v : VT.zero.v = .mk 0 0 ⟨#[]⟩ [] [] := by simp [VT.zero, VT.v, VT.vL]
theorem getPost_one {w : World} {o : Option (V × Nat)} {e : Ending} {w' : World} (h : GetPost w o e w') : ∃ (tk tn : Int) (ts : ByteArray) (ka : Option Addr) (kc : Nat) (la : Option Addr) (lc : Nat) (tks : List ByteArray) (tl : List VT),
    e = .returned (.tuple #[.agg #[.int .u8 tk, .int .u64 tn, .string ts, .slice ka tks.length kc, .slice la tl.length lc], .int .i64 (getN o), .int .i64 (getE o)]) ∧ (VT.mk tk tn ts (.slice ka tks.length kc) (.slice la tl.length lc) tks tl).v = getV o ∧
    Rd (fun i => w.heap.size ≤ i) w' (VT.mk tk tn ts (.slice ka tks.length kc) (.slice la tl.length lc) tks tl) ∧ Below w.heap.size w w' := by
  match o, h with
  | none, ⟨he, hB⟩ => exact ⟨0, 0, ⟨#[]⟩, none, 0, none, 0, [], [], he, VT.zero_v, VT.zero_rd, hB⟩
  | some (x, n), ⟨t, he, hv, hR, hB⟩ =>
    obtain ⟨tk, tn, ts, ka, kc, la, lc, tks, tl, rfl, -⟩ := hR.open; exact ⟨tk, tn, ts, ka, kc, la, lc, tks, tl, he, hv, hR, hB⟩
theorem pget_one (w : World) (v : Value) (L : List UInt8) (h : Slc byEnc 1 w v L) (hL : Big L.length) (hT : Tb w) : Calls Tryz.prog 83 #[v] w fun e w' => ∃ (tk tn : Int) (ts : ByteArray) (ka : Option Addr) (kc : Nat) (la : Option Addr) (lc : Nat) (tks : List ByteArray) (tl : List VT),
    e = .returned (.tuple #[.agg #[.int .u8 tk, .int .u64 tn, .string ts, .slice ka tks.length kc, .slice la tl.length lc], .int .i64 (getN (getP L)), .int .i64 (getE (getP L))]) ∧ (VT.mk tk tn ts (.slice ka tks.length kc) (.slice la tl.length lc) tks tl).v = getV (getP L) ∧
    Rd (fun i => w.heap.size ≤ i) w' (VT.mk tk tn ts (.slice ka tks.length kc) (.slice la tl.length lc) tks tl) ∧ Below w.heap.size w w' := (pget_any w v L h hL hT).mono fun e w' h => getPost_one h
theorem dget_one (w : World) (v : Value) (L : List UInt8) (h : Slc byEnc 1 w v L) (hL : Big L.length) : Calls Tryz.prog 87 #[v] w fun e w' => ∃ (tk tn : Int) (ts : ByteArray) (ka : Option Addr) (kc : Nat) (la : Option Addr) (lc : Nat) (tks : List ByteArray) (tl : List VT),
    e = .returned (.tuple #[.agg #[.int .u8 tk, .int .u64 tn, .string ts, .slice ka tks.length kc, .slice la tl.length lc], .int .i64 (getN (getP L)), .int .i64 (getE (getP L))]) ∧ (VT.mk tk tn ts (.slice ka tks.length kc) (.slice la tl.length lc) tks tl).v = getV (getP L) ∧
    Rd (fun i => w.heap.size ≤ i) w' (VT.mk tk tn ts (.slice ka tks.length kc) (.slice la tl.length lc) tks tl) ∧ Below w.heap.size w w' := (dget_any w v L h hL).mono fun e w' h => by rw [getD_eq] at h; exact getPost_one h
end Go.Proofs.YtflglpbjapgciaaGreatDoor
