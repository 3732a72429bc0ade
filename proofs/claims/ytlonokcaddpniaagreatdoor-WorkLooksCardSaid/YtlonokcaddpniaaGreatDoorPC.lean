/- Properties: Put, the document's. Conditions: none. Written by gen_prC.py. -/
import Derived.Test.YtlonokcaddpniaaGreatDoorPA
import Derived.Test.YtlonokcaddpniaaGreatDoorKA
import Derived.Test.YtlonokcaddpniaaGreatDoorKQ
set_option linter.unusedSimpArgs false
set_option linter.unusedVariables false
namespace Go.Proofs.YtlonokcaddpniaaGreatDoor
open Go.RowKit
theorem Own.byte4 (w : World) (c0 c1 c2 c3 : UInt8) (x0 x1 x2 x3 : Int) (h0 : x0 = (c0.toNat : Int)) (h1 : x1 = (c1.toNat : Int)) (h2 : x2 = (c2.toNat : Int)) (h3 : x3 = (c3.toNat : Int)) {base : Nat} (hb : base ≤ w.heap.size) :
    Own base 5 1 byEnc (w.alloc (.cells #[.int .u8 x0, .int .u8 x1, .int .u8 x2, .int .u8 x3] 5)) (.slice (some ⟨w.heap.size, 0, none⟩) 4 4) [c0, c1, c2, c3] :=
  ⟨by simp [byEnc], .inr ⟨w.heap.size, 4, #[.int .u8 x0, .int .u8 x1, .int .u8 x2, .int .u8 x3], rfl, hb, heap_alloc_new w _, by simp, by unfold maxLen; omega, by simp, by subst h0 h1 h2 h3; simp [byEnc]⟩⟩
/-- The first part's flags. -/
theorem fl1_sum (dur red : Bool) (key mid : ByteArray) (v : V) : IntKind.u8.wrap (IntKind.u8.wrap ((if dur then 1 else 0) + (if red then 2 else 0)) + (if key.toList = [] then 0 else 4)) = ((UInt8.ofNat (fl1 ⟨key, dur, red, mid, v⟩)).toNat : Int) := by
  have h := fl1_lt ⟨key, dur, red, mid, v⟩; rw [UInt8.toNat_ofNat', Nat.mod_eq_of_lt (by omega)]; unfold fl1; by_cases h0 : key.size = 0
  · have := List.isEmpty_iff.1 (empty_yes h0); cases dur <;> cases red <;> simp [h0, this] <;> rfl
  · have : ¬ key.toList = [] := fun e => h0 (by rw [← toList_len, e]; rfl)
    cases dur <;> cases red <;> simp [h0, this] <;> rfl
set_option maxRecDepth 100000 in
set_option maxHeartbeats 12800000 in
theorem d9put_any (t : PT) (P : Nat → Prop) (w : World) (hR : Rd P w t.app) : Calls Tryz.prog 75 #[t.arg] w fun e w' => e = .returned (.tuple #[.string (if t.p.chk = 0 then t.p.text else ⟨#[]⟩), .int .i64 t.p.chk]) ∧ Below w.heap.size w w' := by
  obtain ⟨key, dur, red, mid, tv⟩ := t; have hR : Rd _ _ tv := hR; obtain ⟨tk, tn, ts, tka, tkc, tla, tlc, tks, tl, rfl, -⟩ := hR.open; have hB1 := (Below.refl w.heap.size w).alloc (Nat.le_refl _) (.cells #[.string key, .bool dur, .bool red, .string mid, .int .u8 tk, .int .u64 tn, .string ts, .slice tka tks.length tkc, .slice tla tl.length tlc] 33); have A1 := Blk.new w [.string key, .bool dur, .bool red, .string mid, .int .u8 tk, .int .u64 tn, .string ts, .slice tka tks.length tkc, .slice tla tl.length tlc] 33; have R1 := hR.pure hB1; obtain ⟨px, hpx⟩ : ∃ px, (PT.mk key dur red mid (VT.mk tk tn ts (.slice tka tks.length tkc) (.slice tla tl.length tlc) tks tl)).p = px := ⟨_, rfl⟩
  obtain ⟨cx, hcx⟩ : ∃ cx, px.chk = cx := ⟨_, rfl⟩
  have hch := (d9check_any (PT.mk key dur red mid (VT.mk tk tn ts (.slice tka tks.length tkc) (.slice tla tl.length tlc) tks tl)) P _ R1); rw [hpx, hcx, PT.arg_mk] at hch; rw [hpx, hcx, PT.arg_mk]; have hchh := Lib.hid hch; have hpxh := Lib.hid (show px = Pr.mk key dur red mid (VT.mk tk tn ts (.slice tka tks.length tkc) (.slice tla tl.length tlc) tks tl).v from hpx.symm); have hcxh := Lib.hid hcx; clear hch hpx hcx; have a0 := A1.at 0 rfl; have a1 := A1.at 1 rfl; have a2 := A1.at 2 rfl; have a3 := A1.at 3 rfl; have a4 := A1.at 4 rfl; have a5 := A1.at 5 rfl; have a6 := A1.at 6 rfl; have a7 := A1.at 7 rfl; have a8 := A1.at 8 rfl; go_enter Tryz.func75, Tryz.ntmps75; by_cases h0 : cx = 0
  rotate_left 1
  · have h1 : (cx == 0) = false := beq_eq_false_iff_ne.2 h0; have h2 : (cx != 0) = true := bne_iff_ne.2 h0; have hc9 := Lib.hid (show cx = 90 by rcases pr_chk px with e | e; exact absurd (hcxh.out.symm.trans e) h0; exact hcxh.out.symm.trans e); rw [if_neg h0]; clear h0; go_wp2_with (go_at_call 101; refine (hchh.out).mono ?_; rintro e w2 ⟨rfl, hB2⟩; have hB12 := hB1.trans (hB2.mono hB1.size)); go_ret2; exact ⟨by rw [hc9.out]; rfl, hB12⟩
  subst h0; have hok := pr_ok.1 hcxh.out; have hkey := Lib.hid (show key.size ≤ 255 by have := hok.1; rw [hpxh.out] at this; exact this); have hmid := Lib.hid (show mid.size ≤ 255 by have := hok.2.1; rw [hpxh.out] at this; exact this); have happ := Lib.hid (show (VT.mk tk tn ts (.slice tka tks.length tkc) (.slice tla tl.length tlc) tks tl).v = V.zero ∨ tk = 168 ∧ (VT.mk tk tn ts (.slice tka tks.length tkc) (.slice tla tl.length tlc) tks tl).v.chk = 0 by have := hok.2.2; rw [hpxh.out] at this; rcases this with e | e; exact .inl e; exact .inr ⟨by rw [← (vkind : (VT.mk tk tn ts (.slice tka tks.length tkc) (.slice tla tl.length tlc) tks tl).v.kind = tk)]; exact e.1, e.2⟩); clear hok; rw [if_pos rfl]; go_wp2_with (go_at_call 101; refine (hchh.out).mono ?_; rintro e w2 ⟨rfl, hB2⟩; have A2 := A1.pure hB2; have R2 := R1.pure hB2; have hB12 := hB1.trans (hB2.mono hB1.size); clear a0 a1 a2 a3 a4 a5 a6 a7 a8); have hA2 := Lib.hid (fun (u : World) (h : Below w2.heap.size w2 u) => A2.pure h); have hfl := Lib.hid (fl1_sum dur red key mid (VT.mk tk tn ts (.slice tka tks.length tkc) (.slice tla tl.length tlc) tks tl).v); obtain ⟨f1, hf1⟩ : ∃ f1, UInt8.ofNat (fl1 ⟨key, dur, red, mid, (VT.mk tk tn ts (.slice tka tks.length tkc) (.slice tla tl.length tlc) tks tl).v⟩) = f1 := ⟨_, rfl⟩
  have hb1 := Lib.hid (show body1 px = [4, 1, 0, f1] ++ stx key by rw [hpxh.out, ← hf1]; rfl); rw [hf1] at hfl; obtain ⟨s1, hs1⟩ : ∃ s1 : ByteArray, (⟨(part ([4, 1, 0, f1] ++ stx key)).toArray⟩ : ByteArray) = s1 := ⟨_, rfl⟩
  have hs1h := Lib.hid hs1; clear hf1 hs1; have hb := below_refl_dr w2; refine wp_region_held_drew (S := fun u => Below w2.heap.size w2 u) (by kernel_rfl) hb (fun hHeld => ?_); refine takeY 0 10 rfl rfl (v := ?_) ?_ hHeld ?_
  rotate_left 1
  · (intro u hSw; (try dsimp only at hSw); clear hSw; go_simp; (try with_reducible rfl))
  (try simp only [Act.put, lsT, lsZ, lsS]); refine takeY 1 11 rfl rfl (v := ?_) ?_ hHeld ?_
  rotate_left 1
  · (intro u hSw; (try dsimp only at hSw); have q := hA2.out u hSw; have qc := q.at 1 rfl; clear hSw; go_simp; (try with_reducible rfl))
  (try simp only [Act.put, lsT, lsZ, lsS]); refine takeY 3 13 rfl rfl (v := ?_) ?_ hHeld ?_
  rotate_left 1
  · (intro u hSw; (try dsimp only at hSw); clear hSw; go_simp; (try with_reducible rfl))
  (try simp only [Act.put, lsT, lsZ, lsS]); refine takeY 4 14 rfl rfl (v := ?_) ?_ hHeld ?_
  rotate_left 1
  · (intro u hSw; (try dsimp only at hSw); have q := hA2.out u hSw; have qc := q.at 2 rfl; clear hSw; go_simp; (try with_reducible rfl))
  (try simp only [Act.put, lsT, lsZ, lsS]); refine takeY 7 17 rfl rfl (v := ?_) ?_ hHeld ?_
  rotate_left 1
  · (intro u hSw; (try dsimp only at hSw); clear hSw; go_simp; (try with_reducible rfl))
  (try simp only [Act.put, lsT, lsZ, lsS]); refine takeY 8 18 rfl rfl (v := ?_) ?_ hHeld ?_
  rotate_left 1
  · (intro u hSw; (try dsimp only at hSw); have q := hA2.out u hSw; have qc := q.at 0 rfl; clear hSw; go_simp; (try with_reducible rfl))
  (try simp only [Act.put, lsT, lsZ, lsS]); refine takeY 9 19 rfl rfl (v := ?_) ?_ hHeld ?_
  rotate_left 1
  · (intro u hSw; (try dsimp only at hSw); clear hSw; go_simp; (try with_reducible rfl))
  (try simp only [Act.put, lsT, lsZ, lsS]); refine takeY 13 23 rfl rfl (v := ?_) ?_ hHeld ?_
  rotate_left 1
  · (intro u hSw; (try dsimp only at hSw); clear hSw; go_simp; (try with_reducible rfl))
  (try simp only [Act.put, lsT, lsZ, lsS]); refine takeY 14 24 rfl rfl (v := ?_) ?_ hHeld ?_
  rotate_left 1
  · (intro u hSw; (try dsimp only at hSw); have q := hA2.out u hSw; have qc := q.at 0 rfl; clear hSw; go_simp; (try with_reducible rfl))
  (try simp only [Act.put, lsT, lsZ, lsS]); refine wpAnyH_ready (rs := [2]) (by kernel_rfl) (by simp) ?_; refine AllReadyH.cons rfl (fun K hK => ?_) AllReadyH.nil; go_simp; go_at_call 104
  (with_reducible refine (d9flag_any _ _ _).mono ?_)
  rintro e w3 ⟨rfl, rfl⟩; refine hK.out _ _ hb (fun hHeld => ?_); clear hK K; (try simp only [Act.put, lsT, lsZ, lsS]); refine wpAnyH_ready (rs := [5]) (by kernel_rfl) (by simp) ?_; refine AllReadyH.cons rfl (fun K hK => ?_) AllReadyH.nil; go_simp; go_at_call 104
  (with_reducible refine (d9flag_any _ _ _).mono ?_)
  rintro e w3 ⟨rfl, rfl⟩; refine hK.out _ _ hb (fun hHeld => ?_); clear hK K; (try simp only [Act.put, lsT, lsZ, lsS]); refine takeY 6 16 rfl rfl (v := ?_) ?_ hHeld ?_
  rotate_left 1
  · (intro u hSw; (try dsimp only at hSw); clear hSw; go_simp; (try with_reducible rfl))
  (try simp only [Act.put, lsT, lsZ, lsS]); refine wpAnyH_ready (rs := [10]) (by kernel_rfl) (by simp) ?_; refine AllReadyH.cons rfl (fun K hK => ?_) AllReadyH.nil; go_simp; go_at_call 104
  (with_reducible refine (d9flag_any _ _ _).mono ?_)
  rintro e w3 ⟨rfl, rfl⟩; refine hK.out _ _ hb (fun hHeld => ?_); clear hK K; (try simp only [Act.put, lsT, lsZ, lsS]); refine takeY 11 21 rfl rfl (v := ?_) ?_ hHeld ?_
  rotate_left 1
  · (intro u hSw; (try dsimp only at hSw); clear hSw; go_simp; (try with_reducible rfl))
  (try simp only [Act.put, lsT, lsZ, lsS]); refine wpAnyH_ready (rs := [12]) (by kernel_rfl) (by simp) ?_; refine AllReadyH.cons rfl (fun K hK => ?_) AllReadyH.nil; go_simp; have O3 : Own w2.heap.size 5 1 byEnc (World.drew (World.alloc w2 (.cells #[.int .u8 4, .int .u8 1, .int .u8 0, .int .u8 (IntKind.u8.wrap (IntKind.u8.wrap ((if dur = true then 1 else 0) + if red = true then 2 else 0) + if key.toList = [] then 0 else 4))] 5))) (.slice (some ⟨w2.heap.size, 0, none⟩) 4 4) [4, 1, 0, f1] := (Own.byte4 w2 4 1 0 f1 4 1 0 (IntKind.u8.wrap (IntKind.u8.wrap ((if dur = true then 1 else 0) + if red = true then 2 else 0) + if key.toList = [] then 0 else 4)) rfl rfl rfl hfl.out (Nat.le_refl _)).drew; have hb : Below w2.heap.size w2 (World.drew (World.alloc w2 (.cells #[.int .u8 4, .int .u8 1, .int .u8 0, .int .u8 (IntKind.u8.wrap (IntKind.u8.wrap ((if dur = true then 1 else 0) + if red = true then 2 else 0) + if key.toList = [] then 0 else 4))] 5))) := below_dr ((Below.refl w2.heap.size w2).alloc (Nat.le_refl _) _); clear hfl; refine hK.out _ _ hb (fun hHeld => ?_); clear hK K; (try simp only [Act.put, lsT, lsZ, lsS]); refine wpAnyH_ready (rs := [15]) (by kernel_rfl) (by simp) ?_; refine AllReadyH.cons rfl (fun K hK => ?_) AllReadyH.nil; go_simp; go_at_call 103
  (with_reducible refine (d9text_any w2.heap.size _ _ [4, 1, 0, f1] key O3 hb.size hkey.out (by unfold Big; simp)).mono ?_)
  rintro e w3 ⟨r3, rfl, O4, hB3⟩; have hb := hb.trans hB3; refine hK.out _ _ hb (fun hHeld => ?_); clear hK K; (try simp only [Act.put, lsT, lsZ, lsS]); refine wpAnyH_ready (rs := [16]) (by kernel_rfl) (by simp) ?_; refine AllReadyH.cons rfl (fun K hK => ?_) AllReadyH.nil; go_simp; go_at_call 102
  (with_reducible refine (d9part_any _ _ _ (O4.slc byEnc_len) (by have h1 := stx_len key; have h2 := hkey.out; simp only [List.length_append, List.length_cons, List.length_nil]; omega)).mono ?_)
  rintro e w4 ⟨he, hB4⟩; rw [hs1h.out] at he; subst he; have hb := hb.trans (hB4.mono hb.size); refine hK.out _ _ hb (fun hHeld => ?_); clear hK K; (try simp only [Act.put, lsT, lsZ, lsS]); refine wpAnyH_ready (rs := [17]) (by kernel_rfl) (by simp) ?_; refine AllReadyH.cons rfl (fun K hK => ?_) AllReadyH.nil; go_simp; refine hK.out _ _ hb (fun hHeld => ?_); clear hK K; (try simp only [Act.put, lsT, lsZ, lsS]); refine wpAnyH_done (by kernel_rfl) ?_ _; have hT4 := hB12.trans (hb.mono hB12.size); have A4 := A2.pure hb; have R4 := R2.pure hb; have hs1z := Lib.hid (show s1.size ≤ 400 by rw [← hs1h.out]; show (part ([4, 1, 0, f1] ++ stx key)).length ≤ 400; have h1 := stx_len key; have h2 := hkey.out; rw [part_len]; simp only [List.length_append, List.length_cons, List.length_nil]; omega); have htx := Lib.hid (show px.text = ⟨((part ([4, 1, 0, f1] ++ stx key)) ++ (if fl2 px = 0 then [] else part (body2 px))).toArray⟩ by unfold Pr.text Pr.bytes; rw [hb1.out]); have hf2 := Lib.hid (show fl2 px = (if mid.size = 0 then 0 else 1) + (if tk = 168 then 2 else 0) by rw [hpxh.out]; unfold fl2; simp only [(vkind : (VT.mk tk tn ts (.slice tka tks.length tkc) (.slice tla tl.length tlc) tks tl).v.kind = tk)]); have hb2 := Lib.hid (show body2 px = [4, 3, 0, UInt8.ofNat (fl2 px)] ++ stx mid ++ (if tk = 168 then (VT.mk tk tn ts (.slice tka tks.length tkc) (.slice tla tl.length tlc) tks tl).v.bytes else []) by rw [hpxh.out]; unfold body2; simp only [(vkind : (VT.mk tk tn ts (.slice tka tks.length tkc) (.slice tla tl.length tlc) tks tl).v.kind = tk)]); clear hA2 hb hB4 O4 hB3 A2 R2 hB1 A1 R1 hB2 hB12 hb1; generalize (if dur = true then (1 : Int) else 0) = x1; generalize (if red = true then (2 : Int) else 0) = x2; generalize (if key.toList = [] then (0 : Int) else 4) = x3; have a0 := A4.at 0 rfl; have a1 := A4.at 1 rfl; have a2 := A4.at 2 rfl; have a3 := A4.at 3 rfl; have a4 := A4.at 4 rfl; have a5 := A4.at 5 rfl; have a6 := A4.at 6 rfl; have a7 := A4.at 7 rfl; have a8 := A4.at 8 rfl; by_cases hk : tk = 168
  · subst hk
    have hav := Lib.hid (show (VT.mk 168 tn ts (.slice tka tks.length tkc) (.slice tla tl.length tlc) tks tl).v.chk = 0 by
      rcases happ.out with e | e
      · have := congrArg V.kind e; rw [vkind] at this; exact absurd this (by decide)
      · exact e.2)
    by_cases hm : mid.size = 0
    focus
      obtain rfl : mid = ⟨#[]⟩ := size0 hm; have hm0 := Lib.hid hm; clear hm; have hf3 := Lib.hid (show fl2 px = 2 by rw [hf2.out]; rw [if_pos hm0.out, if_pos rfl]); obtain ⟨xt, hxt⟩ : ∃ xt, (VT.v (VT.mk 168 tn ts (.slice tka tks.length tkc) (.slice tla tl.length tlc) tks tl)).bytes = xt := ⟨_, rfl⟩
      have hxth := Lib.hid hxt; have hb3 := Lib.hid (show body2 px = ([4, 3, 0, 2] ++ stx ⟨#[]⟩) ++ xt by rw [hb2.out, hf3.out]; rw [if_pos rfl, ← hxt]; rfl); have hfin := Lib.hid (show px.text = s1 ++ ⟨(part (body2 px)).toArray⟩ by rw [htx.out, if_neg (by rw [hf3.out]; decide), ← hs1h.out, ba_app]); clear hm0 ; clear hxt; go_upto_region 7 with fail; have hA4 := Lib.hid (fun (u : World) (h : Below w4.heap.size w4 u) => A4.pure h); have R4h := Lib.hid (fun (u : World) (h : Below w4.heap.size w4 u) => R4.pure h); clear a0 a1 a2 a3 a4 a5 a6 a7 a8; have hb := below_refl_dr w4; refine wp_region_held_drew (S := fun u => Below w4.heap.size w4 u) (by kernel_rfl) hb (fun hHeld => ?_); refine takeY 0 39 rfl rfl (v := ?_) ?_ hHeld ?_
      rotate_left 1
      · (intro u hSw; (try dsimp only at hSw); clear hSw; go_simp; (try with_reducible rfl))
      (try simp only [Act.put, lsT, lsZ, lsS]); refine takeY 1 40 rfl rfl (v := ?_) ?_ hHeld ?_
      rotate_left 1
      · (intro u hSw; (try dsimp only at hSw); have q := hA4.out u hSw; have qc := q.at 3 rfl; clear hSw; go_simp; (try with_reducible rfl))
      (try simp only [Act.put, lsT, lsZ, lsS]); refine takeY 2 41 rfl rfl (v := ?_) ?_ hHeld ?_
      rotate_left 1
      · (intro u hSw; (try dsimp only at hSw); clear hSw; go_simp; (try with_reducible rfl))
      (try simp only [Act.put, lsT, lsZ, lsS]); refine takeY 4 43 rfl rfl (v := ?_) ?_ hHeld ?_
      rotate_left 1
      · (intro u hSw; (try dsimp only at hSw); clear hSw; go_simp; (try with_reducible rfl))
      (try simp only [Act.put, lsT, lsZ, lsS]); refine takeY 8 47 rfl rfl (v := ?_) ?_ hHeld ?_
      rotate_left 1
      · (intro u hSw; (try dsimp only at hSw); clear hSw; go_simp; (try with_reducible rfl))
      (try simp only [Act.put, lsT, lsZ, lsS]); refine takeY 9 48 rfl rfl (v := ?_) ?_ hHeld ?_
      rotate_left 1
      · (intro u hSw; (try dsimp only at hSw); have q := hA4.out u hSw; have qc := q.at 3 rfl; clear hSw; go_simp; (try with_reducible rfl))
      (try simp only [Act.put, lsT, lsZ, lsS]); refine wpAnyH_ready (rs := [3]) (by kernel_rfl) (by simp) ?_; refine AllReadyH.cons rfl (fun K hK => ?_) AllReadyH.nil; go_simp; go_at_call 104
      (with_reducible refine (d9flag_any _ _ _).mono ?_)
      rintro e w5 ⟨rfl, rfl⟩; refine hK.out _ _ hb (fun hHeld => ?_); clear hK K; (try simp only [Act.put, lsT, lsZ, lsS]); refine wpAnyH_ready (rs := [5]) (by kernel_rfl) (by simp) ?_; refine AllReadyH.cons rfl (fun K hK => ?_) AllReadyH.nil; go_simp; go_at_call 104
      (with_reducible refine (d9flag_any _ _ _).mono ?_)
      rintro e w5 ⟨rfl, rfl⟩; refine hK.out _ _ hb (fun hHeld => ?_); clear hK K; (try simp only [Act.put, lsT, lsZ, lsS]); refine takeY 6 45 rfl rfl (v := ?_) ?_ hHeld ?_
      rotate_left 1
      · (intro u hSw; (try dsimp only at hSw); clear hSw; go_simp; (try with_reducible rfl))
      (try simp only [Act.put, lsT, lsZ, lsS]); refine wpAnyH_ready (rs := [7]) (by kernel_rfl) (by simp) ?_; refine AllReadyH.cons rfl (fun K hK => ?_) AllReadyH.nil; go_simp; have O5 : Own w4.heap.size 5 1 byEnc (World.drew (World.alloc w4 (.cells #[.int .u8 4, .int .u8 3, .int .u8 0, .int .u8 (IntKind.u8.wrap 2)] 5))) (.slice (some ⟨w4.heap.size, 0, none⟩) 4 4) [4, 3, 0, 2] := (Own.byte4 w4 4 3 0 2 4 3 0 (IntKind.u8.wrap 2) rfl rfl rfl rfl (Nat.le_refl _)).drew; have hb : Below w4.heap.size w4 (World.drew (World.alloc w4 (.cells #[.int .u8 4, .int .u8 3, .int .u8 0, .int .u8 (IntKind.u8.wrap 2)] 5))) := below_dr ((Below.refl w4.heap.size w4).alloc (Nat.le_refl _) _); refine hK.out _ _ hb (fun hHeld => ?_); clear hK K; (try simp only [Act.put, lsT, lsZ, lsS]); refine wpAnyH_ready (rs := [10]) (by kernel_rfl) (by simp) ?_; refine AllReadyH.cons rfl (fun K hK => ?_) AllReadyH.nil; go_simp; go_at_call 103
      (with_reducible refine (d9text_any w4.heap.size _ _ [4, 3, 0, 2] ⟨#[]⟩ O5 hb.size hmid.out (by unfold Big; simp)).mono ?_)
      rintro e w6 ⟨r6, rfl, O6, hB6⟩; have hb := hb.trans hB6; refine hK.out _ _ hb (fun hHeld => ?_); clear hK K; (try simp only [Act.put, lsT, lsZ, lsS]); refine wpAnyH_ready (rs := [11]) (by kernel_rfl) (by simp) ?_; refine AllReadyH.cons rfl (fun K hK => ?_) AllReadyH.nil; go_simp; refine hK.out _ _ hb (fun hHeld => ?_); clear hK K; (try simp only [Act.put, lsT, lsZ, lsS]); refine wpAnyH_done (by kernel_rfl) ?_ _; obtain ⟨qa, qc, rfl⟩ := own_lenB O6; have A6 := hA4.out _ hb; have R6 := R4h.out _ hb; have hln := Lib.hid (show ([4, 3, 0, 2] ++ stx ⟨#[]⟩).length ≤ 300 by have h1 := stx_len ⟨#[]⟩; have h2 := hmid.out; simp only [List.length_append, List.length_cons, List.length_nil]; omega); obtain ⟨l6, hl6⟩ : ∃ l6, [4, 3, 0, 2] ++ stx ⟨#[]⟩ = l6 := ⟨_, rfl⟩
      have hl6e := Lib.hid hl6; rw [hl6] at O6 hln hb3 ⊢; have hl7 : (4 :: 3 :: 0 :: 2 :: stx ⟨#[]⟩).length = l6.length := by rw [← hl6]; rfl
    rotate_left 1
    focus
      have h1 : ¬ mid.toList = [] := fun e => hm (by rw [← toList_len, e]; rfl)
      have h2 := empty_no (show 0 < mid.size by omega); have hm0 := Lib.hid hm; clear hm; have hf3 := Lib.hid (show fl2 px = 3 by rw [hf2.out]; rw [if_neg hm0.out, if_pos rfl]); obtain ⟨xt, hxt⟩ : ∃ xt, (VT.v (VT.mk 168 tn ts (.slice tka tks.length tkc) (.slice tla tl.length tlc) tks tl)).bytes = xt := ⟨_, rfl⟩
      have hxth := Lib.hid hxt; have hb3 := Lib.hid (show body2 px = ([4, 3, 0, 3] ++ stx mid) ++ xt by rw [hb2.out, hf3.out]; rw [if_pos rfl, ← hxt]; rfl); have hfin := Lib.hid (show px.text = s1 ++ ⟨(part (body2 px)).toArray⟩ by rw [htx.out, if_neg (by rw [hf3.out]; decide), ← hs1h.out, ba_app]); clear hm0 ; clear hxt; go_upto_region 7 with fail; have hA4 := Lib.hid (fun (u : World) (h : Below w4.heap.size w4 u) => A4.pure h); have R4h := Lib.hid (fun (u : World) (h : Below w4.heap.size w4 u) => R4.pure h); clear a0 a1 a2 a3 a4 a5 a6 a7 a8; have hb := below_refl_dr w4; refine wp_region_held_drew (S := fun u => Below w4.heap.size w4 u) (by kernel_rfl) hb (fun hHeld => ?_); refine takeY 0 39 rfl rfl (v := ?_) ?_ hHeld ?_
      rotate_left 1
      · (intro u hSw; (try dsimp only at hSw); clear hSw; go_simp; (try with_reducible rfl))
      (try simp only [Act.put, lsT, lsZ, lsS]); refine takeY 1 40 rfl rfl (v := ?_) ?_ hHeld ?_
      rotate_left 1
      · (intro u hSw; (try dsimp only at hSw); have q := hA4.out u hSw; have qc := q.at 3 rfl; clear hSw; go_simp; (try with_reducible rfl))
      (try simp only [Act.put, lsT, lsZ, lsS]); refine takeY 2 41 rfl rfl (v := ?_) ?_ hHeld ?_
      rotate_left 1
      · (intro u hSw; (try dsimp only at hSw); clear hSw; go_simp; (try with_reducible rfl))
      (try simp only [Act.put, lsT, lsZ, lsS]); refine takeY 4 43 rfl rfl (v := ?_) ?_ hHeld ?_
      rotate_left 1
      · (intro u hSw; (try dsimp only at hSw); clear hSw; go_simp; (try with_reducible rfl))
      (try simp only [Act.put, lsT, lsZ, lsS]); refine takeY 8 47 rfl rfl (v := ?_) ?_ hHeld ?_
      rotate_left 1
      · (intro u hSw; (try dsimp only at hSw); clear hSw; go_simp; (try with_reducible rfl))
      (try simp only [Act.put, lsT, lsZ, lsS]); refine takeY 9 48 rfl rfl (v := ?_) ?_ hHeld ?_
      rotate_left 1
      · (intro u hSw; (try dsimp only at hSw); have q := hA4.out u hSw; have qc := q.at 3 rfl; clear hSw; go_simp; (try with_reducible rfl))
      (try simp only [Act.put, lsT, lsZ, lsS]); refine wpAnyH_ready (rs := [3]) (by kernel_rfl) (by simp) ?_; refine AllReadyH.cons rfl (fun K hK => ?_) AllReadyH.nil; go_simp; go_at_call 104
      (with_reducible refine (d9flag_any _ _ _).mono ?_)
      rintro e w5 ⟨rfl, rfl⟩; refine hK.out _ _ hb (fun hHeld => ?_); clear hK K; (try simp only [Act.put, lsT, lsZ, lsS]); refine wpAnyH_ready (rs := [5]) (by kernel_rfl) (by simp) ?_; refine AllReadyH.cons rfl (fun K hK => ?_) AllReadyH.nil; go_simp; go_at_call 104
      (with_reducible refine (d9flag_any _ _ _).mono ?_)
      rintro e w5 ⟨rfl, rfl⟩; refine hK.out _ _ hb (fun hHeld => ?_); clear hK K; (try simp only [Act.put, lsT, lsZ, lsS]); refine takeY 6 45 rfl rfl (v := ?_) ?_ hHeld ?_
      rotate_left 1
      · (intro u hSw; (try dsimp only at hSw); clear hSw; go_simp; (try with_reducible rfl))
      (try simp only [Act.put, lsT, lsZ, lsS]); refine wpAnyH_ready (rs := [7]) (by kernel_rfl) (by simp) ?_; refine AllReadyH.cons rfl (fun K hK => ?_) AllReadyH.nil; go_simp; have O5 : Own w4.heap.size 5 1 byEnc (World.drew (World.alloc w4 (.cells #[.int .u8 4, .int .u8 3, .int .u8 0, .int .u8 (IntKind.u8.wrap 3)] 5))) (.slice (some ⟨w4.heap.size, 0, none⟩) 4 4) [4, 3, 0, 3] := (Own.byte4 w4 4 3 0 3 4 3 0 (IntKind.u8.wrap 3) rfl rfl rfl rfl (Nat.le_refl _)).drew; have hb : Below w4.heap.size w4 (World.drew (World.alloc w4 (.cells #[.int .u8 4, .int .u8 3, .int .u8 0, .int .u8 (IntKind.u8.wrap 3)] 5))) := below_dr ((Below.refl w4.heap.size w4).alloc (Nat.le_refl _) _); refine hK.out _ _ hb (fun hHeld => ?_); clear hK K; (try simp only [Act.put, lsT, lsZ, lsS]); refine wpAnyH_ready (rs := [10]) (by kernel_rfl) (by simp) ?_; refine AllReadyH.cons rfl (fun K hK => ?_) AllReadyH.nil; go_simp; go_at_call 103
      (with_reducible refine (d9text_any w4.heap.size _ _ [4, 3, 0, 3] mid O5 hb.size hmid.out (by unfold Big; simp)).mono ?_)
      rintro e w6 ⟨r6, rfl, O6, hB6⟩; have hb := hb.trans hB6; refine hK.out _ _ hb (fun hHeld => ?_); clear hK K; (try simp only [Act.put, lsT, lsZ, lsS]); refine wpAnyH_ready (rs := [11]) (by kernel_rfl) (by simp) ?_; refine AllReadyH.cons rfl (fun K hK => ?_) AllReadyH.nil; go_simp; refine hK.out _ _ hb (fun hHeld => ?_); clear hK K; (try simp only [Act.put, lsT, lsZ, lsS]); refine wpAnyH_done (by kernel_rfl) ?_ _; obtain ⟨qa, qc, rfl⟩ := own_lenB O6; have A6 := hA4.out _ hb; have R6 := R4h.out _ hb; have hln := Lib.hid (show ([4, 3, 0, 3] ++ stx mid).length ≤ 300 by have h1 := stx_len mid; have h2 := hmid.out; simp only [List.length_append, List.length_cons, List.length_nil]; omega); obtain ⟨l6, hl6⟩ : ∃ l6, [4, 3, 0, 3] ++ stx mid = l6 := ⟨_, rfl⟩
      have hl6e := Lib.hid hl6; rw [hl6] at O6 hln hb3 ⊢; have hl7 : (4 :: 3 :: 0 :: 3 :: stx mid).length = l6.length := by rw [← hl6]; rfl
    rotate_left 1
    all_goals
      try rw [hl7] at O6 ⊢
      clear hl6 hl7; have a0 := A6.at 0 rfl; have a1 := A6.at 1 rfl; have a2 := A6.at 2 rfl; have a3 := A6.at 3 rfl; have a4 := A6.at 4 rfl; have a5 := A6.at 5 rfl; have a6 := A6.at 6 rfl; have a7 := A6.at 7 rfl; have a8 := A6.at 8 rfl; obtain ⟨-, hcn, hmay⟩ := chk_zero hav.out; have hlb := Lib.hid (show xt.length ≤ 1000000 by have h4 := bytes_len _ hmay 200 hcn; rw [hxth.out] at h4; omega); have hmayh := Lib.hid hmay; have hbig := Lib.hid (show Big ((VT.mk 168 tn ts (.slice tka tks.length tkc) (.slice tla tl.length tlc) tks tl).v.bytes.length + 100) by have h4 := hlb.out; rw [hxth.out]; unfold Big; omega); have hpl := Lib.hid (show (l6 ++ xt).length ≤ 2000000 by have h4 := hlb.out; have h5 := hln.out; rw [List.length_append]; omega); have hadd : ¬ 9223372036854775807 < s1.size + (part (l6 ++ xt)).length := by have h1 := hs1z.out; have h2 := hpl.out; rw [part_len]; omega
      have hby := dbytes_any (VT.mk 168 tn ts (.slice tka tks.length tkc) (.slice tla tl.length tlc) tks tl) _ _ R6 hmayh.out hbig.out; rw [VT.arg_mk, hxth.out] at hby; have hbyh := Lib.hid hby; clear hcn hmay hby; go_wp2_with (first | (go_at_call 105; (with_reducible refine (hbyh.out).mono ?_); rintro e w7 ⟨r7, rfl, O7, hB7⟩; obtain ⟨ra, rc, rfl⟩ := own_lenB O7; have P7 := O6.pure hB7; have hbb := hb.trans (hB7.mono hb.size)) | (at_builtin; refine wpList_app (base := w4.heap.size) rfl (.tmp 51) (.tmp 54) 114 5 rfl elem_by byEnc_len byEnc_one _ l6 rfl P7 _ xt rfl (O7.slc byEnc_len) (by have := hln.out; have := hlb.out; unfold maxLen; omega) (by have := hln.out; have := hlb.out; omega) hbb.size ?_; intro v8 w8 hO8 hgr8 hfr8 hsh8; have hbx := hbb.grown hgr8 hbb.size (fun j e => P7.ge e); obtain ⟨va8, vc8, rfl⟩ := own_lenB hO8; rw [List.length_append] at hO8) | (go_at_call 102; (with_reducible refine (d9part_any _ _ _ (hO8.slc byEnc_len) hpl.out).mono ?_); rintro e w9 ⟨rfl, hB9⟩; have hb9 := hbx.trans (hB9.mono hbx.size))); go_ret2; exact ⟨by rw [hfin.out, hb3.out]; rfl, hT4.trans (hb9.mono hT4.size)⟩
  · have h3 : decide (tk = 168) = false := decide_eq_false hk; have h4 : (tk == 168) = false := beq_eq_false_iff_ne.2 hk; have hk0 := Lib.hid hk; clear hk; by_cases hm : mid.size = 0
    · obtain rfl : mid = ⟨#[]⟩ := size0 hm; have hm0 := Lib.hid hm; clear hm; have hfin := Lib.hid (show px.text = s1 by rw [htx.out, hf2.out]; rw [if_pos (show (if (⟨#[]⟩ : ByteArray).size = 0 then 0 else 1) + (if tk = 168 then 2 else 0) = 0 by rw [if_pos hm0.out, if_neg hk0.out]), List.append_nil]; exact hs1h.out); clear hm0 hk0; go_wp2; go_ret2; exact ⟨by rw [hfin.out]; rfl, hT4⟩
    · have h1 : ¬ mid.toList = [] := fun e => hm (by rw [← toList_len, e]; rfl)
      have h2 := empty_no (show 0 < mid.size by omega); have hm0 := Lib.hid hm; clear hm; have hf3 := Lib.hid (show fl2 px = 1 by rw [hf2.out]; rw [if_neg hm0.out, if_neg hk0.out]); obtain ⟨xt, hxt⟩ : ∃ xt, ([] : List UInt8) = xt := ⟨_, rfl⟩
      have hxth := Lib.hid hxt; have hb3 := Lib.hid (show body2 px = ([4, 3, 0, 1] ++ stx mid) ++ xt by rw [hb2.out, hf3.out]; rw [if_neg hk0.out, ← hxt]; rfl); have hfin := Lib.hid (show px.text = s1 ++ ⟨(part (body2 px)).toArray⟩ by rw [htx.out, if_neg (by rw [hf3.out]; decide), ← hs1h.out, ba_app]); clear hm0 hk0; clear hxt; go_upto_region 7 with fail; have hA4 := Lib.hid (fun (u : World) (h : Below w4.heap.size w4 u) => A4.pure h); have R4h := Lib.hid (fun (u : World) (h : Below w4.heap.size w4 u) => R4.pure h); clear a0 a1 a2 a3 a4 a5 a6 a7 a8; have hb := below_refl_dr w4; refine wp_region_held_drew (S := fun u => Below w4.heap.size w4 u) (by kernel_rfl) hb (fun hHeld => ?_); refine takeY 0 39 rfl rfl (v := ?_) ?_ hHeld ?_
      rotate_left 1
      · (intro u hSw; (try dsimp only at hSw); clear hSw; go_simp; (try with_reducible rfl))
      (try simp only [Act.put, lsT, lsZ, lsS]); refine takeY 1 40 rfl rfl (v := ?_) ?_ hHeld ?_
      rotate_left 1
      · (intro u hSw; (try dsimp only at hSw); have q := hA4.out u hSw; have qc := q.at 3 rfl; clear hSw; go_simp; (try with_reducible rfl))
      (try simp only [Act.put, lsT, lsZ, lsS]); refine takeY 2 41 rfl rfl (v := ?_) ?_ hHeld ?_
      rotate_left 1
      · (intro u hSw; (try dsimp only at hSw); clear hSw; go_simp; (try with_reducible rfl))
      (try simp only [Act.put, lsT, lsZ, lsS]); refine takeY 4 43 rfl rfl (v := ?_) ?_ hHeld ?_
      rotate_left 1
      · (intro u hSw; (try dsimp only at hSw); clear hSw; go_simp; (try with_reducible rfl))
      (try simp only [Act.put, lsT, lsZ, lsS]); refine takeY 8 47 rfl rfl (v := ?_) ?_ hHeld ?_
      rotate_left 1
      · (intro u hSw; (try dsimp only at hSw); clear hSw; go_simp; (try with_reducible rfl))
      (try simp only [Act.put, lsT, lsZ, lsS]); refine takeY 9 48 rfl rfl (v := ?_) ?_ hHeld ?_
      rotate_left 1
      · (intro u hSw; (try dsimp only at hSw); have q := hA4.out u hSw; have qc := q.at 3 rfl; clear hSw; go_simp; (try with_reducible rfl))
      (try simp only [Act.put, lsT, lsZ, lsS]); refine wpAnyH_ready (rs := [3]) (by kernel_rfl) (by simp) ?_; refine AllReadyH.cons rfl (fun K hK => ?_) AllReadyH.nil; go_simp; go_at_call 104
      (with_reducible refine (d9flag_any _ _ _).mono ?_)
      rintro e w5 ⟨rfl, rfl⟩; refine hK.out _ _ hb (fun hHeld => ?_); clear hK K; (try simp only [Act.put, lsT, lsZ, lsS]); refine wpAnyH_ready (rs := [5]) (by kernel_rfl) (by simp) ?_; refine AllReadyH.cons rfl (fun K hK => ?_) AllReadyH.nil; go_simp; go_at_call 104
      (with_reducible refine (d9flag_any _ _ _).mono ?_)
      rintro e w5 ⟨rfl, rfl⟩; refine hK.out _ _ hb (fun hHeld => ?_); clear hK K; (try simp only [Act.put, lsT, lsZ, lsS]); refine takeY 6 45 rfl rfl (v := ?_) ?_ hHeld ?_
      rotate_left 1
      · (intro u hSw; (try dsimp only at hSw); clear hSw; go_simp; (try with_reducible rfl))
      (try simp only [Act.put, lsT, lsZ, lsS]); refine wpAnyH_ready (rs := [7]) (by kernel_rfl) (by simp) ?_; refine AllReadyH.cons rfl (fun K hK => ?_) AllReadyH.nil; go_simp; have O5 : Own w4.heap.size 5 1 byEnc (World.drew (World.alloc w4 (.cells #[.int .u8 4, .int .u8 3, .int .u8 0, .int .u8 (IntKind.u8.wrap 1)] 5))) (.slice (some ⟨w4.heap.size, 0, none⟩) 4 4) [4, 3, 0, 1] := (Own.byte4 w4 4 3 0 1 4 3 0 (IntKind.u8.wrap 1) rfl rfl rfl rfl (Nat.le_refl _)).drew; have hb : Below w4.heap.size w4 (World.drew (World.alloc w4 (.cells #[.int .u8 4, .int .u8 3, .int .u8 0, .int .u8 (IntKind.u8.wrap 1)] 5))) := below_dr ((Below.refl w4.heap.size w4).alloc (Nat.le_refl _) _); refine hK.out _ _ hb (fun hHeld => ?_); clear hK K; (try simp only [Act.put, lsT, lsZ, lsS]); refine wpAnyH_ready (rs := [10]) (by kernel_rfl) (by simp) ?_; refine AllReadyH.cons rfl (fun K hK => ?_) AllReadyH.nil; go_simp; go_at_call 103
      (with_reducible refine (d9text_any w4.heap.size _ _ [4, 3, 0, 1] mid O5 hb.size hmid.out (by unfold Big; simp)).mono ?_)
      rintro e w6 ⟨r6, rfl, O6, hB6⟩; have hb := hb.trans hB6; refine hK.out _ _ hb (fun hHeld => ?_); clear hK K; (try simp only [Act.put, lsT, lsZ, lsS]); refine wpAnyH_ready (rs := [11]) (by kernel_rfl) (by simp) ?_; refine AllReadyH.cons rfl (fun K hK => ?_) AllReadyH.nil; go_simp; refine hK.out _ _ hb (fun hHeld => ?_); clear hK K; (try simp only [Act.put, lsT, lsZ, lsS]); refine wpAnyH_done (by kernel_rfl) ?_ _; obtain ⟨qa, qc, rfl⟩ := own_lenB O6; have A6 := hA4.out _ hb; have R6 := R4h.out _ hb; have hln := Lib.hid (show ([4, 3, 0, 1] ++ stx mid).length ≤ 300 by have h1 := stx_len mid; have h2 := hmid.out; simp only [List.length_append, List.length_cons, List.length_nil]; omega); obtain ⟨l6, hl6⟩ : ∃ l6, [4, 3, 0, 1] ++ stx mid = l6 := ⟨_, rfl⟩
      have hl6e := Lib.hid hl6; rw [hl6] at O6 hln hb3 ⊢; have hl7 : (4 :: 3 :: 0 :: 1 :: stx mid).length = l6.length := by rw [← hl6]; rfl
      try rw [hl7] at O6 ⊢
      clear hl6 hl7; have a0 := A6.at 0 rfl; have a1 := A6.at 1 rfl; have a2 := A6.at 2 rfl; have a3 := A6.at 3 rfl; have a4 := A6.at 4 rfl; have a5 := A6.at 5 rfl; have a6 := A6.at 6 rfl; have a7 := A6.at 7 rfl; have a8 := A6.at 8 rfl; have hbx := hb; have hpl := Lib.hid (show l6.length ≤ 2000000 by have h5 := hln.out; omega); have hadd : ¬ 9223372036854775807 < s1.size + (part l6).length := by have h1 := hs1z.out; have h2 := hpl.out; rw [part_len]; omega
      go_wp2_with (go_at_call 102; (with_reducible refine (d9part_any _ _ _ (O6.slc byEnc_len) hpl.out).mono ?_); rintro e w9 ⟨rfl, hB9⟩; have hb9 := hbx.trans (hB9.mono hbx.size)); go_ret2; exact ⟨by rw [hfin.out, hb3.out]; rw [← hxth.out, List.append_nil]; rfl, hT4.trans (hb9.mono hT4.size)⟩
end Go.Proofs.YtlonokcaddpniaaGreatDoor
