/- The statement ValueBackCardSaid: whatever its arguments are, the law ValueBack returns true, and leaves its arguments as they were. Conditions: none beyond the statement's own. (Texts joined; the heads of the others stand below.) -/
import Derived.Test.YtokemjpobfjiaaaDoorKL
import Derived.Test.YtokemjpobfjiaaaDoorCards
import Derived.Test.YtokemjpobfjiaaaDoorTie
import Derived.ProofKit
import Derived.OpenShut
import Derived.Deep.DeepHandedRow
import Derived.Lay
import Derived.SevenTiedAt

/- ValueBack: the law's walk. Conditions: utf8's tables are laid. Written by gen_vback.py. -/
namespace Go.Proofs.YtokemjpobfjiaaaDoor
set_option linter.unusedSimpArgs false
set_option linter.unusedVariables false
open Go.RowKit
set_option maxRecDepth 100000 in
set_option maxHeartbeats 12800000 in
theorem valueBack_law (w : World) {x : VT} {y : Value} {L : List UInt8} (hX : Rd (fun i => i < w.heap.size) w x) (hY : Slc byEnc 1 w y L) (hT : Tb w) : Calls Tryd.prog 6 #[x.arg, y] w fun e w' => e = .returned (.bool true) ∧ Below w.heap.size w w' := by
  have hwfx := Lib.hid hX.wf
  obtain ⟨tk, tn, ts, tka, tkc, tla, tlc, tks, tl, rfl, -, -, htk, htl⟩ := hX.open
  rw [VT.arg_mk]
  have hT0 : Below w.heap.size w (w.alloc (.cells #[.int .u8 tk, .int .u64 tn, .string ts, .slice tka tks.length tkc, .slice tla tl.length tlc] 27)) := (Below.refl _ _).alloc (Nat.le_refl _) _
  have R0 := hX.pure hT0
  have A0 := Blk.new w [.int .u8 tk, .int .u64 tn, .string ts, .slice tka tks.length tkc, .slice tla tl.length tlc] 27
  obtain ⟨vx, hvx⟩ : ∃ vx, VT.v (.mk tk tn ts (.slice tka tks.length tkc) (.slice tla tl.length tlc) tks tl) = vx := ⟨_, rfl⟩
  rw [hvx] at hwfx
  have hvh := Lib.hid (show VT.v (.mk tk tn ts (.slice tka tks.length tkc) (.slice tla tl.length tlc) tks tl) = vx from hvx)
  clear hvx htk htl
  have a0 := A0.at 0 rfl; have a1 := A0.at 1 rfl; have a2 := A0.at 2 rfl; have a3 := A0.at 3 rfl; have a4 := A0.at 4 rfl
  obtain ⟨ya, yc, rfl, hm⟩ := hY.len
  have S0 := hY.pure hT0
  clear hX hY hm
  go_enter Tryd.func6, Tryd.ntmps6
  go_wp2_with fail
  have s1 := dSmall_any _ _ _ R0
  rw [VT.arg_mk] at s1
  refine s1.mono ?_
  rintro e w1 ⟨⟨sb, rfl, -⟩, hB1⟩
  have R1 := R0.pure hB1; have A1 := A0.pure hB1; have S1 := S0.pure hB1; have hT1 := hT0.trans (hB1.mono hT0.size)
  clear s1 a0 a1 a2 a3 a4
  have a0 := A1.at 0 rfl; have a1 := A1.at 1 rfl; have a2 := A1.at 2 rfl; have a3 := A1.at 3 rfl; have a4 := A1.at 4 rfl
  cases sb
  · go_wp2_with (go_at_call 10; (with_reducible refine (head_any _ (hT.pure hT1)).mono ?_); rintro e w9 ⟨rfl, hB9⟩; have hF := hT1.trans (hB9.mono hT1.size))
    go_ret
    exact ⟨rfl, hF⟩
  by_cases hn : 10000 < L.length
  · have hn1 : decide ((10000 : Int) < (L.length : Int)) = true := decide_eq_true (by omega)
    have hn2 : (10000 : Int) < (L.length : Int) := by omega
    clear hn
    go_wp2_with (go_at_call 10; (with_reducible refine (head_any _ (hT.pure hT1)).mono ?_); rintro e w9 ⟨rfl, hB9⟩; have hF := hT1.trans (hB9.mono hT1.size))
    go_ret
    exact ⟨rfl, hF⟩
  have hn1 : decide ((10000 : Int) < (L.length : Int)) = false := decide_eq_false (by omega)
  have hn2 : ¬ (10000 : Int) < (L.length : Int) := by omega
  have hLb : Big L.length := by unfold Big; omega
  have hL1 := Lib.hid (show L.length ≤ 10000 by omega)
  have hLh := Lib.hid hLb
  clear hn hLb
  have p1 := fun (u : World) (hR : Rd (fun i => i < w.heap.size) u (.mk tk tn ts (.slice tka tks.length tkc) (.slice tla tl.length tlc) tks tl)) (hT : Tb u) => vput_any _ _ u hR hT
  simp only [VT.arg_mk, hvh.out] at p1
  obtain ⟨cx, hcx⟩ : ∃ cx, vx.chk = cx := ⟨_, rfl⟩
  obtain ⟨bx, hbx⟩ : ∃ bx, (if vx.chk = 0 then vx.bytes else []) = bx := ⟨_, rfl⟩
  rw [hbx] at p1; rw [hcx] at p1
  have hcxh := Lib.hid hcx; have hbxh := Lib.hid hbx
  have p1h := Lib.hid p1
  clear p1 hcx hbx
  by_cases h1 : cx = 0
  rotate_left 1
  · have h2 : (cx == 0) = false := beq_eq_false_iff_ne.2 h1
    clear h1
    go_upto_region 8 with (go_at_call 12; (with_reducible refine (p1h.out _ R1 (hT.pure hT1)).mono ?_); rintro e w2 ⟨r2, rfl, O2, hB2⟩; obtain ⟨Oa, Oc, rfl⟩ := own_lenB O2; have R2 := R1.pure hB2; have A2 := A1.pure hB2; have S2 := S1.pure hB2; have hT2 := hT1.trans (hB2.mono hT1.size))
    clear a0 a1 a2 a3 a4
    rcases hgp : getP L with _ | ⟨x, n⟩
    · have hgh := Lib.hid hgp
      clear hgp
      go_wp2_with (first | (go_at_call 16; (with_reducible refine (pget_one _ _ L S2 hLh.out (hT.pure hT2)).mono ?_); rintro e v1 ⟨uk, un, us, uka, ukc, ula, ulc, uks, ul, he, huv, huR, hC1⟩; rw [hgh.out] at he huv; simp only [getN, getE, getV] at he huv; subst he; have huvh := Lib.hid huv; clear huv; have hD1 := (Below.refl v1.heap.size v1).alloc (Nat.le_refl _) (.cells #[.int .u8 uk, .int .u64 un, .string us, .slice uka uks.length ukc, .slice ula ul.length ulc] 27); have hU1 := (hT2.trans (hC1.mono hT2.size)).trans (hD1.mono (hT2.trans (hC1.mono hT2.size)).size); have uR1 := huR.pure hD1; have uB1 := Blk.new v1 [.int .u8 uk, .int .u64 un, .string us, .slice uka uks.length ukc, .slice ula ul.length ulc] 27; have us1 := (S2.pure hC1).pure hD1; have m0 := uB1.at 0 rfl; have m1 := uB1.at 1 rfl; have m2 := uB1.at 2 rfl; have m3 := uB1.at 3 rfl; have m4 := uB1.at 4 rfl) | (go_at_call 18; refine (psame_yes uR1 (u := VT.zero) (P2 := fun _ => True) VT.zero_rd (by rw [huvh.out, VT.zero_v])).mono ?_; rintro e v2 ⟨rfl, hC2⟩; have hU2 := hU1.trans (hC2.mono hU1.size)) | (go_at_call 10; (with_reducible refine (head_any _ (hT.pure hU2)).mono ?_); rintro e w9 ⟨rfl, hB9⟩; have hF := hU2.trans (hB9.mono hU2.size)))
      go_ret
      exact ⟨rfl, hF⟩
    · have hgh := Lib.hid hgp
      have hgi := getP_inv hgp
      have hgih := Lib.hid hgi
      have hnl : n ≤ L.length := by obtain ⟨-, -, h3, r, h4⟩ := hgi; rw [h3, h4]; simp
      have hnl1 : (n : Int) ≤ (L.length : Int) := by omega
      have hnl2 : ¬ (L.length : Int) < (n : Int) := by omega
      have hnd : decide ((n : Int) ≤ (L.length : Int)) = true := decide_eq_true hnl1
      have htake := Lib.hid (show L.take n = x.bytes by obtain ⟨-, -, h3, r, h4⟩ := hgi; rw [h3, h4]; simp)
      have hcap := slc_cap S2
      have hny : n ≤ yc := Nat.le_trans hnl hcap
      clear hgp hgi
      have p2 := fun (u : World) (t : VT) (ht : t.v = x) (hR : Rd (fun i => w2.heap.size ≤ i) u t) (hT : Tb u) => show Calls Tryd.prog 12 #[t.arg] u (fun e w' => ∃ r, e = .returned (.tuple #[r, .int .i64 0]) ∧ Own u.heap.size 5 1 byEnc w' r x.bytes ∧ Below u.heap.size u w') by
        have h := vput_any t _ u hR hT
        rw [ht, hgih.out.1, if_pos rfl] at h; exact h
      have p2h := Lib.hid p2
      have p3 := fun (u : World) (t : VT) (ht : t.v = x) (hR : Rd (fun i => w2.heap.size ≤ i) u t) (hT : Tb u) => show Calls Tryd.prog 14 #[t.arg] u (fun e w' => e = .returned (.int .i64 0) ∧ Below u.heap.size u w') by
        have h := check_any t _ u hR hT
        rw [ht, hgih.out.1] at h; exact h
      have p3h := Lib.hid p3
      clear p2 p3
      go_upto_region 12 with (first | (go_at_call 16; (with_reducible refine (pget_one _ _ L S2 hLh.out (hT.pure hT2)).mono ?_); rintro e v1 ⟨uk, un, us, uka, ukc, ula, ulc, uks, ul, he, huv, huR, hC1⟩; rw [hgh.out] at he huv; simp only [getN, getE, getV] at he huv; subst he; have huvh := Lib.hid huv; clear huv; have hD1 := (Below.refl v1.heap.size v1).alloc (Nat.le_refl _) (.cells #[.int .u8 uk, .int .u64 un, .string us, .slice uka uks.length ukc, .slice ula ul.length ulc] 27); have hU1 := (hT2.trans (hC1.mono hT2.size)).trans (hD1.mono (hT2.trans (hC1.mono hT2.size)).size); have uR1 := huR.pure hD1; have uB1 := Blk.new v1 [.int .u8 uk, .int .u64 un, .string us, .slice uka uks.length ukc, .slice ula ul.length ulc] 27; have us1 := (S2.pure hC1).pure hD1; have m0 := uB1.at 0 rfl; have m1 := uB1.at 1 rfl; have m2 := uB1.at 2 rfl; have m3 := uB1.at 3 rfl; have m4 := uB1.at 4 rfl) | (go_at_call 12; refine (p2h.out _ (.mk uk un us (.slice uka uks.length ukc) (.slice ula ul.length ulc) uks ul) huvh.out uR1 (hT.pure hU1)).mono ?_; rintro e v2 ⟨r2, rfl, O2, hC2⟩; obtain ⟨Oa, Oc, rfl⟩ := own_lenB O2; have hU2 := hU1.trans (hC2.mono hU1.size); have uR2 := uR1.pure hC2; have uB2 := uB1.pure hC2; have us2 := us1.pure hC2))
      have O2s := O2.slc byEnc_len
      obtain ⟨s1, hs1⟩ : ∃ s1 : ByteArray, (⟨x.bytes.toArray⟩ : ByteArray) = s1 := ⟨_, rfl⟩
      have us3 := slc_take us2 hnl
      have cv1 := Lib.hid (fun (u : World) (h : Below v2.heap.size v2 u) => show (convert 31 9 (.slice Oa x.bytes.length Oc)).run Tryd.prog u = .ok (.string s1) u by rw [← hs1]; exact conv_str u _ _ (O2s.pure h))
      have cv2 := Lib.hid (fun (u : World) (h : Below v2.heap.size v2 u) => show (convert 31 9 (.slice ya n yc)).run Tryd.prog u = .ok (.string s1) u by rw [← hs1, ← htake.out]; exact conv_str u _ _ (us3.pure h))
      have hAll := Lib.hid (fun (u : World) (h : Below v2.heap.size v2 u) => uB2.pure h)
      clear hs1 us3
      have hb := below_refl_dr v2
      refine wp_region_held_drew (S := fun u => Below v2.heap.size v2 u) (by kernel_rfl) hb (fun hHeld => ?_)
      refine takeY 0 81 rfl rfl (v := ?_) ?_ hHeld ?_
      rotate_left 1
      · (intro u hSw; (try dsimp only at hSw); clear hSw; go_simp; (try with_reducible rfl))
      try simp only [Act.put, lsT, lsZ, lsS]
      refine takeY 1 82 rfl rfl (v := ?_) ?_ hHeld ?_
      rotate_left 1
      · (intro u hSw; (try dsimp only at hSw); clear hSw; go_simp; (try with_reducible rfl))
      try simp only [Act.put, lsT, lsZ, lsS]
      refine takeY 2 83 rfl rfl (v := ?_) ?_ hHeld ?_
      rotate_left 1
      · (intro u hSw; (try dsimp only at hSw); clear hSw; go_simp; (try with_reducible rfl))
      try simp only [Act.put, lsT, lsZ, lsS]
      refine takeY 3 84 rfl rfl (v := ?_) ?_ hHeld ?_
      rotate_left 1
      · (intro u hSw; (try dsimp only at hSw); clear hSw; go_simp; (try with_reducible rfl))
      try simp only [Act.put, lsT, lsZ, lsS]
      refine takeY 4 85 rfl rfl (v := ?_) ?_ hHeld ?_
      rotate_left 1
      · (intro u hSw; (try dsimp only at hSw); clear hSw; go_simp; (try with_reducible rfl))
      try simp only [Act.put, lsT, lsZ, lsS]
      refine takeY 5 86 rfl rfl (v := ?_) ?_ hHeld ?_
      rotate_left 1
      · (intro u hSw; (try dsimp only at hSw); clear hSw; go_simp; (try with_reducible rfl))
      try simp only [Act.put, lsT, lsZ, lsS]
      refine takeY 6 87 rfl rfl (v := ?_) ?_ hHeld ?_
      rotate_left 1
      · (intro u hSw; (try dsimp only at hSw); clear hSw; go_simp; (try with_reducible rfl))
      try simp only [Act.put, lsT, lsZ, lsS]
      refine takeY 7 88 rfl rfl (v := ?_) ?_ hHeld ?_
      rotate_left 1
      · (intro u hSw; (try dsimp only at hSw); clear hSw; go_simp; (try with_reducible rfl))
      try simp only [Act.put, lsT, lsZ, lsS]
      refine takeY 8 89 rfl rfl (v := ?_) ?_ hHeld ?_
      rotate_left 1
      · (intro u hSw; (try dsimp only at hSw); clear hSw; go_simp; (try with_reducible rfl))
      try simp only [Act.put, lsT, lsZ, lsS]
      refine takeY 9 90 rfl rfl (v := ?_) ?_ hHeld ?_
      rotate_left 1
      · (intro u hSw; (try dsimp only at hSw); clear hSw; go_simp; (try with_reducible rfl))
      try simp only [Act.put, lsT, lsZ, lsS]
      refine takeY 10 91 rfl rfl (v := ?_) ?_ hHeld ?_
      rotate_left 1
      · (intro u hSw; (try dsimp only at hSw); have k := cv1.out u hSw; clear hSw; go_simp; (try with_reducible rfl))
      try simp only [Act.put, lsT, lsZ, lsS]
      refine takeY 11 92 rfl rfl (v := ?_) ?_ hHeld ?_
      rotate_left 1
      · (intro u hSw; (try dsimp only at hSw); clear hSw; go_simp; (try with_reducible rfl))
      try simp only [Act.put, lsT, lsZ, lsS]
      refine takeY 12 93 rfl rfl (v := ?_) ?_ hHeld ?_
      rotate_left 1
      · (intro u hSw; (try dsimp only at hSw); clear hSw; go_simp; (try with_reducible rfl))
      try simp only [Act.put, lsT, lsZ, lsS]
      refine takeY 13 94 rfl rfl (v := ?_) ?_ hHeld ?_
      rotate_left 1
      · (intro u hSw; (try dsimp only at hSw); have e := hny; clear hSw; go_simp; (try with_reducible rfl))
      try simp only [Act.put, lsT, lsZ, lsS]
      refine takeY 14 95 rfl rfl (v := ?_) ?_ hHeld ?_
      rotate_left 1
      · (intro u hSw; (try dsimp only at hSw); have k := cv2.out u hSw; clear hSw; go_simp; (try with_reducible rfl))
      try simp only [Act.put, lsT, lsZ, lsS]
      refine takeY 15 96 rfl rfl (v := ?_) ?_ hHeld ?_
      rotate_left 1
      · (intro u hSw; (try dsimp only at hSw); clear hSw; go_simp; (try with_reducible rfl))
      try simp only [Act.put, lsT, lsZ, lsS]
      refine takeY 16 97 rfl rfl (v := ?_) ?_ hHeld ?_
      rotate_left 1
      · (intro u hSw; (try dsimp only at hSw); clear hSw; go_simp; (try with_reducible rfl))
      try simp only [Act.put, lsT, lsZ, lsS]
      refine takeY 17 98 rfl rfl (v := ?_) ?_ hHeld ?_
      rotate_left 1
      · (intro u hSw; (try dsimp only at hSw); clear hSw; go_simp; (try with_reducible rfl))
      try simp only [Act.put, lsT, lsZ, lsS]
      refine takeY 18 99 rfl rfl (v := ?_) ?_ hHeld ?_
      rotate_left 1
      · (intro u hSw; (try dsimp only at hSw); have q := hAll.out u hSw; have m0 := q.at 0 rfl; have m1 := q.at 1 rfl; have m2 := q.at 2 rfl; have m3 := q.at 3 rfl; have m4 := q.at 4 rfl; clear hSw; go_simp; (try with_reducible rfl))
      try simp only [Act.put, lsT, lsZ, lsS]
      refine wpAnyH_ready (rs := [19]) (by kernel_rfl) (by simp) ?_
      refine AllReadyH.cons rfl (fun K hK => ?_) AllReadyH.nil
      go_simp
      go_at_call 14
      refine (p3h.out _ (.mk uk un us (.slice uka uks.length ukc) (.slice ula ul.length ulc) uks ul) huvh.out (uR2.pure hb) (hT.pure (hU2.trans (hb.mono hU2.size)))).mono ?_
      rintro e v3 ⟨rfl, hC3⟩
      have hb := hb.trans (hC3.mono hb.size)
      refine hK.out _ _ hb (fun hHeld => ?_)
      clear hK K
      try simp only [Act.put, lsT, lsZ, lsS]
      refine takeY 20 101 rfl rfl (v := ?_) ?_ hHeld ?_
      rotate_left 1
      · (intro u hSw; (try dsimp only at hSw); clear hSw; go_simp; (try with_reducible rfl))
      try simp only [Act.put, lsT, lsZ, lsS]
      refine takeY 21 102 rfl rfl (v := ?_) ?_ hHeld ?_
      rotate_left 1
      · (intro u hSw; (try dsimp only at hSw); clear hSw; go_simp; (try with_reducible rfl))
      try simp only [Act.put, lsT, lsZ, lsS]
      refine takeY 22 103 rfl rfl (v := ?_) ?_ hHeld ?_
      rotate_left 1
      · (intro u hSw; (try dsimp only at hSw); clear hSw; go_simp; (try with_reducible rfl))
      try simp only [Act.put, lsT, lsZ, lsS]
      refine wpAnyH_ready (rs := [23]) (by kernel_rfl) (by simp) ?_
      refine AllReadyH.cons rfl (fun K hK => ?_) AllReadyH.nil
      go_simp
      go_at_call 10
      (with_reducible refine (head_any _ (hT.pure (hU2.trans (hb.mono hU2.size)))).mono ?_)
      rintro e v4 ⟨rfl, hC4⟩
      have hb := hb.trans (hC4.mono hb.size)
      refine hK.out _ _ hb (fun hHeld => ?_)
      clear hK K
      try simp only [Act.put, lsT, lsZ, lsS]
      refine takeY 24 105 rfl rfl (v := ?_) ?_ hHeld ?_
      rotate_left 1
      · (intro u hSw; (try dsimp only at hSw); clear hSw; go_simp; (try with_reducible rfl))
      try simp only [Act.put, lsT, lsZ, lsS]
      refine wpAnyH_ready (rs := [25]) (by kernel_rfl) (by simp) ?_
      refine AllReadyH.cons rfl (fun K hK => ?_) AllReadyH.nil
      go_simp
      refine hK.out _ _ hb (fun hHeld => ?_)
      clear hK K
      try simp only [Act.put, lsT, lsZ, lsS]
      refine wpAnyH_done (by kernel_rfl) ?_ _
      go_wp2
      go_ret
      exact ⟨rfl, hU2.trans (hb.mono hU2.size)⟩
  subst h1
  have ebx : bx = vx.bytes := by rw [← hbxh.out, if_pos hcxh.out]
  have hbig := may_big hcxh.out
  rw [← ebx] at hbig
  have hbz := Lib.hid hbig.le
  have hbs := Lib.hid (show bx.length ≤ 2000000 by
    obtain ⟨-, h2, h3⟩ := chk_zero hcxh.out
    have h4 := bytes_len vx h3 200 h2
    rw [ebx]; omega)
  have hget := Lib.hid (show getP (bx ++ L) = some (vx, bx.length) by rw [ebx]; exact getP_put hwfx.out hcxh.out L)
  have hbt : Big (bx ++ L).length := by have h1 := hbs.out; have h2 := hL1.out; unfold Big; rw [List.length_append]; omega
  have hbth := Lib.hid hbt
  clear ebx hbig hbt
  go_upto_region 5 with (go_at_call 12; (with_reducible refine (p1h.out _ R1 (hT.pure hT1)).mono ?_); rintro e w2 ⟨r2, rfl, O2, hB2⟩; obtain ⟨Oa, Oc, rfl⟩ := own_lenB O2; have R2 := R1.pure hB2; have A2 := A1.pure hB2; have S2 := S1.pure hB2; have hT2 := hT1.trans (hB2.mono hT1.size))
  have O2s := O2.slc byEnc_len
  go_upto_region 8 with (first | (at_builtin; refine wpList_app (base := w2.heap.size) rfl _ (.tmp 32) 31 5 rfl elem_by byEnc_len byEnc_one _ ([] : List UInt8) rfl Own.nil _ bx rfl O2s (by have := hbz.out; unfold maxLen; simp; omega) (by have := hbz.out; simp; omega) (Nat.le_refl _) ?_; intro r3 w3 O3 hgr3 hfr3 hsh3; have hB3 := (Below.refl w2.heap.size w2).grown hgr3 (Nat.le_refl _) (fun j e => by cases e); have R3 := R2.pure hB3; have A3 := A2.pure hB3; have S3 := S2.pure hB3; have hT3 := hT2.trans (hB3.mono hT2.size)) | (at_builtin; refine wpList_app (base := w2.heap.size) rfl (.tmp 33) (.tmp 34) 31 5 rfl elem_by byEnc_len byEnc_one _ _ rfl O3 _ L rfl S3 (by have := hbz.out; have := hL1.out; unfold maxLen; simp; omega) (by have := hbz.out; have := hL1.out; simp; omega) hB3.size ?_; intro r4 w4 O4 hgr4 hfr4 hsh4; have hB4 := hB3.grown hgr4 hB3.size (fun j e => O3.ge e); have R4 := R2.pure hB4; have A4 := A2.pure hB4; have S4 := S2.pure hB4; have hT4 := hT2.trans (hB4.mono hT2.size); have O4s := O4.slc byEnc_len) | (go_at_call 16; refine (pget_one _ _ _ O4s (by simpa using hbth.out) (hT.pure hT4)).mono ?_; rintro e w5 ⟨zk, zn, zs, zka, zkc, zla, zlc, zks, zl, he, hzv, hzR, hB5⟩; rw [List.nil_append, hget.out] at he hzv; simp only [getN, getE, getV] at he hzv; subst he; have hzvh := Lib.hid hzv; clear hzv; have R5 := R4.pure hB5; have A5 := A4.pure hB5; have S5 := S4.pure hB5; have hT5 := hT4.trans (hB5.mono hT4.size); have hB6 := (Below.refl w5.heap.size w5).alloc (Nat.le_refl _) (.cells #[.int .u8 zk, .int .u64 zn, .string zs, .slice zka zks.length zkc, .slice zla zl.length zlc] 27); have R6 := R5.pure hB6; have A6 := A5.pure hB6; have S6 := S5.pure hB6; have hT6 := hT5.trans (hB6.mono hT5.size); have zR6 := hzR.pure hB6; have zB6 := Blk.new w5 [.int .u8 zk, .int .u64 zn, .string zs, .slice zka zks.length zkc, .slice zla zl.length zlc] 27; clear a0 a1 a2 a3 a4; have a0 := A6.at 0 rfl; have a1 := A6.at 1 rfl; have a2 := A6.at 2 rfl; have a3 := A6.at 3 rfl; have a4 := A6.at 4 rfl; have z0 := zB6.at 0 rfl; have z1 := zB6.at 1 rfl; have z2 := zB6.at 2 rfl; have z3 := zB6.at 3 rfl; have z4 := zB6.at 4 rfl) | (go_at_call 18; refine (psame_yes R6 zR6 (by rw [hvh.out, hzvh.out])).mono ?_; rintro e w7 ⟨rfl, hB7⟩; have R7 := R6.pure hB7; have A7 := A6.pure hB7; have S7 := S6.pure hB7; have hT7 := hT6.trans (hB7.mono hT6.size)))
  clear a0 a1 a2 a3 a4 z0 z1 z2 z3 z4
  rcases hgp : getP L with _ | ⟨x, n⟩
  · have hgh := Lib.hid hgp
    clear hgp
    go_wp2_with (first | (go_at_call 16; (with_reducible refine (pget_one _ _ L S7 hLh.out (hT.pure hT7)).mono ?_); rintro e v1 ⟨uk, un, us, uka, ukc, ula, ulc, uks, ul, he, huv, huR, hC1⟩; rw [hgh.out] at he huv; simp only [getN, getE, getV] at he huv; subst he; have huvh := Lib.hid huv; clear huv; have hD1 := (Below.refl v1.heap.size v1).alloc (Nat.le_refl _) (.cells #[.int .u8 uk, .int .u64 un, .string us, .slice uka uks.length ukc, .slice ula ul.length ulc] 27); have hU1 := (hT7.trans (hC1.mono hT7.size)).trans (hD1.mono (hT7.trans (hC1.mono hT7.size)).size); have uR1 := huR.pure hD1; have uB1 := Blk.new v1 [.int .u8 uk, .int .u64 un, .string us, .slice uka uks.length ukc, .slice ula ul.length ulc] 27; have us1 := (S7.pure hC1).pure hD1; have m0 := uB1.at 0 rfl; have m1 := uB1.at 1 rfl; have m2 := uB1.at 2 rfl; have m3 := uB1.at 3 rfl; have m4 := uB1.at 4 rfl) | (go_at_call 18; refine (psame_yes uR1 (u := VT.zero) (P2 := fun _ => True) VT.zero_rd (by rw [huvh.out, VT.zero_v])).mono ?_; rintro e v2 ⟨rfl, hC2⟩; have hU2 := hU1.trans (hC2.mono hU1.size)) | (go_at_call 10; (with_reducible refine (head_any _ (hT.pure hU2)).mono ?_); rintro e w9 ⟨rfl, hB9⟩; have hF := hU2.trans (hB9.mono hU2.size)))
    go_ret
    exact ⟨rfl, hF⟩
  · have hgh := Lib.hid hgp
    have hgi := getP_inv hgp
    have hgih := Lib.hid hgi
    have hnl : n ≤ L.length := by obtain ⟨-, -, h3, r, h4⟩ := hgi; rw [h3, h4]; simp
    have hnl1 : (n : Int) ≤ (L.length : Int) := by omega
    have hnl2 : ¬ (L.length : Int) < (n : Int) := by omega
    have hnd : decide ((n : Int) ≤ (L.length : Int)) = true := decide_eq_true hnl1
    have htake := Lib.hid (show L.take n = x.bytes by obtain ⟨-, -, h3, r, h4⟩ := hgi; rw [h3, h4]; simp)
    have hcap := slc_cap S7
    have hny : n ≤ yc := Nat.le_trans hnl hcap
    clear hgp hgi
    have p2 := fun (u : World) (t : VT) (ht : t.v = x) (hR : Rd (fun i => w7.heap.size ≤ i) u t) (hT : Tb u) => show Calls Tryd.prog 12 #[t.arg] u (fun e w' => ∃ r, e = .returned (.tuple #[r, .int .i64 0]) ∧ Own u.heap.size 5 1 byEnc w' r x.bytes ∧ Below u.heap.size u w') by
      have h := vput_any t _ u hR hT
      rw [ht, hgih.out.1, if_pos rfl] at h; exact h
    have p2h := Lib.hid p2
    have p3 := fun (u : World) (t : VT) (ht : t.v = x) (hR : Rd (fun i => w7.heap.size ≤ i) u t) (hT : Tb u) => show Calls Tryd.prog 14 #[t.arg] u (fun e w' => e = .returned (.int .i64 0) ∧ Below u.heap.size u w') by
      have h := check_any t _ u hR hT
      rw [ht, hgih.out.1] at h; exact h
    have p3h := Lib.hid p3
    clear p2 p3
    go_upto_region 12 with (first | (go_at_call 16; (with_reducible refine (pget_one _ _ L S7 hLh.out (hT.pure hT7)).mono ?_); rintro e v1 ⟨uk, un, us, uka, ukc, ula, ulc, uks, ul, he, huv, huR, hC1⟩; rw [hgh.out] at he huv; simp only [getN, getE, getV] at he huv; subst he; have huvh := Lib.hid huv; clear huv; have hD1 := (Below.refl v1.heap.size v1).alloc (Nat.le_refl _) (.cells #[.int .u8 uk, .int .u64 un, .string us, .slice uka uks.length ukc, .slice ula ul.length ulc] 27); have hU1 := (hT7.trans (hC1.mono hT7.size)).trans (hD1.mono (hT7.trans (hC1.mono hT7.size)).size); have uR1 := huR.pure hD1; have uB1 := Blk.new v1 [.int .u8 uk, .int .u64 un, .string us, .slice uka uks.length ukc, .slice ula ul.length ulc] 27; have us1 := (S7.pure hC1).pure hD1; have m0 := uB1.at 0 rfl; have m1 := uB1.at 1 rfl; have m2 := uB1.at 2 rfl; have m3 := uB1.at 3 rfl; have m4 := uB1.at 4 rfl) | (go_at_call 12; refine (p2h.out _ (.mk uk un us (.slice uka uks.length ukc) (.slice ula ul.length ulc) uks ul) huvh.out uR1 (hT.pure hU1)).mono ?_; rintro e v2 ⟨r2, rfl, O2, hC2⟩; obtain ⟨Oa, Oc, rfl⟩ := own_lenB O2; have hU2 := hU1.trans (hC2.mono hU1.size); have uR2 := uR1.pure hC2; have uB2 := uB1.pure hC2; have us2 := us1.pure hC2))
    have O2s := O2.slc byEnc_len
    obtain ⟨s1, hs1⟩ : ∃ s1 : ByteArray, (⟨x.bytes.toArray⟩ : ByteArray) = s1 := ⟨_, rfl⟩
    have us3 := slc_take us2 hnl
    have cv1 := Lib.hid (fun (u : World) (h : Below v2.heap.size v2 u) => show (convert 31 9 (.slice Oa x.bytes.length Oc)).run Tryd.prog u = .ok (.string s1) u by rw [← hs1]; exact conv_str u _ _ (O2s.pure h))
    have cv2 := Lib.hid (fun (u : World) (h : Below v2.heap.size v2 u) => show (convert 31 9 (.slice ya n yc)).run Tryd.prog u = .ok (.string s1) u by rw [← hs1, ← htake.out]; exact conv_str u _ _ (us3.pure h))
    have hAll := Lib.hid (fun (u : World) (h : Below v2.heap.size v2 u) => uB2.pure h)
    clear hs1 us3
    have hb := below_refl_dr v2
    refine wp_region_held_drew (S := fun u => Below v2.heap.size v2 u) (by kernel_rfl) hb (fun hHeld => ?_)
    refine takeY 0 81 rfl rfl (v := ?_) ?_ hHeld ?_
    rotate_left 1
    · (intro u hSw; (try dsimp only at hSw); clear hSw; go_simp; (try with_reducible rfl))
    try simp only [Act.put, lsT, lsZ, lsS]
    refine takeY 1 82 rfl rfl (v := ?_) ?_ hHeld ?_
    rotate_left 1
    · (intro u hSw; (try dsimp only at hSw); clear hSw; go_simp; (try with_reducible rfl))
    try simp only [Act.put, lsT, lsZ, lsS]
    refine takeY 2 83 rfl rfl (v := ?_) ?_ hHeld ?_
    rotate_left 1
    · (intro u hSw; (try dsimp only at hSw); clear hSw; go_simp; (try with_reducible rfl))
    try simp only [Act.put, lsT, lsZ, lsS]
    refine takeY 3 84 rfl rfl (v := ?_) ?_ hHeld ?_
    rotate_left 1
    · (intro u hSw; (try dsimp only at hSw); clear hSw; go_simp; (try with_reducible rfl))
    try simp only [Act.put, lsT, lsZ, lsS]
    refine takeY 4 85 rfl rfl (v := ?_) ?_ hHeld ?_
    rotate_left 1
    · (intro u hSw; (try dsimp only at hSw); clear hSw; go_simp; (try with_reducible rfl))
    try simp only [Act.put, lsT, lsZ, lsS]
    refine takeY 5 86 rfl rfl (v := ?_) ?_ hHeld ?_
    rotate_left 1
    · (intro u hSw; (try dsimp only at hSw); clear hSw; go_simp; (try with_reducible rfl))
    try simp only [Act.put, lsT, lsZ, lsS]
    refine takeY 6 87 rfl rfl (v := ?_) ?_ hHeld ?_
    rotate_left 1
    · (intro u hSw; (try dsimp only at hSw); clear hSw; go_simp; (try with_reducible rfl))
    try simp only [Act.put, lsT, lsZ, lsS]
    refine takeY 7 88 rfl rfl (v := ?_) ?_ hHeld ?_
    rotate_left 1
    · (intro u hSw; (try dsimp only at hSw); clear hSw; go_simp; (try with_reducible rfl))
    try simp only [Act.put, lsT, lsZ, lsS]
    refine takeY 8 89 rfl rfl (v := ?_) ?_ hHeld ?_
    rotate_left 1
    · (intro u hSw; (try dsimp only at hSw); clear hSw; go_simp; (try with_reducible rfl))
    try simp only [Act.put, lsT, lsZ, lsS]
    refine takeY 9 90 rfl rfl (v := ?_) ?_ hHeld ?_
    rotate_left 1
    · (intro u hSw; (try dsimp only at hSw); clear hSw; go_simp; (try with_reducible rfl))
    try simp only [Act.put, lsT, lsZ, lsS]
    refine takeY 10 91 rfl rfl (v := ?_) ?_ hHeld ?_
    rotate_left 1
    · (intro u hSw; (try dsimp only at hSw); have k := cv1.out u hSw; clear hSw; go_simp; (try with_reducible rfl))
    try simp only [Act.put, lsT, lsZ, lsS]
    refine takeY 11 92 rfl rfl (v := ?_) ?_ hHeld ?_
    rotate_left 1
    · (intro u hSw; (try dsimp only at hSw); clear hSw; go_simp; (try with_reducible rfl))
    try simp only [Act.put, lsT, lsZ, lsS]
    refine takeY 12 93 rfl rfl (v := ?_) ?_ hHeld ?_
    rotate_left 1
    · (intro u hSw; (try dsimp only at hSw); clear hSw; go_simp; (try with_reducible rfl))
    try simp only [Act.put, lsT, lsZ, lsS]
    refine takeY 13 94 rfl rfl (v := ?_) ?_ hHeld ?_
    rotate_left 1
    · (intro u hSw; (try dsimp only at hSw); have e := hny; clear hSw; go_simp; (try with_reducible rfl))
    try simp only [Act.put, lsT, lsZ, lsS]
    refine takeY 14 95 rfl rfl (v := ?_) ?_ hHeld ?_
    rotate_left 1
    · (intro u hSw; (try dsimp only at hSw); have k := cv2.out u hSw; clear hSw; go_simp; (try with_reducible rfl))
    try simp only [Act.put, lsT, lsZ, lsS]
    refine takeY 15 96 rfl rfl (v := ?_) ?_ hHeld ?_
    rotate_left 1
    · (intro u hSw; (try dsimp only at hSw); clear hSw; go_simp; (try with_reducible rfl))
    try simp only [Act.put, lsT, lsZ, lsS]
    refine takeY 16 97 rfl rfl (v := ?_) ?_ hHeld ?_
    rotate_left 1
    · (intro u hSw; (try dsimp only at hSw); clear hSw; go_simp; (try with_reducible rfl))
    try simp only [Act.put, lsT, lsZ, lsS]
    refine takeY 17 98 rfl rfl (v := ?_) ?_ hHeld ?_
    rotate_left 1
    · (intro u hSw; (try dsimp only at hSw); clear hSw; go_simp; (try with_reducible rfl))
    try simp only [Act.put, lsT, lsZ, lsS]
    refine takeY 18 99 rfl rfl (v := ?_) ?_ hHeld ?_
    rotate_left 1
    · (intro u hSw; (try dsimp only at hSw); have q := hAll.out u hSw; have m0 := q.at 0 rfl; have m1 := q.at 1 rfl; have m2 := q.at 2 rfl; have m3 := q.at 3 rfl; have m4 := q.at 4 rfl; clear hSw; go_simp; (try with_reducible rfl))
    try simp only [Act.put, lsT, lsZ, lsS]
    refine wpAnyH_ready (rs := [19]) (by kernel_rfl) (by simp) ?_
    refine AllReadyH.cons rfl (fun K hK => ?_) AllReadyH.nil
    go_simp
    go_at_call 14
    refine (p3h.out _ (.mk uk un us (.slice uka uks.length ukc) (.slice ula ul.length ulc) uks ul) huvh.out (uR2.pure hb) (hT.pure (hU2.trans (hb.mono hU2.size)))).mono ?_
    rintro e v3 ⟨rfl, hC3⟩
    have hb := hb.trans (hC3.mono hb.size)
    refine hK.out _ _ hb (fun hHeld => ?_)
    clear hK K
    try simp only [Act.put, lsT, lsZ, lsS]
    refine takeY 20 101 rfl rfl (v := ?_) ?_ hHeld ?_
    rotate_left 1
    · (intro u hSw; (try dsimp only at hSw); clear hSw; go_simp; (try with_reducible rfl))
    try simp only [Act.put, lsT, lsZ, lsS]
    refine takeY 21 102 rfl rfl (v := ?_) ?_ hHeld ?_
    rotate_left 1
    · (intro u hSw; (try dsimp only at hSw); clear hSw; go_simp; (try with_reducible rfl))
    try simp only [Act.put, lsT, lsZ, lsS]
    refine takeY 22 103 rfl rfl (v := ?_) ?_ hHeld ?_
    rotate_left 1
    · (intro u hSw; (try dsimp only at hSw); clear hSw; go_simp; (try with_reducible rfl))
    try simp only [Act.put, lsT, lsZ, lsS]
    refine wpAnyH_ready (rs := [23]) (by kernel_rfl) (by simp) ?_
    refine AllReadyH.cons rfl (fun K hK => ?_) AllReadyH.nil
    go_simp
    go_at_call 10
    (with_reducible refine (head_any _ (hT.pure (hU2.trans (hb.mono hU2.size)))).mono ?_)
    rintro e v4 ⟨rfl, hC4⟩
    have hb := hb.trans (hC4.mono hb.size)
    refine hK.out _ _ hb (fun hHeld => ?_)
    clear hK K
    try simp only [Act.put, lsT, lsZ, lsS]
    refine takeY 24 105 rfl rfl (v := ?_) ?_ hHeld ?_
    rotate_left 1
    · (intro u hSw; (try dsimp only at hSw); clear hSw; go_simp; (try with_reducible rfl))
    try simp only [Act.put, lsT, lsZ, lsS]
    refine wpAnyH_ready (rs := [25]) (by kernel_rfl) (by simp) ?_
    refine AllReadyH.cons rfl (fun K hK => ?_) AllReadyH.nil
    go_simp
    refine hK.out _ _ hb (fun hHeld => ?_)
    clear hK K
    try simp only [Act.put, lsT, lsZ, lsS]
    refine wpAnyH_done (by kernel_rfl) ?_ _
    go_wp2
    go_ret
    exact ⟨rfl, hU2.trans (hb.mono hU2.size)⟩
end Go.Proofs.YtokemjpobfjiaaaDoor

/- The statement ValueBackCardSaid: whatever its arguments are, the law ValueBack returns true, and leaves its arguments as they were. Conditions: none beyond the statement's own. -/
namespace Go.Proofs.YtokemjpobfjiaaaDoor.holdValueBack
open Go.ChangeShapes Go.WideShapes Go.ChangeAt Go.RowKit
set_option maxRecDepth 100000

theorem ownK : ownKnob Tryd.prog.godebug = none := by kernel_rfl
theorem laidO : laidOutB Tryd.prog = true := by kernel_rfl

theorem laid_met (os : Os) (args : Array Value) : laidMetH Tryd.prog Rows.valueBackRow.laid ((World.laidAll Tryd.prog os LAID).forCall (fun _ _ => 0) ⟨#[], args, []⟩).memory := by
  rw [MakeChecks.laidMetH_plain _ _ _ (by kernel_rfl)]
  exact laidMet_laidAll (laid := LAID) _ (by kernel_rfl) (by kernel_rfl)
theorem reads (os : Os) {H : Type} (enc : TypeId × Value → H) : ∃ places, DataW.whole enc Tryd.prog ((World.laidAll Tryd.prog os LAID).forCall (fun _ _ => 0) ⟨#[], #[.agg #[.int .u8 0, .int .u64 0, .string ⟨#[]⟩, .slice none 0 0, .slice none 0 0], .slice none 0 0], []⟩).memory Tryd.f6.params.toList Rows.valueBackSpec.vars false (#[.agg #[.int .u8 0, .int .u64 0, .string ⟨#[]⟩, .slice none 0 0, .slice none 0 0], .slice none 0 0] : Array Value).toList 8 = some ([.agg [.lit (.int .u8 0), .lit (.int .u64 0), .lit (.string []), .nil, .nil], .nil], [], places) :=
  ⟨[], by kernel_rfl⟩
set_option maxHeartbeats 1000000 in
theorem lifted (os : Os) (started : os.Started) (H : Type) (enc : TypeId × Value → H) (F : Stop.Interp) :
    ReturnsInHanded {} Tryd.checked os 6 .any ((OpenSpec.ofChange Rows.valueBackSpec).preRow enc Tryd.prog Tryd.f6 Rows.valueBackRow.domain false Rows.valueBackRow.laid) (((OpenSpec.ofChange Rows.valueBackSpec).at F).post enc Tryd.prog Tryd.f6 false true false false) := by
  obtain ⟨places, hx⟩ := reads os enc
  refine returnsInHanded_of_row (C := Tryd.checked) (s := OpenSpec.ofChange Rows.valueBackSpec) ownK started (by kernel_rfl) Tryd.func6
    (witness_row_at (enc := enc) (C := Tryd.checked) false (World.laidAll Tryd.prog os LAID) #[.agg #[.int .u8 0, .int .u64 0, .string ⟨#[]⟩, .slice none 0 0, .slice none 0 0], .slice none 0 0] (World.laidAll_os _ _ _) (by kernel_rfl) (by kernel_rfl) (by kernel_rfl)
      (OpenSpec.preRow_of_cond 8 hx (by kernel_rfl) (fun k hk => by cases hk) (by kernel_rfl) (laid_met os _))) ?_
  intro W base args ds gs before hval0 hW _ _ _ hL _ _
  rw [MakeChecks.laidMetH_plain _ _ _ (by kernel_rfl)] at hL
  have hT := tb_of_laid hL
  clear hL
  have hval : ∀ (j : Nat) t v, Tryd.f6.params[j]? = some t → args[j]? = some v → Value.okWide Tryd.prog W .any base t v := hval0
  have hW' := hW
  obtain ⟨p, q, hA0, hV, rfl, hfz, hnd⟩ := hW
  have hA : DataW.TrodAll enc Tryd.prog W 0 (fun _ => true) true Tryd.f6.params.toList args.toList ds p := hA0
  rw [Tryd.params6] at hA hval
  obtain ⟨v0, vs0, d0, ds0, p0, q0, hargs, rfl, rfl, h0, r0⟩ := trodAll_cons hA
  obtain ⟨v1, vs1, d1, ds1, p1, q1, rfl, rfl, rfl, h1, r1⟩ := trodAll_cons r0
  obtain ⟨rfl, rfl, rfl⟩ := trodAll_nil r1
  obtain rfl : args = #[v0, v1] := by cases args; simp_all
  obtain ⟨rfl, rfl⟩ := trodVars_none hV
  have k0 := hval 0 27 v0 rfl rfl
  have k1 := hval 1 31 v1 rfl rfl
  clear hA0 hval0 hval
  simp only [List.append_nil] at hW'
  have hlt : ∀ x ∈ p0 ++ p1, x.block < W.heap.size := fun x hx => by simpa using hW'.lt x (by simpa using hx)
  have g0 : ∀ W', Below W.heap.size W W' → DataW.Trod enc Tryd.prog W' 0 (fun b => decide (b < W.heap.size)) true 27 v0 d0 p0 := fun W' hn => Below.trod laidO (by kernel_rfl) (of_decide_eq_true (by kernel_rfl)) h0 hn (fun x hx => hlt x (by simp [hx]))
  have g1 : ∀ W', Below W.heap.size W W' → DataW.Trod enc Tryd.prog W' 0 (fun b => decide (b < W.heap.size)) true 31 v1 d1 p1 := fun W' hn => Below.trod laidO (by kernel_rfl) (of_decide_eq_true (by kernel_rfl)) h1 hn (fun x hx => hlt x (by simp [hx]))
  obtain ⟨t0, rfl, R0⟩ := open_value k0 h0
  obtain ⟨L1, S1⟩ := open_bytes k1 h1
  refine (valueBack_law W R0 S1 hT).mono fun e W' ⟨he, hb⟩ => ?_
  subst he
  exact ⟨_, rfl, _, _, _, [], _, [], hW', trodAll_cons_mk (shut_bool Tryd.underlying4 _) trodAll_mk0, (trodAll_cons_mk (g0 _ hb) (trodAll_cons_mk (g1 _ hb) trodAll_mk0)), rfl, hb.frame _, fun h => by cases h⟩

theorem said : Rows.ValueBackSaid :=
  OpenClaim.holds_of_cond 6 Tryd.f6 rfl rfl rfl rfl rfl rfl rfl ⟨rfl, rfl, rfl, rfl, rfl⟩ rfl rfl rfl rfl rfl (by kernel_rfl) Tryd.func6 (by kernel_rfl)
    (of_decide_eq_true (by kernel_rfl)) (by unfold Func.isWrapper; first | (rw [if_pos (by decide +kernel)]; kernel_rfl) | (rw [if_neg (by decide +kernel)]; exact ⟨rfl, rfl⟩))
    (fun os started H enc _ F => by rw [OpenClaim.pre_eq_preRow]; exact lifted os started H enc F)
theorem plainP (f : FuncId) (fn : Func) (hf : Tryd.pinned.checked.prog.funcNamed "posthouse/posthouselaw05.ValueBack" = some f) (hfn : Tryd.pinned.checked.prog.funcs[f]? = some fn) :
    true = Tryd.pinned.checked.prog.looks [] ∧ ∀ (j : Nat) t, fn.params[j]? = some t → Tryd.pinned.checked.prog.wantsStandIn t = false := by
  obtain rfl : f = 6 := Option.some.inj ((show Tryd.prog.funcNamed "posthouse/posthouselaw05.ValueBack" = some 6 by kernel_rfl).symm.trans hf) |>.symm
  obtain rfl : fn = Tryd.f6 := (Option.some.inj (Tryd.func6.symm.trans hfn)).symm
  refine ⟨by kernel_rfl, fun j t ht => ?_⟩
  rw [Tryd.params6] at ht
  have hm := Array.mem_of_getElem? ht
  simp only [List.mem_toArray, List.mem_cons, List.not_mem_nil, or_false] at hm
  rcases hm with rfl | rfl <;> exact (show Tryd.prog.wantsStandIn _ = false by kernel_rfl)
/-- The card. -/
theorem card : Rows.ValueBackCardSaid :=
  Claim7.holds_tied_plain_at .later [] _ _ _ _ said (fun _ h => by cases h) (by kernel_rfl) (fun _ h => by cases h) valueBack_row_tie rfl ⟨rfl, rfl⟩ (by kernel_rfl) rfl plainP (by kernel_rfl)
end Go.Proofs.YtokemjpobfjiaaaDoor.holdValueBack
namespace Go.Proofs.YtokemjpobfjiaaaDoor
set_option linter.unusedSimpArgs false
set_option linter.unusedVariables false
theorem valueBackCard_holds : Rows.ValueBackCardSaid := holdValueBack.card
#print axioms valueBackCard_holds
end Go.Proofs.YtokemjpobfjiaaaDoor
