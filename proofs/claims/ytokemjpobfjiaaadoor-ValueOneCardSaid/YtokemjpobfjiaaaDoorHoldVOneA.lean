/- The statement ValueOneCardSaid: whatever its arguments are, the law ValueOne returns true, and leaves its arguments as they were. Conditions: none beyond the statement's own. (Texts joined; the heads of the others stand below.) -/
import Derived.Test.YtokemjpobfjiaaaDoorKL
import Derived.Test.YtokemjpobfjiaaaDoorCards
import Derived.Test.YtokemjpobfjiaaaDoorTie
import Derived.ProofKit
import Derived.OpenShut
import Derived.Deep.DeepHandedRow
import Derived.Lay
import Derived.SevenTiedAt

/- ValueOne: the law's walk. Conditions: utf8's tables are laid. Written by gen_vone.py. -/
namespace Go.Proofs.YtokemjpobfjiaaaDoor
set_option linter.unusedSimpArgs false
set_option linter.unusedVariables false
open Go.RowKit
set_option maxRecDepth 100000 in
set_option maxHeartbeats 12800000 in
theorem valueOne_law (w : World) {x y : VT} (hX : Rd (fun i => i < w.heap.size) w x) (hY : Rd (fun i => i < w.heap.size) w y) (hT : Tb w) : Calls Tryd.prog 7 #[x.arg, y.arg] w fun e w' => e = .returned (.bool true) ∧ Below w.heap.size w w' := by
  have hwfx := Lib.hid hX.wf; have hwfy := Lib.hid hY.wf
  obtain ⟨tk, tn, ts, tka, tkc, tla, tlc, tks, tl, rfl, -, -, htk, htl⟩ := hX.open
  obtain ⟨uk, un, us, uka, ukc, ula, ulc, uks, ul, rfl, -, -, huk, hul⟩ := hY.open
  rw [VT.arg_mk, VT.arg_mk]
  have hT0 : Below w.heap.size w ((w.alloc (.cells #[.int .u8 tk, .int .u64 tn, .string ts, .slice tka tks.length tkc, .slice tla tl.length tlc] 27)).alloc (.cells #[.int .u8 uk, .int .u64 un, .string us, .slice uka uks.length ukc, .slice ula ul.length ulc] 27)) := ((Below.refl _ _).alloc (Nat.le_refl _) _).alloc (by simp) _
  have R0 := hX.pure hT0; have Q0 := hY.pure hT0
  have A0 := (Blk.new w [.int .u8 tk, .int .u64 tn, .string ts, .slice tka tks.length tkc, .slice tla tl.length tlc] 27).alloc (.cells #[.int .u8 uk, .int .u64 un, .string us, .slice uka uks.length ukc, .slice ula ul.length ulc] 27)
  have B0 := Blk.newK (w.alloc (.cells #[.int .u8 tk, .int .u64 tn, .string ts, .slice tka tks.length tkc, .slice tla tl.length tlc] 27)) [.int .u8 uk, .int .u64 un, .string us, .slice uka uks.length ukc, .slice ula ul.length ulc] 27 (w.heap.size + 1) (by simp)
  obtain ⟨vx, hvx⟩ : ∃ vx, VT.v (.mk tk tn ts (.slice tka tks.length tkc) (.slice tla tl.length tlc) tks tl) = vx := ⟨_, rfl⟩
  obtain ⟨vy, hvy⟩ : ∃ vy, VT.v (.mk uk un us (.slice uka uks.length ukc) (.slice ula ul.length ulc) uks ul) = vy := ⟨_, rfl⟩
  rw [hvx] at hwfx; rw [hvy] at hwfy
  have hvh := Lib.hid (show VT.v (.mk tk tn ts (.slice tka tks.length tkc) (.slice tla tl.length tlc) tks tl) = vx ∧ VT.v (.mk uk un us (.slice uka uks.length ukc) (.slice ula ul.length ulc) uks ul) = vy from ⟨hvx, hvy⟩)
  clear hvx hvy htk htl huk hul hX hY
  have a0 := A0.at 0 rfl; have a1 := A0.at 1 rfl; have a2 := A0.at 2 rfl; have a3 := A0.at 3 rfl; have a4 := A0.at 4 rfl
  have b0 := B0.at 0 rfl; have b1 := B0.at 1 rfl; have b2 := B0.at 2 rfl; have b3 := B0.at 3 rfl; have b4 := B0.at 4 rfl
  go_enter Tryd.func7, Tryd.ntmps7
  go_wp2_with fail
  have s1 := dSmall_any _ _ _ R0
  rw [VT.arg_mk] at s1
  refine s1.mono ?_
  rintro e w1 ⟨⟨sb, rfl, -⟩, hB1⟩
  have R1 := R0.pure hB1; have Q1 := Q0.pure hB1; have A1 := A0.pure hB1; have B1 := B0.pure hB1; have hT1 := hT0.trans (hB1.mono hT0.size)
  clear s1 a0 a1 a2 a3 a4 b0 b1 b2 b3 b4
  have a0 := A1.at 0 rfl; have a1 := A1.at 1 rfl; have a2 := A1.at 2 rfl; have a3 := A1.at 3 rfl; have a4 := A1.at 4 rfl
  have b0 := B1.at 0 rfl; have b1 := B1.at 1 rfl; have b2 := B1.at 2 rfl; have b3 := B1.at 3 rfl; have b4 := B1.at 4 rfl
  cases sb
  · go_wp2_with (go_at_call 10; (with_reducible refine (head_any _ (hT.pure hT1)).mono ?_); rintro e w9 ⟨rfl, hB9⟩; have hF := hT1.trans (hB9.mono hT1.size))
    go_ret
    exact ⟨rfl, hF⟩
  go_wp2_with fail
  have s1 := dSmall_any _ _ _ Q1
  rw [VT.arg_mk] at s1
  refine s1.mono ?_
  rintro e w2 ⟨⟨sb, rfl, -⟩, hB2⟩
  have R2 := R1.pure hB2; have Q2 := Q1.pure hB2; have A2 := A1.pure hB2; have B2 := B1.pure hB2; have hT2 := hT1.trans (hB2.mono hT1.size)
  clear s1 a0 a1 a2 a3 a4 b0 b1 b2 b3 b4
  have a0 := A2.at 0 rfl; have a1 := A2.at 1 rfl; have a2 := A2.at 2 rfl; have a3 := A2.at 3 rfl; have a4 := A2.at 4 rfl
  have b0 := B2.at 0 rfl; have b1 := B2.at 1 rfl; have b2 := B2.at 2 rfl; have b3 := B2.at 3 rfl; have b4 := B2.at 4 rfl
  cases sb
  · go_wp2_with (go_at_call 10; (with_reducible refine (head_any _ (hT.pure hT2)).mono ?_); rintro e w9 ⟨rfl, hB9⟩; have hF := hT2.trans (hB9.mono hT2.size))
    go_ret
    exact ⟨rfl, hF⟩
  have p1 := fun (u : World) (hR : Rd (fun i => i < w.heap.size) u (.mk tk tn ts (.slice tka tks.length tkc) (.slice tla tl.length tlc) tks tl)) (hT : Tb u) => vput_any _ _ u hR hT
  have p2 := fun (u : World) (hR : Rd (fun i => i < w.heap.size) u (.mk uk un us (.slice uka uks.length ukc) (.slice ula ul.length ulc) uks ul)) (hT : Tb u) => vput_any _ _ u hR hT
  simp only [VT.arg_mk, hvh.out.1] at p1
  simp only [VT.arg_mk, hvh.out.2] at p2
  obtain ⟨cx, hcx⟩ : ∃ cx, vx.chk = cx := ⟨_, rfl⟩
  obtain ⟨cy, hcy⟩ : ∃ cy, vy.chk = cy := ⟨_, rfl⟩
  obtain ⟨bx, hbx⟩ : ∃ bx, (if vx.chk = 0 then vx.bytes else []) = bx := ⟨_, rfl⟩
  obtain ⟨by_, hby⟩ : ∃ by_, (if vy.chk = 0 then vy.bytes else []) = by_ := ⟨_, rfl⟩
  rw [hbx] at p1; rw [hby] at p2
  rw [hcx] at p1; rw [hcy] at p2
  have hcxh := Lib.hid hcx; have hcyh := Lib.hid hcy; have hbxh := Lib.hid hbx; have hbyh := Lib.hid hby
  have p1h := Lib.hid p1; have p2h := Lib.hid p2
  clear p1 p2 hcx hcy hbx hby
  by_cases h1 : cx = 0
  rotate_left 1
  · have h2 : (cx == 0) = false := beq_eq_false_iff_ne.2 h1
    clear h1
    go_wp2_with (first | (go_at_call 12; (with_reducible refine (p1h.out _ R2 (hT.pure hT2)).mono ?_); rintro e w3 ⟨r3, rfl, O3, hB3⟩; obtain ⟨Oa, Oc, rfl⟩ := own_lenB O3; have R3 := R2.pure hB3; have Q3 := Q2.pure hB3; have A3 := A2.pure hB3; have B3 := B2.pure hB3; have hT3 := hT2.trans (hB3.mono hT2.size); have c30 := A3.at 0 rfl; have c31 := A3.at 1 rfl; have c32 := A3.at 2 rfl; have c33 := A3.at 3 rfl; have c34 := A3.at 4 rfl; have d30 := B3.at 0 rfl; have d31 := B3.at 1 rfl; have d32 := B3.at 2 rfl; have d33 := B3.at 3 rfl; have d34 := B3.at 4 rfl) | (go_at_call 12; (with_reducible refine (p2h.out _ Q3 (hT.pure hT3)).mono ?_); rintro e w4 ⟨r4, rfl, P4, hB4⟩; obtain ⟨Pa, Pc, rfl⟩ := own_lenB P4; have R4 := R3.pure hB4; have Q4 := Q3.pure hB4; have A4 := A3.pure hB4; have B4 := B3.pure hB4; have O4 := O3.pure hB4; have hT4 := hT3.trans (hB4.mono hT3.size); have c40 := A4.at 0 rfl; have c41 := A4.at 1 rfl; have c42 := A4.at 2 rfl; have c43 := A4.at 3 rfl; have c44 := A4.at 4 rfl; have d40 := B4.at 0 rfl; have d41 := B4.at 1 rfl; have d42 := B4.at 2 rfl; have d43 := B4.at 3 rfl; have d44 := B4.at 4 rfl) | (go_at_call 10; (with_reducible refine (head_any _ (hT.pure hT4)).mono ?_); rintro e w9 ⟨rfl, hB9⟩; have hF := hT4.trans (hB9.mono hT4.size)))
    go_ret
    exact ⟨rfl, hF⟩
  subst h1
  by_cases h1 : cy = 0
  rotate_left 1
  · have h2 : (cy == 0) = false := beq_eq_false_iff_ne.2 h1
    clear h1
    go_wp2_with (first | (go_at_call 12; (with_reducible refine (p1h.out _ R2 (hT.pure hT2)).mono ?_); rintro e w3 ⟨r3, rfl, O3, hB3⟩; obtain ⟨Oa, Oc, rfl⟩ := own_lenB O3; have R3 := R2.pure hB3; have Q3 := Q2.pure hB3; have A3 := A2.pure hB3; have B3 := B2.pure hB3; have hT3 := hT2.trans (hB3.mono hT2.size); have c30 := A3.at 0 rfl; have c31 := A3.at 1 rfl; have c32 := A3.at 2 rfl; have c33 := A3.at 3 rfl; have c34 := A3.at 4 rfl; have d30 := B3.at 0 rfl; have d31 := B3.at 1 rfl; have d32 := B3.at 2 rfl; have d33 := B3.at 3 rfl; have d34 := B3.at 4 rfl) | (go_at_call 12; (with_reducible refine (p2h.out _ Q3 (hT.pure hT3)).mono ?_); rintro e w4 ⟨r4, rfl, P4, hB4⟩; obtain ⟨Pa, Pc, rfl⟩ := own_lenB P4; have R4 := R3.pure hB4; have Q4 := Q3.pure hB4; have A4 := A3.pure hB4; have B4 := B3.pure hB4; have O4 := O3.pure hB4; have hT4 := hT3.trans (hB4.mono hT3.size); have c40 := A4.at 0 rfl; have c41 := A4.at 1 rfl; have c42 := A4.at 2 rfl; have c43 := A4.at 3 rfl; have c44 := A4.at 4 rfl; have d40 := B4.at 0 rfl; have d41 := B4.at 1 rfl; have d42 := B4.at 2 rfl; have d43 := B4.at 3 rfl; have d44 := B4.at 4 rfl) | (go_at_call 10; (with_reducible refine (head_any _ (hT.pure hT4)).mono ?_); rintro e w9 ⟨rfl, hB9⟩; have hF := hT4.trans (hB9.mono hT4.size)))
    go_ret
    exact ⟨rfl, hF⟩
  subst h1
  have ebx : bx = vx.bytes := by rw [← hbxh.out, if_pos hcxh.out]
  have eby : by_ = vy.bytes := by rw [← hbyh.out, if_pos hcyh.out]
  have hebx := Lib.hid ebx; have heby := Lib.hid eby
  clear ebx eby
  go_wp2_with (first | (go_at_call 12; (with_reducible refine (p1h.out _ R2 (hT.pure hT2)).mono ?_); rintro e w3 ⟨r3, rfl, O3, hB3⟩; obtain ⟨Oa, Oc, rfl⟩ := own_lenB O3; have R3 := R2.pure hB3; have Q3 := Q2.pure hB3; have A3 := A2.pure hB3; have B3 := B2.pure hB3; have hT3 := hT2.trans (hB3.mono hT2.size); have c30 := A3.at 0 rfl; have c31 := A3.at 1 rfl; have c32 := A3.at 2 rfl; have c33 := A3.at 3 rfl; have c34 := A3.at 4 rfl; have d30 := B3.at 0 rfl; have d31 := B3.at 1 rfl; have d32 := B3.at 2 rfl; have d33 := B3.at 3 rfl; have d34 := B3.at 4 rfl) | (go_at_call 12; (with_reducible refine (p2h.out _ Q3 (hT.pure hT3)).mono ?_); rintro e w4 ⟨r4, rfl, P4, hB4⟩; obtain ⟨Pa, Pc, rfl⟩ := own_lenB P4; have R4 := R3.pure hB4; have Q4 := Q3.pure hB4; have A4 := A3.pure hB4; have B4 := B3.pure hB4; have O4 := O3.pure hB4; have hT4 := hT3.trans (hB4.mono hT3.size); have c40 := A4.at 0 rfl; have c41 := A4.at 1 rfl; have c42 := A4.at 2 rfl; have c43 := A4.at 3 rfl; have c44 := A4.at 4 rfl; have d40 := B4.at 0 rfl; have d41 := B4.at 1 rfl; have d42 := B4.at 2 rfl; have d43 := B4.at 3 rfl; have d44 := B4.at 4 rfl))
  have O4s := O4.slc byEnc_len; have P4s := P4.slc byEnc_len
  obtain ⟨s1, hs1⟩ : ∃ s1 : ByteArray, (⟨bx.toArray⟩ : ByteArray) = s1 := ⟨_, rfl⟩
  obtain ⟨s2, hs2⟩ : ∃ s2 : ByteArray, (⟨by_.toArray⟩ : ByteArray) = s2 := ⟨_, rfl⟩
  have cv1 := Lib.hid (fun (u : World) (h : Below w4.heap.size w4 u) => show (convert 31 9 (.slice Oa bx.length Oc)).run Tryd.prog u = .ok (.string s1) u by rw [← hs1]; exact conv_str u _ _ (O4s.pure h))
  have cv2 := Lib.hid (fun (u : World) (h : Below w4.heap.size w4 u) => show (convert 31 9 (.slice Pa by_.length Pc)).run Tryd.prog u = .ok (.string s2) u by rw [← hs2]; exact conv_str u _ _ (P4s.pure h))
  have hAll := Lib.hid (fun (u : World) (h : Below w4.heap.size w4 u) => (⟨A4.pure h, B4.pure h⟩ : Blk u _ _ ∧ Blk u _ _))
  by_cases hv : vx = vy
  · have hvq := Lib.hid hv
    have hss : s1 = s2 := by rw [← hs1, ← hs2, hebx.out, heby.out, hv]
    subst hss
    clear hv hs1 hs2
    have hb := below_refl_dr w4
    refine wp_region_held_drew (S := fun u => Below w4.heap.size w4 u) (by kernel_rfl) hb (fun hHeld => ?_)
    refine takeY 0 35 rfl rfl (v := ?_) ?_ hHeld ?_
    rotate_left 1
    · (intro u hSw; (try dsimp only at hSw); clear hSw; go_simp; (try with_reducible rfl))
    try simp only [Act.put, lsT, lsZ, lsS]
    refine takeY 1 36 rfl rfl (v := ?_) ?_ hHeld ?_
    rotate_left 1
    · (intro u hSw; (try dsimp only at hSw); have k := cv1.out u hSw; clear hSw; go_simp; (try with_reducible rfl))
    try simp only [Act.put, lsT, lsZ, lsS]
    refine takeY 2 37 rfl rfl (v := ?_) ?_ hHeld ?_
    rotate_left 1
    · (intro u hSw; (try dsimp only at hSw); clear hSw; go_simp; (try with_reducible rfl))
    try simp only [Act.put, lsT, lsZ, lsS]
    refine takeY 3 38 rfl rfl (v := ?_) ?_ hHeld ?_
    rotate_left 1
    · (intro u hSw; (try dsimp only at hSw); have k := cv2.out u hSw; clear hSw; go_simp; (try with_reducible rfl))
    try simp only [Act.put, lsT, lsZ, lsS]
    refine takeY 4 39 rfl rfl (v := ?_) ?_ hHeld ?_
    rotate_left 1
    · (intro u hSw; (try dsimp only at hSw); clear hSw; go_simp; (try with_reducible rfl))
    try simp only [Act.put, lsT, lsZ, lsS]
    refine takeY 5 40 rfl rfl (v := ?_) ?_ hHeld ?_
    rotate_left 1
    · (intro u hSw; (try dsimp only at hSw); have q := (hAll.out u hSw).1; have m0 := q.at 0 rfl; have m1 := q.at 1 rfl; have m2 := q.at 2 rfl; have m3 := q.at 3 rfl; have m4 := q.at 4 rfl; clear hSw; go_simp; (try with_reducible rfl))
    try simp only [Act.put, lsT, lsZ, lsS]
    refine takeY 6 41 rfl rfl (v := ?_) ?_ hHeld ?_
    rotate_left 1
    · (intro u hSw; (try dsimp only at hSw); have q := (hAll.out u hSw).2; have m0 := q.at 0 rfl; have m1 := q.at 1 rfl; have m2 := q.at 2 rfl; have m3 := q.at 3 rfl; have m4 := q.at 4 rfl; clear hSw; go_simp; (try with_reducible rfl))
    try simp only [Act.put, lsT, lsZ, lsS]
    refine wpAnyH_ready (rs := [7]) (by kernel_rfl) (by simp) ?_
    refine AllReadyH.cons rfl (fun K hK => ?_) AllReadyH.nil
    go_simp
    go_at_call 18
    refine (psame_yes (R4.pure hb) (Q4.pure hb) (by rw [hvh.out.1, hvh.out.2, hvq.out])).mono ?_
    rintro e w5 ⟨rfl, hB5⟩
    have hb := hb.trans (hB5.mono hb.size)
    refine hK.out _ _ hb (fun hHeld => ?_)
    clear hK K
    try simp only [Act.put, lsT, lsZ, lsS]
    refine takeY 8 43 rfl rfl (v := ?_) ?_ hHeld ?_
    rotate_left 1
    · (intro u hSw; (try dsimp only at hSw); clear hSw; go_simp; (try with_reducible rfl))
    try simp only [Act.put, lsT, lsZ, lsS]
    refine takeY 9 44 rfl rfl (v := ?_) ?_ hHeld ?_
    rotate_left 1
    · (intro u hSw; (try dsimp only at hSw); clear hSw; go_simp; (try with_reducible rfl))
    try simp only [Act.put, lsT, lsZ, lsS]
    refine wpAnyH_ready (rs := [10]) (by kernel_rfl) (by simp) ?_
    refine AllReadyH.cons rfl (fun K hK => ?_) AllReadyH.nil
    go_simp
    go_at_call 10
    refine (head_any _ (hT.pure (hT4.trans (hb.mono hT4.size)))).mono ?_
    rintro e w6 ⟨rfl, hB6⟩
    have hb := hb.trans (hB6.mono hb.size)
    refine hK.out _ _ hb (fun hHeld => ?_)
    clear hK K
    try simp only [Act.put, lsT, lsZ, lsS]
    refine takeY 11 46 rfl rfl (v := ?_) ?_ hHeld ?_
    rotate_left 1
    · (intro u hSw; (try dsimp only at hSw); clear hSw; go_simp; (try with_reducible rfl))
    try simp only [Act.put, lsT, lsZ, lsS]
    refine wpAnyH_ready (rs := [12]) (by kernel_rfl) (by simp) ?_
    refine AllReadyH.cons rfl (fun K hK => ?_) AllReadyH.nil
    go_simp
    refine hK.out _ _ hb (fun hHeld => ?_)
    clear hK K
    try simp only [Act.put, lsT, lsZ, lsS]
    refine wpAnyH_done (by kernel_rfl) ?_ _
    go_wp2
    go_ret
    exact ⟨rfl, hT4.trans (hb.mono hT4.size)⟩
  · have hvq := Lib.hid hv
    have hsn : s1 ≠ s2 := fun e => hv (bytes_inj hwfx.out hwfy.out hcxh.out hcyh.out (by rw [← hebx.out, ← heby.out]; exact str_eq.1 (by rw [hs1, hs2, e])))
    have n1 := ba_toList_ne hsn
    have n2 : (s1.toList == s2.toList) = false := by simp [n1]
    clear hv hs1 hs2 hsn
    have hb := below_refl_dr w4
    refine wp_region_held_drew (S := fun u => Below w4.heap.size w4 u) (by kernel_rfl) hb (fun hHeld => ?_)
    refine takeY 0 35 rfl rfl (v := ?_) ?_ hHeld ?_
    rotate_left 1
    · (intro u hSw; (try dsimp only at hSw); clear hSw; go_simp; (try with_reducible rfl))
    try simp only [Act.put, lsT, lsZ, lsS]
    refine takeY 1 36 rfl rfl (v := ?_) ?_ hHeld ?_
    rotate_left 1
    · (intro u hSw; (try dsimp only at hSw); have k := cv1.out u hSw; clear hSw; go_simp; (try with_reducible rfl))
    try simp only [Act.put, lsT, lsZ, lsS]
    refine takeY 2 37 rfl rfl (v := ?_) ?_ hHeld ?_
    rotate_left 1
    · (intro u hSw; (try dsimp only at hSw); clear hSw; go_simp; (try with_reducible rfl))
    try simp only [Act.put, lsT, lsZ, lsS]
    refine takeY 3 38 rfl rfl (v := ?_) ?_ hHeld ?_
    rotate_left 1
    · (intro u hSw; (try dsimp only at hSw); have k := cv2.out u hSw; clear hSw; go_simp; (try with_reducible rfl))
    try simp only [Act.put, lsT, lsZ, lsS]
    refine takeY 4 39 rfl rfl (v := ?_) ?_ hHeld ?_
    rotate_left 1
    · (intro u hSw; (try dsimp only at hSw); clear hSw; go_simp; (try with_reducible rfl))
    try simp only [Act.put, lsT, lsZ, lsS]
    refine takeY 5 40 rfl rfl (v := ?_) ?_ hHeld ?_
    rotate_left 1
    · (intro u hSw; (try dsimp only at hSw); have q := (hAll.out u hSw).1; have m0 := q.at 0 rfl; have m1 := q.at 1 rfl; have m2 := q.at 2 rfl; have m3 := q.at 3 rfl; have m4 := q.at 4 rfl; clear hSw; go_simp; (try with_reducible rfl))
    try simp only [Act.put, lsT, lsZ, lsS]
    refine takeY 6 41 rfl rfl (v := ?_) ?_ hHeld ?_
    rotate_left 1
    · (intro u hSw; (try dsimp only at hSw); have q := (hAll.out u hSw).2; have m0 := q.at 0 rfl; have m1 := q.at 1 rfl; have m2 := q.at 2 rfl; have m3 := q.at 3 rfl; have m4 := q.at 4 rfl; clear hSw; go_simp; (try with_reducible rfl))
    try simp only [Act.put, lsT, lsZ, lsS]
    refine wpAnyH_ready (rs := [7]) (by kernel_rfl) (by simp) ?_
    refine AllReadyH.cons rfl (fun K hK => ?_) AllReadyH.nil
    go_simp
    go_at_call 18
    refine (psame_no (R4.pure hb) (Q4.pure hb) (by rw [hvh.out.1, hvh.out.2]; exact hvq.out)).mono ?_
    rintro e w5 ⟨rfl, hB5⟩
    have hb := hb.trans (hB5.mono hb.size)
    refine hK.out _ _ hb (fun hHeld => ?_)
    clear hK K
    try simp only [Act.put, lsT, lsZ, lsS]
    refine takeY 8 43 rfl rfl (v := ?_) ?_ hHeld ?_
    rotate_left 1
    · (intro u hSw; (try dsimp only at hSw); clear hSw; go_simp; (try with_reducible rfl))
    try simp only [Act.put, lsT, lsZ, lsS]
    refine takeY 9 44 rfl rfl (v := ?_) ?_ hHeld ?_
    rotate_left 1
    · (intro u hSw; (try dsimp only at hSw); clear hSw; go_simp; (try with_reducible rfl))
    try simp only [Act.put, lsT, lsZ, lsS]
    refine wpAnyH_ready (rs := [10]) (by kernel_rfl) (by simp) ?_
    refine AllReadyH.cons rfl (fun K hK => ?_) AllReadyH.nil
    go_simp
    go_at_call 10
    refine (head_any _ (hT.pure (hT4.trans (hb.mono hT4.size)))).mono ?_
    rintro e w6 ⟨rfl, hB6⟩
    have hb := hb.trans (hB6.mono hb.size)
    refine hK.out _ _ hb (fun hHeld => ?_)
    clear hK K
    try simp only [Act.put, lsT, lsZ, lsS]
    refine takeY 11 46 rfl rfl (v := ?_) ?_ hHeld ?_
    rotate_left 1
    · (intro u hSw; (try dsimp only at hSw); clear hSw; go_simp; (try with_reducible rfl))
    try simp only [Act.put, lsT, lsZ, lsS]
    refine wpAnyH_ready (rs := [12]) (by kernel_rfl) (by simp) ?_
    refine AllReadyH.cons rfl (fun K hK => ?_) AllReadyH.nil
    go_simp
    refine hK.out _ _ hb (fun hHeld => ?_)
    clear hK K
    try simp only [Act.put, lsT, lsZ, lsS]
    refine wpAnyH_done (by kernel_rfl) ?_ _
    go_wp2
    go_ret
    exact ⟨rfl, hT4.trans (hb.mono hT4.size)⟩
end Go.Proofs.YtokemjpobfjiaaaDoor

/- The statement ValueOneCardSaid: whatever its arguments are, the law ValueOne returns true, and leaves its arguments as they were. Conditions: none beyond the statement's own. -/
namespace Go.Proofs.YtokemjpobfjiaaaDoor.holdValueOne
open Go.ChangeShapes Go.WideShapes Go.ChangeAt Go.RowKit
set_option maxRecDepth 100000

theorem ownK : ownKnob Tryd.prog.godebug = none := by kernel_rfl
theorem laidO : laidOutB Tryd.prog = true := by kernel_rfl

theorem laid_met (os : Os) (args : Array Value) : laidMetH Tryd.prog Rows.valueOneRow.laid ((World.laidAll Tryd.prog os LAID).forCall (fun _ _ => 0) ⟨#[], args, []⟩).memory := by
  rw [MakeChecks.laidMetH_plain _ _ _ (by kernel_rfl)]
  exact laidMet_laidAll (laid := LAID) _ (by kernel_rfl) (by kernel_rfl)
theorem reads (os : Os) {H : Type} (enc : TypeId × Value → H) : ∃ places, DataW.whole enc Tryd.prog ((World.laidAll Tryd.prog os LAID).forCall (fun _ _ => 0) ⟨#[], #[.agg #[.int .u8 0, .int .u64 0, .string ⟨#[]⟩, .slice none 0 0, .slice none 0 0], .agg #[.int .u8 0, .int .u64 0, .string ⟨#[]⟩, .slice none 0 0, .slice none 0 0]], []⟩).memory Tryd.f7.params.toList Rows.valueOneSpec.vars false (#[.agg #[.int .u8 0, .int .u64 0, .string ⟨#[]⟩, .slice none 0 0, .slice none 0 0], .agg #[.int .u8 0, .int .u64 0, .string ⟨#[]⟩, .slice none 0 0, .slice none 0 0]] : Array Value).toList 8 = some ([.agg [.lit (.int .u8 0), .lit (.int .u64 0), .lit (.string []), .nil, .nil], .agg [.lit (.int .u8 0), .lit (.int .u64 0), .lit (.string []), .nil, .nil]], [], places) :=
  ⟨[], by kernel_rfl⟩
set_option maxHeartbeats 1000000 in
theorem lifted (os : Os) (started : os.Started) (H : Type) (enc : TypeId × Value → H) (F : Stop.Interp) :
    ReturnsInHanded {} Tryd.checked os 7 .any ((OpenSpec.ofChange Rows.valueOneSpec).preRow enc Tryd.prog Tryd.f7 Rows.valueOneRow.domain false Rows.valueOneRow.laid) (((OpenSpec.ofChange Rows.valueOneSpec).at F).post enc Tryd.prog Tryd.f7 false true false false) := by
  obtain ⟨places, hx⟩ := reads os enc
  refine returnsInHanded_of_row (C := Tryd.checked) (s := OpenSpec.ofChange Rows.valueOneSpec) ownK started (by kernel_rfl) Tryd.func7
    (witness_row_at (enc := enc) (C := Tryd.checked) false (World.laidAll Tryd.prog os LAID) #[.agg #[.int .u8 0, .int .u64 0, .string ⟨#[]⟩, .slice none 0 0, .slice none 0 0], .agg #[.int .u8 0, .int .u64 0, .string ⟨#[]⟩, .slice none 0 0, .slice none 0 0]] (World.laidAll_os _ _ _) (by kernel_rfl) (by kernel_rfl) (by kernel_rfl)
      (OpenSpec.preRow_of_cond 8 hx (by kernel_rfl) (fun k hk => by cases hk) (by kernel_rfl) (laid_met os _))) ?_
  intro W base args ds gs before hval0 hW _ _ _ hL _ _
  rw [MakeChecks.laidMetH_plain _ _ _ (by kernel_rfl)] at hL
  have hT := tb_of_laid hL
  clear hL
  have hval : ∀ (j : Nat) t v, Tryd.f7.params[j]? = some t → args[j]? = some v → Value.okWide Tryd.prog W .any base t v := hval0
  have hW' := hW
  obtain ⟨p, q, hA0, hV, rfl, hfz, hnd⟩ := hW
  have hA : DataW.TrodAll enc Tryd.prog W 0 (fun _ => true) true Tryd.f7.params.toList args.toList ds p := hA0
  rw [Tryd.params7] at hA hval
  obtain ⟨v0, vs0, d0, ds0, p0, q0, hargs, rfl, rfl, h0, r0⟩ := trodAll_cons hA
  obtain ⟨v1, vs1, d1, ds1, p1, q1, rfl, rfl, rfl, h1, r1⟩ := trodAll_cons r0
  obtain ⟨rfl, rfl, rfl⟩ := trodAll_nil r1
  obtain rfl : args = #[v0, v1] := by cases args; simp_all
  obtain ⟨rfl, rfl⟩ := trodVars_none hV
  have k0 := hval 0 27 v0 rfl rfl
  have k1 := hval 1 27 v1 rfl rfl
  clear hA0 hval0 hval
  simp only [List.append_nil] at hW'
  have hlt : ∀ x ∈ p0 ++ p1, x.block < W.heap.size := fun x hx => by simpa using hW'.lt x (by simpa using hx)
  have g0 : ∀ W', Below W.heap.size W W' → DataW.Trod enc Tryd.prog W' 0 (fun b => decide (b < W.heap.size)) true 27 v0 d0 p0 := fun W' hn => Below.trod laidO (by kernel_rfl) (of_decide_eq_true (by kernel_rfl)) h0 hn (fun x hx => hlt x (by simp [hx]))
  have g1 : ∀ W', Below W.heap.size W W' → DataW.Trod enc Tryd.prog W' 0 (fun b => decide (b < W.heap.size)) true 27 v1 d1 p1 := fun W' hn => Below.trod laidO (by kernel_rfl) (of_decide_eq_true (by kernel_rfl)) h1 hn (fun x hx => hlt x (by simp [hx]))
  obtain ⟨t0, rfl, R0⟩ := open_value k0 h0
  obtain ⟨t1, rfl, R1⟩ := open_value k1 h1
  refine (valueOne_law W R0 R1 hT).mono fun e W' ⟨he, hb⟩ => ?_
  subst he
  exact ⟨_, rfl, _, _, _, [], _, [], hW', trodAll_cons_mk (shut_bool Tryd.underlying4 _) trodAll_mk0, (trodAll_cons_mk (g0 _ hb) (trodAll_cons_mk (g1 _ hb) trodAll_mk0)), rfl, hb.frame _, fun h => by cases h⟩

theorem said : Rows.ValueOneSaid :=
  OpenClaim.holds_of_cond 7 Tryd.f7 rfl rfl rfl rfl rfl rfl rfl ⟨rfl, rfl, rfl, rfl, rfl⟩ rfl rfl rfl rfl rfl (by kernel_rfl) Tryd.func7 (by kernel_rfl)
    (of_decide_eq_true (by kernel_rfl)) (by unfold Func.isWrapper; first | (rw [if_pos (by decide +kernel)]; kernel_rfl) | (rw [if_neg (by decide +kernel)]; exact ⟨rfl, rfl⟩))
    (fun os started H enc _ F => by rw [OpenClaim.pre_eq_preRow]; exact lifted os started H enc F)
theorem plainP (f : FuncId) (fn : Func) (hf : Tryd.pinned.checked.prog.funcNamed "posthouse/posthouselaw05.ValueOne" = some f) (hfn : Tryd.pinned.checked.prog.funcs[f]? = some fn) :
    true = Tryd.pinned.checked.prog.looks [] ∧ ∀ (j : Nat) t, fn.params[j]? = some t → Tryd.pinned.checked.prog.wantsStandIn t = false := by
  obtain rfl : f = 7 := Option.some.inj ((show Tryd.prog.funcNamed "posthouse/posthouselaw05.ValueOne" = some 7 by kernel_rfl).symm.trans hf) |>.symm
  obtain rfl : fn = Tryd.f7 := (Option.some.inj (Tryd.func7.symm.trans hfn)).symm
  refine ⟨by kernel_rfl, fun j t ht => ?_⟩
  rw [Tryd.params7] at ht
  have hm := Array.mem_of_getElem? ht
  simp only [List.mem_toArray, List.mem_cons, List.not_mem_nil, or_false] at hm
  rcases hm with rfl | rfl <;> exact (show Tryd.prog.wantsStandIn _ = false by kernel_rfl)
/-- The card. -/
theorem card : Rows.ValueOneCardSaid :=
  Claim7.holds_tied_plain_at .later [] _ _ _ _ said (fun _ h => by cases h) (by kernel_rfl) (fun _ h => by cases h) valueOne_row_tie rfl ⟨rfl, rfl⟩ (by kernel_rfl) rfl plainP (by kernel_rfl)
end Go.Proofs.YtokemjpobfjiaaaDoor.holdValueOne
namespace Go.Proofs.YtokemjpobfjiaaaDoor
set_option linter.unusedSimpArgs false
set_option linter.unusedVariables false
theorem valueOneCard_holds : Rows.ValueOneCardSaid := holdValueOne.card
#print axioms valueOneCard_holds
end Go.Proofs.YtokemjpobfjiaaaDoor
