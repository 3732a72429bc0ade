/- The statement PropsSameCardSaid: whatever its arguments are, the law PropsSame returns true, and leaves its arguments as they were. Conditions: none beyond the statement's own. (Texts joined; the heads of the others stand below.) -/
import Derived.Test.YtogkbbnpkckfdaaDoorPK
import Derived.Test.YtogkbbnpkckfdaaDoorKA
import Derived.Test.YtogkbbnpkckfdaaDoorCards
import Derived.Test.YtogkbbnpkckfdaaDoorTie
import Derived.ProofKit
import Derived.OpenShut
import Derived.Deep.DeepHandedRow
import Derived.Lay
import Derived.SevenTiedAt

/- PropsSame: the law's walk. Conditions: utf8's tables are laid. Written by gen_prL.py. -/
namespace Go.Proofs.YtogkbbnpkckfdaaDoor
set_option linter.unusedSimpArgs false
set_option linter.unusedVariables false
open Go.RowKit
set_option maxRecDepth 100000 in
set_option maxHeartbeats 12800000 in
theorem propsSame_law (w : World) {pt : PT} (ht : Rd (fun i => i < w.heap.size) w pt.app) {pu : PT} (hu : Rd (fun i => i < w.heap.size) w pu.app) (hT : Tb w) : Calls Tryd.prog 5 #[pt.arg, pu.arg] w fun e w' => e = .returned (.bool true) ∧ Below w.heap.size w w' := by
  obtain ⟨key, dur, red, mid, tv⟩ := pt
  have ht : Rd _ _ tv := ht
  have hwt := Lib.hid ht.wf
  obtain ⟨tk, tn, ts, tka, tkc, tla, tlc, tks, tl, rfl, -⟩ := ht.open
  have hwt : Hid ((VT.mk tk tn ts (.slice tka tks.length tkc) (.slice tla tl.length tlc) tks tl).v.Wf) := hwt
  rw [PT.arg_mk]
  obtain ⟨qt, hqt⟩ : ∃ q, (PT.mk key dur red mid (VT.mk tk tn ts (.slice tka tks.length tkc) (.slice tla tl.length tlc) tks tl)).p = q := ⟨_, rfl⟩
  have hqwt := Lib.hid (show qt.app.Wf by rw [← hqt]; exact hwt.out)
  have hqth := Lib.hid hqt
  clear hqt hwt
  obtain ⟨keyu, duru, redu, midu, uv⟩ := pu
  have hu : Rd _ _ uv := hu
  have hwu := Lib.hid hu.wf
  obtain ⟨uk, un, us, uka, ukc, ula, ulc, uks, ul, rfl, -⟩ := hu.open
  have hwu : Hid ((VT.mk uk un us (.slice uka uks.length ukc) (.slice ula ul.length ulc) uks ul).v.Wf) := hwu
  rw [PT.arg_mk]
  obtain ⟨qu, hqu⟩ : ∃ q, (PT.mk keyu duru redu midu (VT.mk uk un us (.slice uka uks.length ukc) (.slice ula ul.length ulc) uks ul)).p = q := ⟨_, rfl⟩
  have hqwu := Lib.hid (show qu.app.Wf by rw [← hqu]; exact hwu.out)
  have hquh := Lib.hid hqu
  clear hqu hwu
  have hT0 : Below w.heap.size w ((w.alloc (.cells #[.string key, .bool dur, .bool red, .string mid, .int .u8 tk, .int .u64 tn, .string ts, .slice tka tks.length tkc, .slice tla tl.length tlc] 29)).alloc (.cells #[.string keyu, .bool duru, .bool redu, .string midu, .int .u8 uk, .int .u64 un, .string us, .slice uka uks.length ukc, .slice ula ul.length ulc] 29)) := ((Below.refl _ _).alloc (Nat.le_refl _) _).alloc (by simp) _
  have Rt0 := ht.pure hT0
  have At0 := (Blk.new w [.string key, .bool dur, .bool red, .string mid, .int .u8 tk, .int .u64 tn, .string ts, .slice tka tks.length tkc, .slice tla tl.length tlc] 29).alloc (.cells #[.string keyu, .bool duru, .bool redu, .string midu, .int .u8 uk, .int .u64 un, .string us, .slice uka uks.length ukc, .slice ula ul.length ulc] 29)
  have ta0 := At0.at 0 rfl; have ta1 := At0.at 1 rfl; have ta2 := At0.at 2 rfl; have ta3 := At0.at 3 rfl; have ta4 := At0.at 4 rfl; have ta5 := At0.at 5 rfl; have ta6 := At0.at 6 rfl; have ta7 := At0.at 7 rfl; have ta8 := At0.at 8 rfl
  have Ru0 := hu.pure hT0
  have Au0 := Blk.newK (w.alloc (.cells #[.string key, .bool dur, .bool red, .string mid, .int .u8 tk, .int .u64 tn, .string ts, .slice tka tks.length tkc, .slice tla tl.length tlc] 29)) [.string keyu, .bool duru, .bool redu, .string midu, .int .u8 uk, .int .u64 un, .string us, .slice uka uks.length ukc, .slice ula ul.length ulc] 29 (w.heap.size + 1) (by simp)
  have ua0 := Au0.at 0 rfl; have ua1 := Au0.at 1 rfl; have ua2 := Au0.at 2 rfl; have ua3 := Au0.at 3 rfl; have ua4 := Au0.at 4 rfl; have ua5 := Au0.at 5 rfl; have ua6 := Au0.at 6 rfl; have ua7 := Au0.at 7 rfl; have ua8 := Au0.at 8 rfl
  have zi := zero_info
  go_enter Tryd.func5, Tryd.ntmps5
  go_wp2_with fail
  have s1 := d9small_any (PT.mk key dur red mid (VT.mk tk tn ts (.slice tka tks.length tkc) (.slice tla tl.length tlc) tks tl)) _ _ Rt0
  rw [PT.arg_mk] at s1
  refine s1.mono ?_
  rintro e w1 ⟨⟨sb, rfl, hsm⟩, hB1⟩
  have Rt1 := Rt0.pure hB1; have At1 := At0.pure hB1; have Ru1 := Ru0.pure hB1; have Au1 := Au0.pure hB1; have hT1 := hT0.trans (hB1.mono hT0.size)
  clear s1 ta0 ta1 ta2 ta3 ta4 ta5 ta6 ta7 ta8 ua0 ua1 ua2 ua3 ua4 ua5 ua6 ua7 ua8
  have ta0 := At1.at 0 rfl; have ta1 := At1.at 1 rfl; have ta2 := At1.at 2 rfl; have ta3 := At1.at 3 rfl; have ta4 := At1.at 4 rfl; have ta5 := At1.at 5 rfl; have ta6 := At1.at 6 rfl; have ta7 := At1.at 7 rfl; have ta8 := At1.at 8 rfl
  have ua0 := Au1.at 0 rfl; have ua1 := Au1.at 1 rfl; have ua2 := Au1.at 2 rfl; have ua3 := Au1.at 3 rfl; have ua4 := Au1.at 4 rfl; have ua5 := Au1.at 5 rfl; have ua6 := Au1.at 6 rfl; have ua7 := Au1.at 7 rfl; have ua8 := Au1.at 8 rfl
  cases sb
  · clear hsm
    go_wp2_with (go_at_call 9; (with_reducible refine (head9_any _ (hT.pure hT1)).mono ?_); rintro e w9 ⟨rfl, hB9⟩; have hF := hT1.trans (hB9.mono hT1.size))
    go_ret
    exact ⟨rfl, hF⟩
  have hfitt := Lib.hid (hsm rfl).2.2
  clear hsm
  go_wp2_with fail
  have s1 := d9small_any (PT.mk keyu duru redu midu (VT.mk uk un us (.slice uka uks.length ukc) (.slice ula ul.length ulc) uks ul)) _ _ Ru1
  rw [PT.arg_mk] at s1
  refine s1.mono ?_
  rintro e w2 ⟨⟨sb, rfl, hsm⟩, hB2⟩
  have Rt2 := Rt1.pure hB2; have At2 := At1.pure hB2; have Ru2 := Ru1.pure hB2; have Au2 := Au1.pure hB2; have hT2 := hT1.trans (hB2.mono hT1.size)
  clear s1 ta0 ta1 ta2 ta3 ta4 ta5 ta6 ta7 ta8 ua0 ua1 ua2 ua3 ua4 ua5 ua6 ua7 ua8
  have ta0 := At2.at 0 rfl; have ta1 := At2.at 1 rfl; have ta2 := At2.at 2 rfl; have ta3 := At2.at 3 rfl; have ta4 := At2.at 4 rfl; have ta5 := At2.at 5 rfl; have ta6 := At2.at 6 rfl; have ta7 := At2.at 7 rfl; have ta8 := At2.at 8 rfl
  have ua0 := Au2.at 0 rfl; have ua1 := Au2.at 1 rfl; have ua2 := Au2.at 2 rfl; have ua3 := Au2.at 3 rfl; have ua4 := Au2.at 4 rfl; have ua5 := Au2.at 5 rfl; have ua6 := Au2.at 6 rfl; have ua7 := Au2.at 7 rfl; have ua8 := Au2.at 8 rfl
  cases sb
  · clear hsm
    go_wp2_with (go_at_call 9; (with_reducible refine (head9_any _ (hT.pure hT2)).mono ?_); rintro e w9 ⟨rfl, hB9⟩; have hF := hT2.trans (hB9.mono hT2.size))
    go_ret
    exact ⟨rfl, hF⟩
  have hfitu := Lib.hid (hsm rfl).2.2
  clear hsm
  go_upto_region 3 with fail
  obtain ⟨b, hbq⟩ : ∃ b : Bool, b = true ↔ qt = qu := by
    rcases Classical.em (qt = qu) with h | h
    · exact ⟨true, ⟨fun _ => h, fun _ => rfl⟩⟩
    · exact ⟨false, ⟨fun e => absurd e (by decide), fun e => absurd e h⟩⟩
  have hbqh := Lib.hid hbq
  have hAt := Lib.hid (fun (u : World) (h : Below w2.heap.size w2 u) => At2.pure h)
  have hAu := Lib.hid (fun (u : World) (h : Below w2.heap.size w2 u) => Au2.pure h)
  clear hbq hfitu ta0 ta1 ta2 ta3 ta4 ta5 ta6 ta7 ta8 ua0 ua1 ua2 ua3 ua4 ua5 ua6 ua7 ua8
  have hb := below_refl_dr w2
  refine wp_region_held_drew (S := fun u => Below w2.heap.size w2 u) (by kernel_rfl) hb (fun hHeld => ?_)
  refine takeY 0 14 rfl rfl (v := ?_) ?_ hHeld ?_
  rotate_left 1
  · (intro u hSw; (try dsimp only at hSw); have q := hAt.out u hSw; have m0 := q.at 0 rfl; have m1 := q.at 1 rfl; have m2 := q.at 2 rfl; have m3 := q.at 3 rfl; have m4 := q.at 4 rfl; have m5 := q.at 5 rfl; have m6 := q.at 6 rfl; have m7 := q.at 7 rfl; have m8 := q.at 8 rfl; clear hSw; go_simp; (try with_reducible rfl))
  try simp only [Act.put, lsT, lsZ, lsS]
  refine takeY 1 15 rfl rfl (v := ?_) ?_ hHeld ?_
  rotate_left 1
  · (intro u hSw; (try dsimp only at hSw); have q := hAu.out u hSw; have m0 := q.at 0 rfl; have m1 := q.at 1 rfl; have m2 := q.at 2 rfl; have m3 := q.at 3 rfl; have m4 := q.at 4 rfl; have m5 := q.at 5 rfl; have m6 := q.at 6 rfl; have m7 := q.at 7 rfl; have m8 := q.at 8 rfl; clear hSw; go_simp; (try with_reducible rfl))
  try simp only [Act.put, lsT, lsZ, lsS]
  refine takeY 3 17 rfl rfl (v := ?_) ?_ hHeld ?_
  rotate_left 1
  · (intro u hSw; (try dsimp only at hSw); have q := hAt.out u hSw; have m0 := q.at 0 rfl; have m1 := q.at 1 rfl; have m2 := q.at 2 rfl; have m3 := q.at 3 rfl; have m4 := q.at 4 rfl; have m5 := q.at 5 rfl; have m6 := q.at 6 rfl; have m7 := q.at 7 rfl; have m8 := q.at 8 rfl; clear hSw; go_simp; (try with_reducible rfl))
  try simp only [Act.put, lsT, lsZ, lsS]
  refine takeY 4 18 rfl rfl (v := ?_) ?_ hHeld ?_
  rotate_left 1
  · (intro u hSw; (try dsimp only at hSw); have q := hAu.out u hSw; have m0 := q.at 0 rfl; have m1 := q.at 1 rfl; have m2 := q.at 2 rfl; have m3 := q.at 3 rfl; have m4 := q.at 4 rfl; have m5 := q.at 5 rfl; have m6 := q.at 6 rfl; have m7 := q.at 7 rfl; have m8 := q.at 8 rfl; clear hSw; go_simp; (try with_reducible rfl))
  try simp only [Act.put, lsT, lsZ, lsS]
  refine wpAnyH_ready (rs := [2]) (by kernel_rfl) (by simp) ?_
  refine AllReadyH.cons rfl (fun K hK => ?_) AllReadyH.nil
  go_simp
  go_at_call 17
  refine ((p9same_any (PT.mk key dur red mid (VT.mk tk tn ts (.slice tka tks.length tkc) (.slice tla tl.length tlc) tks tl)) (PT.mk keyu duru redu midu (VT.mk uk un us (.slice uka uks.length ukc) (.slice ula ul.length ulc) uks ul)) _ _ _ (Rt2.pure hb) (Ru2.pure hb)).mono (fun e w' h => says_dec h b (by rw [hqth.out, hquh.out]; exact hbqh.out))).mono ?_
  rintro e wn ⟨rfl, hBn⟩
  have hb := hb.trans (hBn.mono hb.size)
  refine hK.out _ _ hb (fun hHeld => ?_)
  clear hK K
  try simp only [Act.put, lsT, lsZ, lsS]
  refine wpAnyH_ready (rs := [5]) (by kernel_rfl) (by simp) ?_
  refine AllReadyH.cons rfl (fun K hK => ?_) AllReadyH.nil
  go_simp
  go_at_call 14
  refine ((d9same_any (PT.mk key dur red mid (VT.mk tk tn ts (.slice tka tks.length tkc) (.slice tla tl.length tlc) tks tl)) (PT.mk keyu duru redu midu (VT.mk uk un us (.slice uka uks.length ukc) (.slice ula ul.length ulc) uks ul)) _ _ _ (Rt2.pure hb) (Ru2.pure hb)).mono (fun e w' h => says_dec h b (by rw [hqth.out, hquh.out]; exact hbqh.out))).mono ?_
  rintro e wn ⟨rfl, hBn⟩
  have hb := hb.trans (hBn.mono hb.size)
  refine hK.out _ _ hb (fun hHeld => ?_)
  clear hK K
  try simp only [Act.put, lsT, lsZ, lsS]
  refine takeY 6 20 rfl rfl (v := ?_) ?_ hHeld ?_
  rotate_left 1
  · (intro u hSw; (try dsimp only at hSw); clear hSw; go_simp; (try with_reducible rfl))
  try simp only [Act.put, lsT, lsZ, lsS]
  refine takeY 7 21 rfl rfl (v := ?_) ?_ hHeld ?_
  rotate_left 1
  · (intro u hSw; (try dsimp only at hSw); clear hSw; go_simp; (try with_reducible rfl))
  try simp only [Act.put, lsT, lsZ, lsS]
  refine takeY 8 22 rfl rfl (v := ?_) ?_ hHeld ?_
  rotate_left 1
  · (intro u hSw; (try dsimp only at hSw); have q := hAt.out u hSw; have m0 := q.at 0 rfl; have m1 := q.at 1 rfl; have m2 := q.at 2 rfl; have m3 := q.at 3 rfl; have m4 := q.at 4 rfl; have m5 := q.at 5 rfl; have m6 := q.at 6 rfl; have m7 := q.at 7 rfl; have m8 := q.at 8 rfl; clear hSw; go_simp; (try with_reducible rfl))
  try simp only [Act.put, lsT, lsZ, lsS]
  refine takeY 9 23 rfl rfl (v := ?_) ?_ hHeld ?_
  rotate_left 1
  · (intro u hSw; (try dsimp only at hSw); have q := hAt.out u hSw; have m0 := q.at 0 rfl; have m1 := q.at 1 rfl; have m2 := q.at 2 rfl; have m3 := q.at 3 rfl; have m4 := q.at 4 rfl; have m5 := q.at 5 rfl; have m6 := q.at 6 rfl; have m7 := q.at 7 rfl; have m8 := q.at 8 rfl; clear hSw; go_simp; (try with_reducible rfl))
  try simp only [Act.put, lsT, lsZ, lsS]
  refine wpAnyH_ready (rs := [10]) (by kernel_rfl) (by simp) ?_
  refine AllReadyH.cons rfl (fun K hK => ?_) AllReadyH.nil
  go_simp
  go_at_call 10
  refine (d9copy_any (PT.mk key dur red mid (VT.mk tk tn ts (.slice tka tks.length tkc) (.slice tla tl.length tlc) tks tl)) _ _ (Rt2.pure hb) hfitt.out).mono ?_
  rintro e wc ⟨⟨keyc, durc, redc, midc, cv⟩, he, hcp, hcR, hBn⟩
  have hcR : Rd _ _ cv := hcR
  obtain ⟨ck, cn, cs, cka, ckc, cla, clc, cks, cl, rfl, -⟩ := hcR.open
  rw [PT.arg_mk] at he
  subst he
  have hcq := Lib.hid (hcp.trans hqth.out); clear hcp
  have hb := hb.trans (hBn.mono hb.size)
  refine hK.out _ _ hb (fun hHeld => ?_)
  clear hK K
  try simp only [Act.put, lsT, lsZ, lsS]
  refine wpAnyH_ready (rs := [11]) (by kernel_rfl) (by simp) ?_
  refine AllReadyH.cons rfl (fun K hK => ?_) AllReadyH.nil
  go_simp
  go_at_call 17
  refine ((p9same_any (PT.mk key dur red mid (VT.mk tk tn ts (.slice tka tks.length tkc) (.slice tla tl.length tlc) tks tl)) (PT.mk keyc durc redc midc (VT.mk ck cn cs (.slice cka cks.length ckc) (.slice cla cl.length clc) cks cl)) _ _ _ (Rt2.pure hb) hcR).mono (fun e w' h => says_yes h (hqth.out.trans hcq.out.symm))).mono ?_
  rintro e wn ⟨rfl, hBn⟩
  have hb := hb.trans (hBn.mono hb.size)
  refine hK.out _ _ hb (fun hHeld => ?_)
  clear hK K
  try simp only [Act.put, lsT, lsZ, lsS]
  refine takeY 12 26 rfl rfl (v := ?_) ?_ hHeld ?_
  rotate_left 1
  · (intro u hSw; (try dsimp only at hSw); clear hSw; go_simp; (try with_reducible rfl))
  try simp only [Act.put, lsT, lsZ, lsS]
  refine takeY 13 27 rfl rfl (v := ?_) ?_ hHeld ?_
  rotate_left 1
  · (intro u hSw; (try dsimp only at hSw); clear hSw; go_simp; (try with_reducible rfl))
  try simp only [Act.put, lsT, lsZ, lsS]
  refine wpAnyH_ready (rs := [14]) (by kernel_rfl) (by simp) ?_
  refine AllReadyH.cons rfl (fun K hK => ?_) AllReadyH.nil
  go_simp
  go_at_call 9
  (with_reducible refine (head9_any _ (hT.pure (hT2.trans (hb.mono hT2.size)))).mono ?_)
  rintro e wn ⟨rfl, hBn⟩
  have hb := hb.trans (hBn.mono hb.size)
  refine hK.out _ _ hb (fun hHeld => ?_)
  clear hK K
  try simp only [Act.put, lsT, lsZ, lsS]
  refine takeY 15 29 rfl rfl (v := ?_) ?_ hHeld ?_
  rotate_left 1
  · (intro u hSw; (try dsimp only at hSw); clear hSw; go_simp; (try with_reducible rfl))
  try simp only [Act.put, lsT, lsZ, lsS]
  refine wpAnyH_ready (rs := [16]) (by kernel_rfl) (by simp) ?_
  refine AllReadyH.cons rfl (fun K hK => ?_) AllReadyH.nil
  go_simp
  refine hK.out _ _ hb (fun hHeld => ?_)
  clear hK K
  try simp only [Act.put, lsT, lsZ, lsS]
  refine wpAnyH_done (by kernel_rfl) ?_ _
  go_wp2
  go_ret
  exact ⟨rfl, hT2.trans (hb.mono hT2.size)⟩
end Go.Proofs.YtogkbbnpkckfdaaDoor

/- The statement PropsSameCardSaid: whatever its arguments are, the law PropsSame returns true, and leaves its arguments as they were. Conditions: none beyond the statement's own. -/
namespace Go.Proofs.YtogkbbnpkckfdaaDoor.holdPropsSame
open Go.ChangeShapes Go.WideShapes Go.ChangeAt Go.RowKit
set_option maxRecDepth 100000

theorem ownK : ownKnob Tryd.prog.godebug = none := by kernel_rfl
theorem laidO : laidOutB Tryd.prog = true := by kernel_rfl

theorem laid_met (os : Os) (args : Array Value) : laidMetH Tryd.prog Rows.propsSameRow.laid ((World.laidAll Tryd.prog os LAID).forCall (fun _ _ => 0) ⟨#[], args, []⟩).memory := by
  rw [MakeChecks.laidMetH_plain _ _ _ (by kernel_rfl)]
  exact laidMet_laidAll (laid := LAID) _ (by kernel_rfl) (by kernel_rfl)
theorem reads (os : Os) {H : Type} (enc : TypeId × Value → H) : ∃ places, DataW.whole enc Tryd.prog ((World.laidAll Tryd.prog os LAID).forCall (fun _ _ => 0) ⟨#[], #[.agg #[.string ⟨#[]⟩, .bool false, .bool false, .string ⟨#[]⟩, .int .u8 0, .int .u64 0, .string ⟨#[]⟩, .slice none 0 0, .slice none 0 0], .agg #[.string ⟨#[]⟩, .bool false, .bool false, .string ⟨#[]⟩, .int .u8 0, .int .u64 0, .string ⟨#[]⟩, .slice none 0 0, .slice none 0 0]], []⟩).memory Tryd.f5.params.toList Rows.propsSameSpec.vars false (#[.agg #[.string ⟨#[]⟩, .bool false, .bool false, .string ⟨#[]⟩, .int .u8 0, .int .u64 0, .string ⟨#[]⟩, .slice none 0 0, .slice none 0 0], .agg #[.string ⟨#[]⟩, .bool false, .bool false, .string ⟨#[]⟩, .int .u8 0, .int .u64 0, .string ⟨#[]⟩, .slice none 0 0, .slice none 0 0]] : Array Value).toList 8 = some ([.agg [.lit (.string []), .lit (.bool false), .lit (.bool false), .lit (.string []), .agg [.lit (.int .u8 0), .lit (.int .u64 0), .lit (.string []), .nil, .nil]], .agg [.lit (.string []), .lit (.bool false), .lit (.bool false), .lit (.string []), .agg [.lit (.int .u8 0), .lit (.int .u64 0), .lit (.string []), .nil, .nil]]], [], places) :=
  ⟨[], by kernel_rfl⟩
set_option maxHeartbeats 1000000 in
theorem lifted (os : Os) (started : os.Started) (H : Type) (enc : TypeId × Value → H) (F : Stop.Interp) :
    ReturnsInHanded {} Tryd.checked os 5 .any ((OpenSpec.ofChange Rows.propsSameSpec).preRow enc Tryd.prog Tryd.f5 Rows.propsSameRow.domain false Rows.propsSameRow.laid) (((OpenSpec.ofChange Rows.propsSameSpec).at F).post enc Tryd.prog Tryd.f5 false true false false) := by
  obtain ⟨places, hx⟩ := reads os enc
  refine returnsInHanded_of_row (C := Tryd.checked) (s := OpenSpec.ofChange Rows.propsSameSpec) ownK started (by kernel_rfl) Tryd.func5
    (witness_row_at (enc := enc) (C := Tryd.checked) false (World.laidAll Tryd.prog os LAID) #[.agg #[.string ⟨#[]⟩, .bool false, .bool false, .string ⟨#[]⟩, .int .u8 0, .int .u64 0, .string ⟨#[]⟩, .slice none 0 0, .slice none 0 0], .agg #[.string ⟨#[]⟩, .bool false, .bool false, .string ⟨#[]⟩, .int .u8 0, .int .u64 0, .string ⟨#[]⟩, .slice none 0 0, .slice none 0 0]] (World.laidAll_os _ _ _) (by kernel_rfl) (by kernel_rfl) (by kernel_rfl)
      (OpenSpec.preRow_of_cond 8 hx (by kernel_rfl) (fun k hk => by cases hk) (by kernel_rfl) (laid_met os _))) ?_
  intro W base args ds gs before hval0 hW _ _ _ hL _ _
  rw [MakeChecks.laidMetH_plain _ _ _ (by kernel_rfl)] at hL
  have hT := tb_of_laid hL
  clear hL
  have hval : ∀ (j : Nat) t v, Tryd.f5.params[j]? = some t → args[j]? = some v → Value.okWide Tryd.prog W .any base t v := hval0
  have hW' := hW
  obtain ⟨p, q, hA0, hV, rfl, hfz, hnd⟩ := hW
  have hA : DataW.TrodAll enc Tryd.prog W 0 (fun _ => true) true Tryd.f5.params.toList args.toList ds p := hA0
  rw [Tryd.params5] at hA hval
  obtain ⟨v0, vs0, d0, ds0, p0, q0, hargs, rfl, rfl, h0, r0⟩ := trodAll_cons hA
  obtain ⟨v1, vs1, d1, ds1, p1, q1, rfl, rfl, rfl, h1, r1⟩ := trodAll_cons r0
  obtain ⟨rfl, rfl, rfl⟩ := trodAll_nil r1
  obtain rfl : args = #[v0, v1] := by cases args; simp_all
  obtain ⟨rfl, rfl⟩ := trodVars_none hV
  have k0 := hval 0 29 v0 rfl rfl
  have k1 := hval 1 29 v1 rfl rfl
  clear hA0 hval0 hval
  simp only [List.append_nil] at hW'
  have hlt : ∀ x ∈ p0 ++ p1, x.block < W.heap.size := fun x hx => by simpa using hW'.lt x (by simpa using hx)
  have g0 : ∀ W', Below W.heap.size W W' → DataW.Trod enc Tryd.prog W' 0 (fun b => decide (b < W.heap.size)) true 29 v0 d0 p0 := fun W' hn => Below.trod laidO (by kernel_rfl) (of_decide_eq_true (by kernel_rfl)) h0 hn (fun x hx => hlt x (by simp [hx]))
  have g1 : ∀ W', Below W.heap.size W W' → DataW.Trod enc Tryd.prog W' 0 (fun b => decide (b < W.heap.size)) true 29 v1 d1 p1 := fun W' hn => Below.trod laidO (by kernel_rfl) (of_decide_eq_true (by kernel_rfl)) h1 hn (fun x hx => hlt x (by simp [hx]))
  obtain ⟨t0, rfl, R0⟩ := open_props k0 h0
  obtain ⟨t1, rfl, R1⟩ := open_props k1 h1
  refine (propsSame_law W R0 R1 hT).mono fun e W' ⟨he, hb⟩ => ?_
  subst he
  exact ⟨_, rfl, _, _, _, [], _, [], hW', trodAll_cons_mk (shut_bool Tryd.underlying4 _) trodAll_mk0, (trodAll_cons_mk (g0 _ hb) (trodAll_cons_mk (g1 _ hb) trodAll_mk0)), rfl, hb.frame _, fun h => by cases h⟩

theorem said : Rows.PropsSameSaid :=
  OpenClaim.holds_of_cond 5 Tryd.f5 rfl rfl rfl rfl rfl rfl rfl ⟨rfl, rfl, rfl, rfl, rfl⟩ rfl rfl rfl rfl rfl (by kernel_rfl) Tryd.func5 (by kernel_rfl)
    (of_decide_eq_true (by kernel_rfl)) (by unfold Func.isWrapper; first | (rw [if_pos (by decide +kernel)]; kernel_rfl) | (rw [if_neg (by decide +kernel)]; exact ⟨rfl, rfl⟩))
    (fun os started H enc _ F => by rw [OpenClaim.pre_eq_preRow]; exact lifted os started H enc F)
theorem plainP (f : FuncId) (fn : Func) (hf : Tryd.pinned.checked.prog.funcNamed "posthouse/posthouselaw09.PropsSame" = some f) (hfn : Tryd.pinned.checked.prog.funcs[f]? = some fn) :
    true = Tryd.pinned.checked.prog.looks [] ∧ ∀ (j : Nat) t, fn.params[j]? = some t → Tryd.pinned.checked.prog.wantsStandIn t = false := by
  obtain rfl : f = 5 := Option.some.inj ((show Tryd.prog.funcNamed "posthouse/posthouselaw09.PropsSame" = some 5 by kernel_rfl).symm.trans hf) |>.symm
  obtain rfl : fn = Tryd.f5 := (Option.some.inj (Tryd.func5.symm.trans hfn)).symm
  refine ⟨by kernel_rfl, fun j t ht => ?_⟩
  rw [Tryd.params5] at ht
  have hm := Array.mem_of_getElem? ht
  simp only [List.mem_toArray, List.mem_cons, List.not_mem_nil, or_false] at hm
  rcases hm with rfl | rfl <;> exact (show Tryd.prog.wantsStandIn _ = false by kernel_rfl)
/-- The card. -/
theorem card : Rows.PropsSameCardSaid :=
  Claim7.holds_tied_plain_at .later [] _ _ _ _ said (fun _ h => by cases h) (by kernel_rfl) (fun _ h => by cases h) propsSame_row_tie rfl ⟨rfl, rfl⟩ (by kernel_rfl) rfl plainP (by kernel_rfl)
end Go.Proofs.YtogkbbnpkckfdaaDoor.holdPropsSame
namespace Go.Proofs.YtogkbbnpkckfdaaDoor
set_option linter.unusedSimpArgs false
set_option linter.unusedVariables false
theorem propsSameCard_holds : Rows.PropsSameCardSaid := holdPropsSame.card
#print axioms propsSameCard_holds
end Go.Proofs.YtogkbbnpkckfdaaDoor
