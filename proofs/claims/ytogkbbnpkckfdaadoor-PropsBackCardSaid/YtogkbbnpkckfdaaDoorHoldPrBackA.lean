/- The statement PropsBackCardSaid: whatever its arguments are, the law PropsBack returns true, and leaves its arguments as they were. Conditions: none beyond the statement's own. (Texts joined; the heads of the others stand below.) -/
import Derived.Test.YtogkbbnpkckfdaaDoorPK
import Derived.Test.YtogkbbnpkckfdaaDoorCards
import Derived.Test.YtogkbbnpkckfdaaDoorTie
import Derived.ProofKit
import Derived.OpenShut
import Derived.Deep.DeepHandedRow
import Derived.Lay
import Derived.SevenTiedAt
import Derived.ChangeMaps5

/- PropsBack: the law's walk. Conditions: utf8's tables are laid. Written by gen_prL.py. -/
namespace Go.Proofs.YtogkbbnpkckfdaaDoor
set_option linter.unusedSimpArgs false
set_option linter.unusedVariables false
open Go.RowKit
set_option maxRecDepth 100000 in
set_option maxHeartbeats 12800000 in
theorem propsBack_law (w : World) {pt : PT} (ht : Rd (fun i => i < w.heap.size) w pt.app) (s : ByteArray) (hT : Tb w) : Calls Tryd.prog 6 #[pt.arg, .string s] w fun e w' => e = .returned (.bool true) ∧ Below w.heap.size w w' := by
  obtain ⟨key, dur, red, mid, tv⟩ := pt
  have ht : Rd _ _ tv := ht
  have hwt := Lib.hid ht.wf
  obtain ⟨tk, tn, ts, tka, tkc, tla, tlc, tks, tl, rfl, -⟩ := ht.open
  have hwt : Hid ((VT.mk tk tn ts (.slice tka tks.length tkc) (.slice tla tl.length tlc) tks tl).v.Wf) := hwt
  rw [PT.arg_mk]
  obtain ⟨qt, hqt⟩ : ∃ q, (PT.mk key dur red mid (VT.mk tk tn ts (.slice tka tks.length tkc) (.slice tla tl.length tlc) tks tl)).p = q := ⟨_, rfl⟩
  have hqwt := Lib.hid (show qt.app.Wf by rw [← hqt]; exact hwt.out)
  have hqth := Lib.hid hqt
  clear hqt hwt
  have hT0 : Below w.heap.size w (w.alloc (.cells #[.string key, .bool dur, .bool red, .string mid, .int .u8 tk, .int .u64 tn, .string ts, .slice tka tks.length tkc, .slice tla tl.length tlc] 29)) := (Below.refl _ _).alloc (Nat.le_refl _) _
  have Rt0 := ht.pure hT0
  have At0 := Blk.new w [.string key, .bool dur, .bool red, .string mid, .int .u8 tk, .int .u64 tn, .string ts, .slice tka tks.length tkc, .slice tla tl.length tlc] 29
  have ta0 := At0.at 0 rfl; have ta1 := At0.at 1 rfl; have ta2 := At0.at 2 rfl; have ta3 := At0.at 3 rfl; have ta4 := At0.at 4 rfl; have ta5 := At0.at 5 rfl; have ta6 := At0.at 6 rfl; have ta7 := At0.at 7 rfl; have ta8 := At0.at 8 rfl
  have zi := zero_info
  go_enter Tryd.func6, Tryd.ntmps6
  go_wp2_with fail
  have s1 := d9small_any (PT.mk key dur red mid (VT.mk tk tn ts (.slice tka tks.length tkc) (.slice tla tl.length tlc) tks tl)) _ _ Rt0
  rw [PT.arg_mk] at s1
  refine s1.mono ?_
  rintro e w1 ⟨⟨sb, rfl, hsm⟩, hB1⟩
  have Rt1 := Rt0.pure hB1; have At1 := At0.pure hB1; have hT1 := hT0.trans (hB1.mono hT0.size)
  clear s1 ta0 ta1 ta2 ta3 ta4 ta5 ta6 ta7 ta8
  have ta0 := At1.at 0 rfl; have ta1 := At1.at 1 rfl; have ta2 := At1.at 2 rfl; have ta3 := At1.at 3 rfl; have ta4 := At1.at 4 rfl; have ta5 := At1.at 5 rfl; have ta6 := At1.at 6 rfl; have ta7 := At1.at 7 rfl; have ta8 := At1.at 8 rfl
  cases sb
  · clear hsm
    go_wp2_with (go_at_call 9; (with_reducible refine (head9_any _ (hT.pure hT1)).mono ?_); rintro e w9 ⟨rfl, hB9⟩; have hF := hT1.trans (hB9.mono hT1.size))
    go_ret
    exact ⟨rfl, hF⟩
  have hfitt := Lib.hid (hsm rfl).2.2
  clear hsm
  by_cases h0 : 20000 < s.size
  · have h1 : decide ((20000 : Int) < (s.size : Int)) = true := decide_eq_true (by omega)
    have h2 : (20000 : Int) < (s.size : Int) := by omega
    clear h0
    go_wp2_with (go_at_call 9; (with_reducible refine (head9_any _ (hT.pure hT1)).mono ?_); rintro e w9 ⟨rfl, hB9⟩; have hF := hT1.trans (hB9.mono hT1.size))
    go_ret
    exact ⟨rfl, hF⟩
  have h1 : decide ((20000 : Int) < (s.size : Int)) = false := decide_eq_false (by omega)
  have h2 : ¬ (20000 : Int) < (s.size : Int) := by omega
  obtain ⟨oo, hoo⟩ : ∃ oo, pgO s.data.toList = oo := ⟨_, rfl⟩
  have g1 := Lib.hid (fun (u : World) (hu : Tb u) => show Calls Tryd.prog 15 #[.string s] u (GotP u oo) by have h := p9get_any u s (by omega) hu; rw [hoo] at h; exact h)
  have hooh := Lib.hid hoo
  clear h0 hoo
  obtain ⟨ct, hct⟩ : ∃ c, qt.chk = c := ⟨_, rfl⟩
  obtain ⟨st, hst⟩ : ∃ s, (if qt.chk = 0 then qt.text else (⟨#[]⟩ : ByteArray)) = s := ⟨_, rfl⟩
  have pPt := Lib.hid (fun (P : Nat → Prop) (u : World) (t : PT) (ht : t.p = qt) (hR : Rd P u t.app) (hT : Tb u) => show Calls Tryd.prog 11 #[t.arg] u (fun e w' => e = .returned (.tuple #[.string st, .int .i64 ct]) ∧ Below u.heap.size u w') by
    have h := p9put_any t P u hR hT
    rw [ht, hst, hct] at h; exact h)
  have hcth := Lib.hid hct; have hsth := Lib.hid hst
  clear hct hst hfitt
  go_upto_region 4 with (go_at_call 11; refine (pPt.out _ _ (PT.mk key dur red mid (VT.mk tk tn ts (.slice tka tks.length tkc) (.slice tla tl.length tlc) tks tl)) hqth.out Rt1 (hT.pure hT1)).mono ?_; rintro e w2 ⟨rfl, hB2⟩; have Rt2 := Rt1.pure hB2; have At2 := At1.pure hB2; have hT2 := hT1.trans (hB2.mono hT1.size); have tb0 := At2.at 0 rfl; have tb1 := At2.at 1 rfl; have tb2 := At2.at 2 rfl; have tb3 := At2.at 3 rfl; have tb4 := At2.at 4 rfl; have tb5 := At2.at 5 rfl; have tb6 := At2.at 6 rfl; have tb7 := At2.at 7 rfl; have tb8 := At2.at 8 rfl)
  clear ta0 ta1 ta2 ta3 ta4 ta5 ta6 ta7 ta8
  by_cases ht0 : ct = 0
  rotate_left 1
  · have b1 : (ct != 0) = true := bne_iff_ne.2 ht0
    have b2 : (ct == 0) = false := beq_eq_false_iff_ne.2 ht0
    clear ht0
    go_upto_region 8 with fail
    rcases oo with _ | p2
    · have hE := Lib.hid (show prE none = 90 from rfl)
      go_wp2_with (first | (go_at_call 15; (with_reducible refine (g1.out _ (hT.pure hT2)).mono ?_); rintro e w10 hg; obtain ⟨keyx, durx, redx, midx, xk, xn, xs, xka, xkc, xla, xlc, xks, xl, he, hpx, hRx, hB10⟩ := gotP_open hg; clear hg; rw [hE.out] at he; subst he; have hpxh := Lib.hid hpx; clear hpx; have hT10 := hT2.trans (hB10.mono hT2.size); have hD11 := ((Below.refl w10.heap.size w10).alloc (Nat.le_refl _) (.cells #[.string keyx, .bool durx, .bool redx, .string midx, .int .u8 xk, .int .u64 xn, .string xs, .slice xka xks.length xkc, .slice xla xl.length xlc] 29)); have hT11 := hT10.trans (hD11.mono hT10.size); have Rx11 := hRx.pure hD11; have Ax11 := Blk.new w10 [.string keyx, .bool durx, .bool redx, .string midx, .int .u8 xk, .int .u64 xn, .string xs, .slice xka xks.length xkc, .slice xla xl.length xlc] 29; have xa0 := Ax11.at 0 rfl; have xa1 := Ax11.at 1 rfl; have xa2 := Ax11.at 2 rfl; have xa3 := Ax11.at 3 rfl; have xa4 := Ax11.at 4 rfl; have xa5 := Ax11.at 5 rfl; have xa6 := Ax11.at 6 rfl; have xa7 := Ax11.at 7 rfl; have xa8 := Ax11.at 8 rfl) | (go_at_call 17; refine ((p9same_any (PT.mk keyx durx redx midx (VT.mk xk xn xs (.slice xka xks.length xkc) (.slice xla xl.length xlc) xks xl)) (PT.mk ⟨#[]⟩ false false ⟨#[]⟩ (VT.mk 0 0 ⟨#[]⟩ (.slice none 0 0) (.slice none 0 0) [] [])) _ (fun _ => True) _ Rx11 zt_rd).mono (fun e w' h => says_yes h (hpxh.out.trans pr_zt.symm))).mono ?_; rintro e w12 ⟨rfl, hB12⟩; have hT12 := hT11.trans (hB12.mono hT11.size)) | (go_at_call 9; (with_reducible refine (head9_any _ (hT.pure hT12)).mono ?_); rintro e w9 ⟨rfl, hB9⟩; have hF := hT12.trans (hB9.mono hT12.size)))
      go_ret
      exact ⟨rfl, hF⟩
    · have hE := Lib.hid (show prE (some p2) = 0 from rfl)
      have hg2 := pgO_got s.data.toList
      rw [hooh.out] at hg2
      have hg2h := Lib.hid (show p2.app.Wf ∧ p2.chk = 0 ∧ p2.bytes = s.data.toList from hg2)
      have pP2 := Lib.hid (fun (P : Nat → Prop) (u : World) (t : PT) (ht : t.p = p2) (hR : Rd P u t.app) (hT : Tb u) => show Calls Tryd.prog 11 #[t.arg] u (fun e w' => e = .returned (.tuple #[.string s, .int .i64 0]) ∧ Below u.heap.size u w') by
        have h := p9put_any t P u hR hT
        rw [ht, hg2h.out.2.1, if_pos rfl, text_eq.2 hg2h.out.2.2] at h; exact h)
      clear hg2
      go_wp2_with (first | (go_at_call 15; (with_reducible refine (g1.out _ (hT.pure hT2)).mono ?_); rintro e w10 hg; obtain ⟨keyx, durx, redx, midx, xk, xn, xs, xka, xkc, xla, xlc, xks, xl, he, hpx, hRx, hB10⟩ := gotP_open hg; clear hg; rw [hE.out] at he; subst he; have hpxh := Lib.hid hpx; clear hpx; have hT10 := hT2.trans (hB10.mono hT2.size); have hD11 := ((Below.refl w10.heap.size w10).alloc (Nat.le_refl _) (.cells #[.string keyx, .bool durx, .bool redx, .string midx, .int .u8 xk, .int .u64 xn, .string xs, .slice xka xks.length xkc, .slice xla xl.length xlc] 29)); have hT11 := hT10.trans (hD11.mono hT10.size); have Rx11 := hRx.pure hD11; have Ax11 := Blk.new w10 [.string keyx, .bool durx, .bool redx, .string midx, .int .u8 xk, .int .u64 xn, .string xs, .slice xka xks.length xkc, .slice xla xl.length xlc] 29; have xa0 := Ax11.at 0 rfl; have xa1 := Ax11.at 1 rfl; have xa2 := Ax11.at 2 rfl; have xa3 := Ax11.at 3 rfl; have xa4 := Ax11.at 4 rfl; have xa5 := Ax11.at 5 rfl; have xa6 := Ax11.at 6 rfl; have xa7 := Ax11.at 7 rfl; have xa8 := Ax11.at 8 rfl) | (go_at_call 11; refine (pP2.out _ _ (PT.mk keyx durx redx midx (VT.mk xk xn xs (.slice xka xks.length xkc) (.slice xla xl.length xlc) xks xl)) hpxh.out Rx11 (hT.pure hT11)).mono ?_; rintro e w12 ⟨rfl, hB12⟩; have hT12 := hT11.trans (hB12.mono hT11.size)) | (go_at_call 9; (with_reducible refine (head9_any _ (hT.pure hT12)).mono ?_); rintro e w9 ⟨rfl, hB9⟩; have hF := hT12.trans (hB9.mono hT12.size)))
      go_ret
      exact ⟨rfl, hF⟩
  subst ht0
  have ett : qt.text = st := by have h := hsth.out; rw [if_pos hcth.out] at h; exact h
  have g3 := Lib.hid (fun (u : World) (hu : Tb u) => show Calls Tryd.prog 15 #[.string st] u (GotP u (some qt)) by
    have h := p9get_any u st (by rw [← ett]; show qt.bytes.length ≤ 2000000; have := pr_len hcth.out; omega) hu
    rw [← text_eq.1 ett, prGot_put hqwt.out hcth.out (pgO_got qt.bytes)] at h
    exact h)
  clear ett
  go_upto_region 8 with (first | (go_at_call 15; (with_reducible refine (g3.out _ (hT.pure hT2)).mono ?_); rintro e w3 hg; obtain ⟨keyu, duru, redu, midu, uk, un, us, uka, ukc, ula, ulc, uks, ul, he, hpu, hRu, hB3⟩ := gotP_open hg; clear hg; rw [show prE (some qt) = 0 from rfl] at he; subst he; have hpuh := Lib.hid (show _ = qt from hpu); clear hpu; have Rt3 := Rt2.pure hB3; have At3 := At2.pure hB3; have hT3 := hT2.trans (hB3.mono hT2.size); have hD4 := ((Below.refl w3.heap.size w3).alloc (Nat.le_refl _) (.cells #[.string keyu, .bool duru, .bool redu, .string midu, .int .u8 uk, .int .u64 un, .string us, .slice uka uks.length ukc, .slice ula ul.length ulc] 29)); have Rt4 := Rt3.pure hD4; have At4 := At3.pure hD4; have hT4 := hT3.trans (hD4.mono hT3.size); have Ru4 := hRu.pure hD4; have Au4 := Blk.new w3 [.string keyu, .bool duru, .bool redu, .string midu, .int .u8 uk, .int .u64 un, .string us, .slice uka uks.length ukc, .slice ula ul.length ulc] 29; have ub0 := Au4.at 0 rfl; have ub1 := Au4.at 1 rfl; have ub2 := Au4.at 2 rfl; have ub3 := Au4.at 3 rfl; have ub4 := Au4.at 4 rfl; have ub5 := Au4.at 5 rfl; have ub6 := Au4.at 6 rfl; have ub7 := Au4.at 7 rfl; have ub8 := Au4.at 8 rfl; have tc0 := At4.at 0 rfl; have tc1 := At4.at 1 rfl; have tc2 := At4.at 2 rfl; have tc3 := At4.at 3 rfl; have tc4 := At4.at 4 rfl; have tc5 := At4.at 5 rfl; have tc6 := At4.at 6 rfl; have tc7 := At4.at 7 rfl; have tc8 := At4.at 8 rfl) | (go_at_call 17; refine ((p9same_any (PT.mk key dur red mid (VT.mk tk tn ts (.slice tka tks.length tkc) (.slice tla tl.length tlc) tks tl)) (PT.mk keyu duru redu midu (VT.mk uk un us (.slice uka uks.length ukc) (.slice ula ul.length ulc) uks ul)) _ _ _ Rt4 Ru4).mono (fun e w' h => says_yes h (hqth.out.trans hpuh.out.symm))).mono ?_; rintro e w5 ⟨rfl, hB5⟩; have hT5 := hT4.trans (hB5.mono hT4.size)))
  clear tb0 tb1 tb2 tb3 tb4 tb5 tb6 tb7 tb8 tc0 tc1 tc2 tc3 tc4 tc5 tc6 tc7 tc8 ub0 ub1 ub2 ub3 ub4 ub5 ub6 ub7 ub8
  rcases oo with _ | p2
  · have hE := Lib.hid (show prE none = 90 from rfl)
    go_wp2_with (first | (go_at_call 15; (with_reducible refine (g1.out _ (hT.pure hT5)).mono ?_); rintro e w10 hg; obtain ⟨keyx, durx, redx, midx, xk, xn, xs, xka, xkc, xla, xlc, xks, xl, he, hpx, hRx, hB10⟩ := gotP_open hg; clear hg; rw [hE.out] at he; subst he; have hpxh := Lib.hid hpx; clear hpx; have hT10 := hT5.trans (hB10.mono hT5.size); have hD11 := ((Below.refl w10.heap.size w10).alloc (Nat.le_refl _) (.cells #[.string keyx, .bool durx, .bool redx, .string midx, .int .u8 xk, .int .u64 xn, .string xs, .slice xka xks.length xkc, .slice xla xl.length xlc] 29)); have hT11 := hT10.trans (hD11.mono hT10.size); have Rx11 := hRx.pure hD11; have Ax11 := Blk.new w10 [.string keyx, .bool durx, .bool redx, .string midx, .int .u8 xk, .int .u64 xn, .string xs, .slice xka xks.length xkc, .slice xla xl.length xlc] 29; have xa0 := Ax11.at 0 rfl; have xa1 := Ax11.at 1 rfl; have xa2 := Ax11.at 2 rfl; have xa3 := Ax11.at 3 rfl; have xa4 := Ax11.at 4 rfl; have xa5 := Ax11.at 5 rfl; have xa6 := Ax11.at 6 rfl; have xa7 := Ax11.at 7 rfl; have xa8 := Ax11.at 8 rfl) | (go_at_call 17; refine ((p9same_any (PT.mk keyx durx redx midx (VT.mk xk xn xs (.slice xka xks.length xkc) (.slice xla xl.length xlc) xks xl)) (PT.mk ⟨#[]⟩ false false ⟨#[]⟩ (VT.mk 0 0 ⟨#[]⟩ (.slice none 0 0) (.slice none 0 0) [] [])) _ (fun _ => True) _ Rx11 zt_rd).mono (fun e w' h => says_yes h (hpxh.out.trans pr_zt.symm))).mono ?_; rintro e w12 ⟨rfl, hB12⟩; have hT12 := hT11.trans (hB12.mono hT11.size)) | (go_at_call 9; (with_reducible refine (head9_any _ (hT.pure hT12)).mono ?_); rintro e w9 ⟨rfl, hB9⟩; have hF := hT12.trans (hB9.mono hT12.size)))
    go_ret
    exact ⟨rfl, hF⟩
  · have hE := Lib.hid (show prE (some p2) = 0 from rfl)
    have hg2 := pgO_got s.data.toList
    rw [hooh.out] at hg2
    have hg2h := Lib.hid (show p2.app.Wf ∧ p2.chk = 0 ∧ p2.bytes = s.data.toList from hg2)
    have pP2 := Lib.hid (fun (P : Nat → Prop) (u : World) (t : PT) (ht : t.p = p2) (hR : Rd P u t.app) (hT : Tb u) => show Calls Tryd.prog 11 #[t.arg] u (fun e w' => e = .returned (.tuple #[.string s, .int .i64 0]) ∧ Below u.heap.size u w') by
      have h := p9put_any t P u hR hT
      rw [ht, hg2h.out.2.1, if_pos rfl, text_eq.2 hg2h.out.2.2] at h; exact h)
    clear hg2
    go_wp2_with (first | (go_at_call 15; (with_reducible refine (g1.out _ (hT.pure hT5)).mono ?_); rintro e w10 hg; obtain ⟨keyx, durx, redx, midx, xk, xn, xs, xka, xkc, xla, xlc, xks, xl, he, hpx, hRx, hB10⟩ := gotP_open hg; clear hg; rw [hE.out] at he; subst he; have hpxh := Lib.hid hpx; clear hpx; have hT10 := hT5.trans (hB10.mono hT5.size); have hD11 := ((Below.refl w10.heap.size w10).alloc (Nat.le_refl _) (.cells #[.string keyx, .bool durx, .bool redx, .string midx, .int .u8 xk, .int .u64 xn, .string xs, .slice xka xks.length xkc, .slice xla xl.length xlc] 29)); have hT11 := hT10.trans (hD11.mono hT10.size); have Rx11 := hRx.pure hD11; have Ax11 := Blk.new w10 [.string keyx, .bool durx, .bool redx, .string midx, .int .u8 xk, .int .u64 xn, .string xs, .slice xka xks.length xkc, .slice xla xl.length xlc] 29; have xa0 := Ax11.at 0 rfl; have xa1 := Ax11.at 1 rfl; have xa2 := Ax11.at 2 rfl; have xa3 := Ax11.at 3 rfl; have xa4 := Ax11.at 4 rfl; have xa5 := Ax11.at 5 rfl; have xa6 := Ax11.at 6 rfl; have xa7 := Ax11.at 7 rfl; have xa8 := Ax11.at 8 rfl) | (go_at_call 11; refine (pP2.out _ _ (PT.mk keyx durx redx midx (VT.mk xk xn xs (.slice xka xks.length xkc) (.slice xla xl.length xlc) xks xl)) hpxh.out Rx11 (hT.pure hT11)).mono ?_; rintro e w12 ⟨rfl, hB12⟩; have hT12 := hT11.trans (hB12.mono hT11.size)) | (go_at_call 9; (with_reducible refine (head9_any _ (hT.pure hT12)).mono ?_); rintro e w9 ⟨rfl, hB9⟩; have hF := hT12.trans (hB9.mono hT12.size)))
    go_ret
    exact ⟨rfl, hF⟩
end Go.Proofs.YtogkbbnpkckfdaaDoor

/- The statement PropsBackCardSaid: whatever its arguments are, the law PropsBack returns true, and leaves its arguments as they were. Conditions: none beyond the statement's own. -/
namespace Go.Proofs.YtogkbbnpkckfdaaDoor.holdPropsBack
open Go.ChangeShapes Go.WideShapes Go.ChangeAt Go.RowKit
set_option maxRecDepth 100000

theorem ownK : ownKnob Tryd.prog.godebug = none := by kernel_rfl
theorem laidO : laidOutB Tryd.prog = true := by kernel_rfl

theorem laid_met (os : Os) (args : Array Value) : laidMetH Tryd.prog Rows.propsBackRow.laid ((World.laidAll Tryd.prog os LAID).forCall (fun _ _ => 0) ⟨#[], args, []⟩).memory := by
  rw [MakeChecks.laidMetH_plain _ _ _ (by kernel_rfl)]
  exact laidMet_laidAll (laid := LAID) _ (by kernel_rfl) (by kernel_rfl)
theorem reads (os : Os) {H : Type} (enc : TypeId × Value → H) : ∃ places, DataW.whole enc Tryd.prog ((World.laidAll Tryd.prog os LAID).forCall (fun _ _ => 0) ⟨#[], #[.agg #[.string ⟨#[]⟩, .bool false, .bool false, .string ⟨#[]⟩, .int .u8 0, .int .u64 0, .string ⟨#[]⟩, .slice none 0 0, .slice none 0 0], .string ⟨#[]⟩], []⟩).memory Tryd.f6.params.toList Rows.propsBackSpec.vars false (#[.agg #[.string ⟨#[]⟩, .bool false, .bool false, .string ⟨#[]⟩, .int .u8 0, .int .u64 0, .string ⟨#[]⟩, .slice none 0 0, .slice none 0 0], .string ⟨#[]⟩] : Array Value).toList 8 = some ([.agg [.lit (.string []), .lit (.bool false), .lit (.bool false), .lit (.string []), .agg [.lit (.int .u8 0), .lit (.int .u64 0), .lit (.string []), .nil, .nil]], .lit (.string [])], [], places) :=
  ⟨[], by kernel_rfl⟩
set_option maxHeartbeats 1000000 in
theorem lifted (os : Os) (started : os.Started) (H : Type) (enc : TypeId × Value → H) (F : Stop.Interp) :
    ReturnsInHanded {} Tryd.checked os 6 .any ((OpenSpec.ofChange Rows.propsBackSpec).preRow enc Tryd.prog Tryd.f6 Rows.propsBackRow.domain false Rows.propsBackRow.laid) (((OpenSpec.ofChange Rows.propsBackSpec).at F).post enc Tryd.prog Tryd.f6 false true false false) := by
  obtain ⟨places, hx⟩ := reads os enc
  refine returnsInHanded_of_row (C := Tryd.checked) (s := OpenSpec.ofChange Rows.propsBackSpec) ownK started (by kernel_rfl) Tryd.func6
    (witness_row_at (enc := enc) (C := Tryd.checked) false (World.laidAll Tryd.prog os LAID) #[.agg #[.string ⟨#[]⟩, .bool false, .bool false, .string ⟨#[]⟩, .int .u8 0, .int .u64 0, .string ⟨#[]⟩, .slice none 0 0, .slice none 0 0], .string ⟨#[]⟩] (World.laidAll_os _ _ _) (by kernel_rfl) (by kernel_rfl) (by kernel_rfl)
      (OpenSpec.preRow_of_cond 8 hx (by kernel_rfl) (fun k hk => by cases hk) (by kernel_rfl) (laid_met os _))) ?_
  intro W base args ds gs before hval0 hW _ _ _ hL _ _
  rw [MakeChecks.laidMetH_plain _ _ _ (by kernel_rfl)] at hL
  have hT := tb_of_laid hL
  clear hL
  have hval : ∀ (j : Nat) t v, Tryd.f6.params[j]? = some t → args[j]? = some v → Value.okWide Tryd.prog W .any base t v := hval0
  have hW' := hW
  obtain ⟨p, q, hA0, hV, rfl, hfz, hnd⟩ := hW
  have hA : DataW.TrodAll enc Tryd.prog W 0 (fun _ => true) true Tryd.f6.params.toList args.toList ds p := hA0
  rw [Tryd.params6] at hA hval
  obtain ⟨v0, vs0, d0, ds0, p0, q0, hargs, rfl, rfl, h0, r0⟩ := trodAll_cons hA
  obtain ⟨v1, vs1, d1, ds1, p1, q1, rfl, rfl, rfl, h1, r1⟩ := trodAll_cons r0
  obtain ⟨rfl, rfl, rfl⟩ := trodAll_nil r1
  obtain rfl : args = #[v0, v1] := by cases args; simp_all
  obtain ⟨rfl, rfl⟩ := trodVars_none hV
  have k0 := hval 0 29 v0 rfl rfl
  have k1 := hval 1 9 v1 rfl rfl
  clear hA0 hval0 hval
  simp only [List.append_nil] at hW'
  have hlt : ∀ x ∈ p0 ++ p1, x.block < W.heap.size := fun x hx => by simpa using hW'.lt x (by simpa using hx)
  have g0 : ∀ W', Below W.heap.size W W' → DataW.Trod enc Tryd.prog W' 0 (fun b => decide (b < W.heap.size)) true 29 v0 d0 p0 := fun W' hn => Below.trod laidO (by kernel_rfl) (of_decide_eq_true (by kernel_rfl)) h0 hn (fun x hx => hlt x (by simp [hx]))
  have g1 : ∀ W', Below W.heap.size W W' → DataW.Trod enc Tryd.prog W' 0 (fun b => decide (b < W.heap.size)) true 9 v1 d1 p1 := fun W' hn => Below.trod laidO (by kernel_rfl) (of_decide_eq_true (by kernel_rfl)) h1 hn (fun x hx => hlt x (by simp [hx]))
  obtain ⟨t0, rfl, R0⟩ := open_props k0 h0
  obtain ⟨s1, rfl, rfl, rfl, -⟩ := Go.ChangeMaps.open_string Tryd.underlying9 k1 h1
  refine (propsBack_law W R0 s1 hT).mono fun e W' ⟨he, hb⟩ => ?_
  subst he
  exact ⟨_, rfl, _, _, _, [], _, [], hW', trodAll_cons_mk (shut_bool Tryd.underlying4 _) trodAll_mk0, (trodAll_cons_mk (g0 _ hb) (trodAll_cons_mk (g1 _ hb) trodAll_mk0)), rfl, hb.frame _, fun h => by cases h⟩

theorem said : Rows.PropsBackSaid :=
  OpenClaim.holds_of_cond 6 Tryd.f6 rfl rfl rfl rfl rfl rfl rfl ⟨rfl, rfl, rfl, rfl, rfl⟩ rfl rfl rfl rfl rfl (by kernel_rfl) Tryd.func6 (by kernel_rfl)
    (of_decide_eq_true (by kernel_rfl)) (by unfold Func.isWrapper; first | (rw [if_pos (by decide +kernel)]; kernel_rfl) | (rw [if_neg (by decide +kernel)]; exact ⟨rfl, rfl⟩))
    (fun os started H enc _ F => by rw [OpenClaim.pre_eq_preRow]; exact lifted os started H enc F)
theorem plainP (f : FuncId) (fn : Func) (hf : Tryd.pinned.checked.prog.funcNamed "posthouse/posthouselaw09.PropsBack" = some f) (hfn : Tryd.pinned.checked.prog.funcs[f]? = some fn) :
    true = Tryd.pinned.checked.prog.looks [] ∧ ∀ (j : Nat) t, fn.params[j]? = some t → Tryd.pinned.checked.prog.wantsStandIn t = false := by
  obtain rfl : f = 6 := Option.some.inj ((show Tryd.prog.funcNamed "posthouse/posthouselaw09.PropsBack" = some 6 by kernel_rfl).symm.trans hf) |>.symm
  obtain rfl : fn = Tryd.f6 := (Option.some.inj (Tryd.func6.symm.trans hfn)).symm
  refine ⟨by kernel_rfl, fun j t ht => ?_⟩
  rw [Tryd.params6] at ht
  have hm := Array.mem_of_getElem? ht
  simp only [List.mem_toArray, List.mem_cons, List.not_mem_nil, or_false] at hm
  rcases hm with rfl | rfl <;> exact (show Tryd.prog.wantsStandIn _ = false by kernel_rfl)
/-- The card. -/
theorem card : Rows.PropsBackCardSaid :=
  Claim7.holds_tied_plain_at .later [] _ _ _ _ said (fun _ h => by cases h) (by kernel_rfl) (fun _ h => by cases h) propsBack_row_tie rfl ⟨rfl, rfl⟩ (by kernel_rfl) rfl plainP (by kernel_rfl)
end Go.Proofs.YtogkbbnpkckfdaaDoor.holdPropsBack
namespace Go.Proofs.YtogkbbnpkckfdaaDoor
set_option linter.unusedSimpArgs false
set_option linter.unusedVariables false
theorem propsBackCard_holds : Rows.PropsBackCardSaid := holdPropsBack.card
#print axioms propsBackCard_holds
end Go.Proofs.YtogkbbnpkckfdaaDoor
