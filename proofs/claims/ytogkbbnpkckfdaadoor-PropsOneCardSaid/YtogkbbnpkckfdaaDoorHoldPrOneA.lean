/- The statement PropsOneCardSaid: whatever its arguments are, the law PropsOne returns true, and leaves its arguments as they were. Conditions: none beyond the statement's own. (Texts joined; the heads of the others stand below.) -/
import Derived.Test.YtogkbbnpkckfdaaDoorPK
import Derived.Test.YtogkbbnpkckfdaaDoorCards
import Derived.Test.YtogkbbnpkckfdaaDoorTie
import Derived.ProofKit
import Derived.OpenShut
import Derived.Deep.DeepHandedRow
import Derived.Lay
import Derived.SevenTiedAt

/- PropsOne: the law's walk. Conditions: utf8's tables are laid. Written by gen_prL.py. -/
namespace Go.Proofs.YtogkbbnpkckfdaaDoor
set_option linter.unusedSimpArgs false
set_option linter.unusedVariables false
open Go.RowKit
set_option maxRecDepth 100000 in
set_option maxHeartbeats 12800000 in
theorem propsOne_law (w : World) {pt : PT} (ht : Rd (fun i => i < w.heap.size) w pt.app) {pu : PT} (hu : Rd (fun i => i < w.heap.size) w pu.app) (hT : Tb w) : Calls Tryd.prog 7 #[pt.arg, pu.arg] w fun e w' => e = .returned (.bool true) ∧ Below w.heap.size w w' := by
  obtain ⟨key, dur, red, mid, tv⟩ := pt
  have ht : Rd _ _ tv := ht
  have hwt := Lib.hid ht.wf
  obtain ⟨tk, tn, ts, tka, tkc, tla, tlc, tks, tl, rfl, -⟩ := ht.open
  have hwt : Hid ((VT.mk tk tn ts (.slice tka tks.length tkc) (.slice tla tl.length tlc) tks tl).v.Wf) := hwt
  rw [PT.arg_mk]
  obtain ⟨qt, hqt⟩ : ∃ q, (PT.mk key dur red mid (VT.mk tk tn ts (.slice tka tks.length tkc) (.slice tla tl.length tlc) tks tl)).p = q := ⟨_, rfl⟩
  have hqwt := Lib.hid (show qt.app.Wf by rw [← hqt]; exact hwt.out)
  have hqth := Lib.hid hqt
  clear hqt hwt
  obtain ⟨keyu, duru, redu, midu, uv⟩ := pu
  have hu : Rd _ _ uv := hu
  have hwu := Lib.hid hu.wf
  obtain ⟨uk, un, us, uka, ukc, ula, ulc, uks, ul, rfl, -⟩ := hu.open
  have hwu : Hid ((VT.mk uk un us (.slice uka uks.length ukc) (.slice ula ul.length ulc) uks ul).v.Wf) := hwu
  rw [PT.arg_mk]
  obtain ⟨qu, hqu⟩ : ∃ q, (PT.mk keyu duru redu midu (VT.mk uk un us (.slice uka uks.length ukc) (.slice ula ul.length ulc) uks ul)).p = q := ⟨_, rfl⟩
  have hqwu := Lib.hid (show qu.app.Wf by rw [← hqu]; exact hwu.out)
  have hquh := Lib.hid hqu
  clear hqu hwu
  have hT0 : Below w.heap.size w ((w.alloc (.cells #[.string key, .bool dur, .bool red, .string mid, .int .u8 tk, .int .u64 tn, .string ts, .slice tka tks.length tkc, .slice tla tl.length tlc] 29)).alloc (.cells #[.string keyu, .bool duru, .bool redu, .string midu, .int .u8 uk, .int .u64 un, .string us, .slice uka uks.length ukc, .slice ula ul.length ulc] 29)) := ((Below.refl _ _).alloc (Nat.le_refl _) _).alloc (by simp) _
  have Rt0 := ht.pure hT0
  have At0 := (Blk.new w [.string key, .bool dur, .bool red, .string mid, .int .u8 tk, .int .u64 tn, .string ts, .slice tka tks.length tkc, .slice tla tl.length tlc] 29).alloc (.cells #[.string keyu, .bool duru, .bool redu, .string midu, .int .u8 uk, .int .u64 un, .string us, .slice uka uks.length ukc, .slice ula ul.length ulc] 29)
  have ta0 := At0.at 0 rfl; have ta1 := At0.at 1 rfl; have ta2 := At0.at 2 rfl; have ta3 := At0.at 3 rfl; have ta4 := At0.at 4 rfl; have ta5 := At0.at 5 rfl; have ta6 := At0.at 6 rfl; have ta7 := At0.at 7 rfl; have ta8 := At0.at 8 rfl
  have Ru0 := hu.pure hT0
  have Au0 := Blk.newK (w.alloc (.cells #[.string key, .bool dur, .bool red, .string mid, .int .u8 tk, .int .u64 tn, .string ts, .slice tka tks.length tkc, .slice tla tl.length tlc] 29)) [.string keyu, .bool duru, .bool redu, .string midu, .int .u8 uk, .int .u64 un, .string us, .slice uka uks.length ukc, .slice ula ul.length ulc] 29 (w.heap.size + 1) (by simp)
  have ua0 := Au0.at 0 rfl; have ua1 := Au0.at 1 rfl; have ua2 := Au0.at 2 rfl; have ua3 := Au0.at 3 rfl; have ua4 := Au0.at 4 rfl; have ua5 := Au0.at 5 rfl; have ua6 := Au0.at 6 rfl; have ua7 := Au0.at 7 rfl; have ua8 := Au0.at 8 rfl
  have zi := zero_info
  go_enter Tryd.func7, Tryd.ntmps7
  go_wp2_with fail
  have s1 := d9small_any (PT.mk key dur red mid (VT.mk tk tn ts (.slice tka tks.length tkc) (.slice tla tl.length tlc) tks tl)) _ _ Rt0
  rw [PT.arg_mk] at s1
  refine s1.mono ?_
  rintro e w1 ⟨⟨sb, rfl, hsm⟩, hB1⟩
  have Rt1 := Rt0.pure hB1; have At1 := At0.pure hB1; have Ru1 := Ru0.pure hB1; have Au1 := Au0.pure hB1; have hT1 := hT0.trans (hB1.mono hT0.size)
  clear s1 ta0 ta1 ta2 ta3 ta4 ta5 ta6 ta7 ta8 ua0 ua1 ua2 ua3 ua4 ua5 ua6 ua7 ua8
  have ta0 := At1.at 0 rfl; have ta1 := At1.at 1 rfl; have ta2 := At1.at 2 rfl; have ta3 := At1.at 3 rfl; have ta4 := At1.at 4 rfl; have ta5 := At1.at 5 rfl; have ta6 := At1.at 6 rfl; have ta7 := At1.at 7 rfl; have ta8 := At1.at 8 rfl
  have ua0 := Au1.at 0 rfl; have ua1 := Au1.at 1 rfl; have ua2 := Au1.at 2 rfl; have ua3 := Au1.at 3 rfl; have ua4 := Au1.at 4 rfl; have ua5 := Au1.at 5 rfl; have ua6 := Au1.at 6 rfl; have ua7 := Au1.at 7 rfl; have ua8 := Au1.at 8 rfl
  cases sb
  · clear hsm
    go_wp2_with (go_at_call 9; (with_reducible refine (head9_any _ (hT.pure hT1)).mono ?_); rintro e w9 ⟨rfl, hB9⟩; have hF := hT1.trans (hB9.mono hT1.size))
    go_ret
    exact ⟨rfl, hF⟩
  have hfitt := Lib.hid (hsm rfl).2.2
  clear hsm
  go_wp2_with fail
  have s1 := d9small_any (PT.mk keyu duru redu midu (VT.mk uk un us (.slice uka uks.length ukc) (.slice ula ul.length ulc) uks ul)) _ _ Ru1
  rw [PT.arg_mk] at s1
  refine s1.mono ?_
  rintro e w2 ⟨⟨sb, rfl, hsm⟩, hB2⟩
  have Rt2 := Rt1.pure hB2; have At2 := At1.pure hB2; have Ru2 := Ru1.pure hB2; have Au2 := Au1.pure hB2; have hT2 := hT1.trans (hB2.mono hT1.size)
  clear s1 ta0 ta1 ta2 ta3 ta4 ta5 ta6 ta7 ta8 ua0 ua1 ua2 ua3 ua4 ua5 ua6 ua7 ua8
  have ta0 := At2.at 0 rfl; have ta1 := At2.at 1 rfl; have ta2 := At2.at 2 rfl; have ta3 := At2.at 3 rfl; have ta4 := At2.at 4 rfl; have ta5 := At2.at 5 rfl; have ta6 := At2.at 6 rfl; have ta7 := At2.at 7 rfl; have ta8 := At2.at 8 rfl
  have ua0 := Au2.at 0 rfl; have ua1 := Au2.at 1 rfl; have ua2 := Au2.at 2 rfl; have ua3 := Au2.at 3 rfl; have ua4 := Au2.at 4 rfl; have ua5 := Au2.at 5 rfl; have ua6 := Au2.at 6 rfl; have ua7 := Au2.at 7 rfl; have ua8 := Au2.at 8 rfl
  cases sb
  · clear hsm
    go_wp2_with (go_at_call 9; (with_reducible refine (head9_any _ (hT.pure hT2)).mono ?_); rintro e w9 ⟨rfl, hB9⟩; have hF := hT2.trans (hB9.mono hT2.size))
    go_ret
    exact ⟨rfl, hF⟩
  have hfitu := Lib.hid (hsm rfl).2.2
  clear hsm
  obtain ⟨ct, hct⟩ : ∃ c, qt.chk = c := ⟨_, rfl⟩
  obtain ⟨st, hst⟩ : ∃ s, (if qt.chk = 0 then qt.text else (⟨#[]⟩ : ByteArray)) = s := ⟨_, rfl⟩
  have pPt := Lib.hid (fun (P : Nat → Prop) (u : World) (t : PT) (ht : t.p = qt) (hR : Rd P u t.app) (hT : Tb u) => show Calls Tryd.prog 11 #[t.arg] u (fun e w' => e = .returned (.tuple #[.string st, .int .i64 ct]) ∧ Below u.heap.size u w') by
    have h := p9put_any t P u hR hT
    rw [ht, hst, hct] at h; exact h)
  have hcth := Lib.hid hct; have hsth := Lib.hid hst
  obtain ⟨cu, hcu⟩ : ∃ c, qu.chk = c := ⟨_, rfl⟩
  obtain ⟨su, hsu⟩ : ∃ s, (if qu.chk = 0 then qu.text else (⟨#[]⟩ : ByteArray)) = s := ⟨_, rfl⟩
  have pPu := Lib.hid (fun (P : Nat → Prop) (u : World) (t : PT) (ht : t.p = qu) (hR : Rd P u t.app) (hT : Tb u) => show Calls Tryd.prog 11 #[t.arg] u (fun e w' => e = .returned (.tuple #[.string su, .int .i64 cu]) ∧ Below u.heap.size u w') by
    have h := p9put_any t P u hR hT
    rw [ht, hsu, hcu] at h; exact h)
  have hcuh := Lib.hid hcu; have hsuh := Lib.hid hsu
  clear hct hst hcu hsu hfitt hfitu
  go_upto_region 4 with (go_at_call 11; refine (pPt.out _ _ (PT.mk key dur red mid (VT.mk tk tn ts (.slice tka tks.length tkc) (.slice tla tl.length tlc) tks tl)) hqth.out Rt2 (hT.pure hT2)).mono ?_; rintro e w3 ⟨rfl, hB3⟩; have Rt3 := Rt2.pure hB3; have At3 := At2.pure hB3; have Ru3 := Ru2.pure hB3; have Au3 := Au2.pure hB3; have hT3 := hT2.trans (hB3.mono hT2.size); have ub0 := Au3.at 0 rfl; have ub1 := Au3.at 1 rfl; have ub2 := Au3.at 2 rfl; have ub3 := Au3.at 3 rfl; have ub4 := Au3.at 4 rfl; have ub5 := Au3.at 5 rfl; have ub6 := Au3.at 6 rfl; have ub7 := Au3.at 7 rfl; have ub8 := Au3.at 8 rfl)
  clear ta0 ta1 ta2 ta3 ta4 ta5 ta6 ta7 ta8 ua0 ua1 ua2 ua3 ua4 ua5 ua6 ua7 ua8
  go_upto_region 5 with (go_at_call 11; refine (pPu.out _ _ (PT.mk keyu duru redu midu (VT.mk uk un us (.slice uka uks.length ukc) (.slice ula ul.length ulc) uks ul)) hquh.out Ru3 (hT.pure hT3)).mono ?_; rintro e w4 ⟨rfl, hB4⟩; have Rt4 := Rt3.pure hB4; have At4 := At3.pure hB4; have Ru4 := Ru3.pure hB4; have Au4 := Au3.pure hB4; have hT4 := hT3.trans (hB4.mono hT3.size); have tb0 := At4.at 0 rfl; have tb1 := At4.at 1 rfl; have tb2 := At4.at 2 rfl; have tb3 := At4.at 3 rfl; have tb4 := At4.at 4 rfl; have tb5 := At4.at 5 rfl; have tb6 := At4.at 6 rfl; have tb7 := At4.at 7 rfl; have tb8 := At4.at 8 rfl; have uc0 := Au4.at 0 rfl; have uc1 := Au4.at 1 rfl; have uc2 := Au4.at 2 rfl; have uc3 := Au4.at 3 rfl; have uc4 := Au4.at 4 rfl; have uc5 := Au4.at 5 rfl; have uc6 := Au4.at 6 rfl; have uc7 := Au4.at 7 rfl; have uc8 := Au4.at 8 rfl)
  clear ub0 ub1 ub2 ub3 ub4 ub5 ub6 ub7 ub8
  by_cases ht0 : ct = 0
  rotate_left 1
  · have b1 : (ct != 0) = true := bne_iff_ne.2 ht0
    have b2 : (ct == 0) = false := beq_eq_false_iff_ne.2 ht0
    clear ht0
    go_wp2_with (go_at_call 9; (with_reducible refine (head9_any _ (hT.pure hT4)).mono ?_); rintro e w9 ⟨rfl, hB9⟩; have hF := hT4.trans (hB9.mono hT4.size))
    go_ret
    exact ⟨rfl, hF⟩
  subst ht0
  by_cases hu0 : cu = 0
  rotate_left 1
  · have b1 : (cu != 0) = true := bne_iff_ne.2 hu0
    have b2 : (cu == 0) = false := beq_eq_false_iff_ne.2 hu0
    clear hu0
    go_wp2_with (go_at_call 9; (with_reducible refine (head9_any _ (hT.pure hT4)).mono ?_); rintro e w9 ⟨rfl, hB9⟩; have hF := hT4.trans (hB9.mono hT4.size))
    go_ret
    exact ⟨rfl, hF⟩
  subst hu0
  have ett : qt.text = st := by have h := hsth.out; rw [if_pos hcth.out] at h; exact h
  have etu : qu.text = su := by have h := hsuh.out; rw [if_pos hcuh.out] at h; exact h
  by_cases hq : qt = qu
  · obtain rfl : st = su := by rw [← ett, ← etu, hq]
    have hqh := Lib.hid hq
    clear hq ett etu
    go_wp2_with (first | (go_at_call 17; refine ((p9same_any (PT.mk key dur red mid (VT.mk tk tn ts (.slice tka tks.length tkc) (.slice tla tl.length tlc) tks tl)) (PT.mk keyu duru redu midu (VT.mk uk un us (.slice uka uks.length ukc) (.slice ula ul.length ulc) uks ul)) _ _ _ Rt4 Ru4).mono (fun e w' h => says_yes h (by rw [hqth.out, hquh.out]; exact hqh.out))).mono ?_; rintro e w5 ⟨rfl, hB5⟩; have hT5 := hT4.trans (hB5.mono hT4.size)) | (go_at_call 9; (with_reducible refine (head9_any _ (hT.pure hT5)).mono ?_); rintro e w9 ⟨rfl, hB9⟩; have hF := hT5.trans (hB9.mono hT5.size)))
    go_ret
    exact ⟨rfl, hF⟩
  · have hne : st ≠ su := fun e => hq (by
      have h1 : qt.bytes = qu.bytes := by
        have h2 := text_eq.1 (ett.trans e)
        have h3 := text_eq.1 etu
        rw [h2, h3]
      exact pr_inj hqwt.out hqwu.out hcth.out hcuh.out h1)
    have b1 : ¬ st.toList = su.toList := ba_toList_ne hne
    have b2 : (st.toList == su.toList) = false := beq_eq_false_iff_ne.2 b1
    have b3 : decide (st.toList = su.toList) = false := decide_eq_false b1
    have hqh := Lib.hid hq
    clear hq ett etu hne
    go_wp2_with (first | (go_at_call 17; refine ((p9same_any (PT.mk key dur red mid (VT.mk tk tn ts (.slice tka tks.length tkc) (.slice tla tl.length tlc) tks tl)) (PT.mk keyu duru redu midu (VT.mk uk un us (.slice uka uks.length ukc) (.slice ula ul.length ulc) uks ul)) _ _ _ Rt4 Ru4).mono (fun e w' h => says_not h (by rw [hqth.out, hquh.out]; exact hqh.out))).mono ?_; rintro e w5 ⟨rfl, hB5⟩; have hT5 := hT4.trans (hB5.mono hT4.size)) | (go_at_call 9; (with_reducible refine (head9_any _ (hT.pure hT5)).mono ?_); rintro e w9 ⟨rfl, hB9⟩; have hF := hT5.trans (hB9.mono hT5.size)))
    go_ret
    exact ⟨rfl, hF⟩
end Go.Proofs.YtogkbbnpkckfdaaDoor

/- The statement PropsOneCardSaid: whatever its arguments are, the law PropsOne returns true, and leaves its arguments as they were. Conditions: none beyond the statement's own. -/
namespace Go.Proofs.YtogkbbnpkckfdaaDoor.holdPropsOne
open Go.ChangeShapes Go.WideShapes Go.ChangeAt Go.RowKit
set_option maxRecDepth 100000

theorem ownK : ownKnob Tryd.prog.godebug = none := by kernel_rfl
theorem laidO : laidOutB Tryd.prog = true := by kernel_rfl

theorem laid_met (os : Os) (args : Array Value) : laidMetH Tryd.prog Rows.propsOneRow.laid ((World.laidAll Tryd.prog os LAID).forCall (fun _ _ => 0) ⟨#[], args, []⟩).memory := by
  rw [MakeChecks.laidMetH_plain _ _ _ (by kernel_rfl)]
  exact laidMet_laidAll (laid := LAID) _ (by kernel_rfl) (by kernel_rfl)
theorem reads (os : Os) {H : Type} (enc : TypeId × Value → H) : ∃ places, DataW.whole enc Tryd.prog ((World.laidAll Tryd.prog os LAID).forCall (fun _ _ => 0) ⟨#[], #[.agg #[.string ⟨#[]⟩, .bool false, .bool false, .string ⟨#[]⟩, .int .u8 0, .int .u64 0, .string ⟨#[]⟩, .slice none 0 0, .slice none 0 0], .agg #[.string ⟨#[]⟩, .bool false, .bool false, .string ⟨#[]⟩, .int .u8 0, .int .u64 0, .string ⟨#[]⟩, .slice none 0 0, .slice none 0 0]], []⟩).memory Tryd.f7.params.toList Rows.propsOneSpec.vars false (#[.agg #[.string ⟨#[]⟩, .bool false, .bool false, .string ⟨#[]⟩, .int .u8 0, .int .u64 0, .string ⟨#[]⟩, .slice none 0 0, .slice none 0 0], .agg #[.string ⟨#[]⟩, .bool false, .bool false, .string ⟨#[]⟩, .int .u8 0, .int .u64 0, .string ⟨#[]⟩, .slice none 0 0, .slice none 0 0]] : Array Value).toList 8 = some ([.agg [.lit (.string []), .lit (.bool false), .lit (.bool false), .lit (.string []), .agg [.lit (.int .u8 0), .lit (.int .u64 0), .lit (.string []), .nil, .nil]], .agg [.lit (.string []), .lit (.bool false), .lit (.bool false), .lit (.string []), .agg [.lit (.int .u8 0), .lit (.int .u64 0), .lit (.string []), .nil, .nil]]], [], places) :=
  ⟨[], by kernel_rfl⟩
set_option maxHeartbeats 1000000 in
theorem lifted (os : Os) (started : os.Started) (H : Type) (enc : TypeId × Value → H) (F : Stop.Interp) :
    ReturnsInHanded {} Tryd.checked os 7 .any ((OpenSpec.ofChange Rows.propsOneSpec).preRow enc Tryd.prog Tryd.f7 Rows.propsOneRow.domain false Rows.propsOneRow.laid) (((OpenSpec.ofChange Rows.propsOneSpec).at F).post enc Tryd.prog Tryd.f7 false true false false) := by
  obtain ⟨places, hx⟩ := reads os enc
  refine returnsInHanded_of_row (C := Tryd.checked) (s := OpenSpec.ofChange Rows.propsOneSpec) ownK started (by kernel_rfl) Tryd.func7
    (witness_row_at (enc := enc) (C := Tryd.checked) false (World.laidAll Tryd.prog os LAID) #[.agg #[.string ⟨#[]⟩, .bool false, .bool false, .string ⟨#[]⟩, .int .u8 0, .int .u64 0, .string ⟨#[]⟩, .slice none 0 0, .slice none 0 0], .agg #[.string ⟨#[]⟩, .bool false, .bool false, .string ⟨#[]⟩, .int .u8 0, .int .u64 0, .string ⟨#[]⟩, .slice none 0 0, .slice none 0 0]] (World.laidAll_os _ _ _) (by kernel_rfl) (by kernel_rfl) (by kernel_rfl)
      (OpenSpec.preRow_of_cond 8 hx (by kernel_rfl) (fun k hk => by cases hk) (by kernel_rfl) (laid_met os _))) ?_
  intro W base args ds gs before hval0 hW _ _ _ hL _ _
  rw [MakeChecks.laidMetH_plain _ _ _ (by kernel_rfl)] at hL
  have hT := tb_of_laid hL
  clear hL
  have hval : ∀ (j : Nat) t v, Tryd.f7.params[j]? = some t → args[j]? = some v → Value.okWide Tryd.prog W .any base t v := hval0
  have hW' := hW
  obtain ⟨p, q, hA0, hV, rfl, hfz, hnd⟩ := hW
  have hA : DataW.TrodAll enc Tryd.prog W 0 (fun _ => true) true Tryd.f7.params.toList args.toList ds p := hA0
  rw [Tryd.params7] at hA hval
  obtain ⟨v0, vs0, d0, ds0, p0, q0, hargs, rfl, rfl, h0, r0⟩ := trodAll_cons hA
  obtain ⟨v1, vs1, d1, ds1, p1, q1, rfl, rfl, rfl, h1, r1⟩ := trodAll_cons r0
  obtain ⟨rfl, rfl, rfl⟩ := trodAll_nil r1
  obtain rfl : args = #[v0, v1] := by cases args; simp_all
  obtain ⟨rfl, rfl⟩ := trodVars_none hV
  have k0 := hval 0 29 v0 rfl rfl
  have k1 := hval 1 29 v1 rfl rfl
  clear hA0 hval0 hval
  simp only [List.append_nil] at hW'
  have hlt : ∀ x ∈ p0 ++ p1, x.block < W.heap.size := fun x hx => by simpa using hW'.lt x (by simpa using hx)
  have g0 : ∀ W', Below W.heap.size W W' → DataW.Trod enc Tryd.prog W' 0 (fun b => decide (b < W.heap.size)) true 29 v0 d0 p0 := fun W' hn => Below.trod laidO (by kernel_rfl) (of_decide_eq_true (by kernel_rfl)) h0 hn (fun x hx => hlt x (by simp [hx]))
  have g1 : ∀ W', Below W.heap.size W W' → DataW.Trod enc Tryd.prog W' 0 (fun b => decide (b < W.heap.size)) true 29 v1 d1 p1 := fun W' hn => Below.trod laidO (by kernel_rfl) (of_decide_eq_true (by kernel_rfl)) h1 hn (fun x hx => hlt x (by simp [hx]))
  obtain ⟨t0, rfl, R0⟩ := open_props k0 h0
  obtain ⟨t1, rfl, R1⟩ := open_props k1 h1
  refine (propsOne_law W R0 R1 hT).mono fun e W' ⟨he, hb⟩ => ?_
  subst he
  exact ⟨_, rfl, _, _, _, [], _, [], hW', trodAll_cons_mk (shut_bool Tryd.underlying4 _) trodAll_mk0, (trodAll_cons_mk (g0 _ hb) (trodAll_cons_mk (g1 _ hb) trodAll_mk0)), rfl, hb.frame _, fun h => by cases h⟩

theorem said : Rows.PropsOneSaid :=
  OpenClaim.holds_of_cond 7 Tryd.f7 rfl rfl rfl rfl rfl rfl rfl ⟨rfl, rfl, rfl, rfl, rfl⟩ rfl rfl rfl rfl rfl (by kernel_rfl) Tryd.func7 (by kernel_rfl)
    (of_decide_eq_true (by kernel_rfl)) (by unfold Func.isWrapper; first | (rw [if_pos (by decide +kernel)]; kernel_rfl) | (rw [if_neg (by decide +kernel)]; exact ⟨rfl, rfl⟩))
    (fun os started H enc _ F => by rw [OpenClaim.pre_eq_preRow]; exact lifted os started H enc F)
theorem plainP (f : FuncId) (fn : Func) (hf : Tryd.pinned.checked.prog.funcNamed "posthouse/posthouselaw09.PropsOne" = some f) (hfn : Tryd.pinned.checked.prog.funcs[f]? = some fn) :
    true = Tryd.pinned.checked.prog.looks [] ∧ ∀ (j : Nat) t, fn.params[j]? = some t → Tryd.pinned.checked.prog.wantsStandIn t = false := by
  obtain rfl : f = 7 := Option.some.inj ((show Tryd.prog.funcNamed "posthouse/posthouselaw09.PropsOne" = some 7 by kernel_rfl).symm.trans hf) |>.symm
  obtain rfl : fn = Tryd.f7 := (Option.some.inj (Tryd.func7.symm.trans hfn)).symm
  refine ⟨by kernel_rfl, fun j t ht => ?_⟩
  rw [Tryd.params7] at ht
  have hm := Array.mem_of_getElem? ht
  simp only [List.mem_toArray, List.mem_cons, List.not_mem_nil, or_false] at hm
  rcases hm with rfl | rfl <;> exact (show Tryd.prog.wantsStandIn _ = false by kernel_rfl)
/-- The card. -/
theorem card : Rows.PropsOneCardSaid :=
  Claim7.holds_tied_plain_at .later [] _ _ _ _ said (fun _ h => by cases h) (by kernel_rfl) (fun _ h => by cases h) propsOne_row_tie rfl ⟨rfl, rfl⟩ (by kernel_rfl) rfl plainP (by kernel_rfl)
end Go.Proofs.YtogkbbnpkckfdaaDoor.holdPropsOne
namespace Go.Proofs.YtogkbbnpkckfdaaDoor
set_option linter.unusedSimpArgs false
set_option linter.unusedVariables false
theorem propsOneCard_holds : Rows.PropsOneCardSaid := holdPropsOne.card
#print axioms propsOneCard_holds
end Go.Proofs.YtogkbbnpkckfdaaDoor
