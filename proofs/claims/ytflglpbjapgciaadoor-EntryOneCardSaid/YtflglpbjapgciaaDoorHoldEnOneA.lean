/- The statement EntryOneCardSaid: whatever its arguments are, the law EntryOne returns true, and leaves its arguments as they were. Conditions: none beyond the statement's own. (Texts joined; the heads of the others stand below.) -/
import Derived.Test.YtflglpbjapgciaaDoorEX
import Derived.Test.YtflglpbjapgciaaDoorEL
import Derived.Test.YtflglpbjapgciaaDoorER
import Derived.Test.YtflglpbjapgciaaDoorCards
import Derived.Test.YtflglpbjapgciaaDoorTie
import Derived.ProofKit
import Derived.OpenShut
import Derived.Deep.DeepHandedRow
import Derived.Lay
import Derived.SevenTiedAt

/- EntryOne: the law's walk. Conditions: utf8's tables are laid. Written by gen_enW.py. -/
namespace Go.Proofs.YtflglpbjapgciaaDoor
set_option linter.unusedSimpArgs false
set_option linter.unusedVariables false
open Go.RowKit
set_option maxRecDepth 100000 in
set_option maxHeartbeats 12800000 in
theorem entryOne_law (w : World) {pt : EnT} (ht : EnRd (fun i => i < w.heap.size) w pt) {pu : EnT} (hu : EnRd (fun i => i < w.heap.size) w pu) (hT : Tb w) : Calls Tryd.prog 6 #[pt.arg, pu.arg] w fun e w' => e = .returned (.bool true) ∧ Below w.heap.size w w' := by
  have hwt := Lib.hid ht.wf
  obtain ⟨kindt, namet, nt, xft, xgt, xbt, pat, pct, tat, tct, putst, takest, rfl, -⟩ := ht.open
  have hwt : Hid ((EnT.mk kindt namet nt (xft, xgt, xbt) (.slice pat putst.length pct) (.slice tat takest.length tct) putst takest).e.Wf) := hwt
  rw [EnT.arg_mk]
  obtain ⟨qt, hqt⟩ : ∃ q, (EnT.mk kindt namet nt (xft, xgt, xbt) (.slice pat putst.length pct) (.slice tat takest.length tct) putst takest).e = q := ⟨_, rfl⟩
  have hqwt := Lib.hid (show qt.Wf by rw [← hqt]; exact hwt.out)
  have hqth := Lib.hid hqt
  clear hqt hwt
  have hwu := Lib.hid hu.wf
  obtain ⟨kindu, nameu, nu, xfu, xgu, xbu, pau, pcu, tau, tcu, putsu, takesu, rfl, -⟩ := hu.open
  have hwu : Hid ((EnT.mk kindu nameu nu (xfu, xgu, xbu) (.slice pau putsu.length pcu) (.slice tau takesu.length tcu) putsu takesu).e.Wf) := hwu
  rw [EnT.arg_mk]
  obtain ⟨qu, hqu⟩ : ∃ q, (EnT.mk kindu nameu nu (xfu, xgu, xbu) (.slice pau putsu.length pcu) (.slice tau takesu.length tcu) putsu takesu).e = q := ⟨_, rfl⟩
  have hqwu := Lib.hid (show qu.Wf by rw [← hqu]; exact hwu.out)
  have hquh := Lib.hid hqu
  clear hqu hwu
  have hT0 : Below w.heap.size w ((w.alloc (.cells #[.int .u8 kindt, .string namet, .int .u64 nt, .int .u32 xft, .string xgt, .string xbt, .slice pat putst.length pct, .slice tat takest.length tct] 31)).alloc (.cells #[.int .u8 kindu, .string nameu, .int .u64 nu, .int .u32 xfu, .string xgu, .string xbu, .slice pau putsu.length pcu, .slice tau takesu.length tcu] 31)) := ((Below.refl _ _).alloc (Nat.le_refl _) _).alloc (by simp) _
  have Rt0 := ht.pure hT0
  have At0 := (Blk.new w [.int .u8 kindt, .string namet, .int .u64 nt, .int .u32 xft, .string xgt, .string xbt, .slice pat putst.length pct, .slice tat takest.length tct] 31).alloc (.cells #[.int .u8 kindu, .string nameu, .int .u64 nu, .int .u32 xfu, .string xgu, .string xbu, .slice pau putsu.length pcu, .slice tau takesu.length tcu] 31)
  have ta0 := At0.at 0 rfl; have ta1 := At0.at 1 rfl; have ta2 := At0.at 2 rfl; have ta3 := At0.at 3 rfl; have ta4 := At0.at 4 rfl; have ta5 := At0.at 5 rfl; have ta6 := At0.at 6 rfl; have ta7 := At0.at 7 rfl
  have Ru0 := hu.pure hT0
  have Au0 := Blk.newK (w.alloc (.cells #[.int .u8 kindt, .string namet, .int .u64 nt, .int .u32 xft, .string xgt, .string xbt, .slice pat putst.length pct, .slice tat takest.length tct] 31)) [.int .u8 kindu, .string nameu, .int .u64 nu, .int .u32 xfu, .string xgu, .string xbu, .slice pau putsu.length pcu, .slice tau takesu.length tcu] 31 (w.heap.size + 1) (by simp)
  have ua0 := Au0.at 0 rfl; have ua1 := Au0.at 1 rfl; have ua2 := Au0.at 2 rfl; have ua3 := Au0.at 3 rfl; have ua4 := Au0.at 4 rfl; have ua5 := Au0.at 5 rfl; have ua6 := Au0.at 6 rfl; have ua7 := Au0.at 7 rfl
  have zi := entry_info
  go_enter Tryd.func6, Tryd.ntmps6
  go_wp2_with fail
  have s1 := edsmall_any (EnT.mk kindt namet nt (xft, xgt, xbt) (.slice pat putst.length pct) (.slice tat takest.length tct) putst takest) _ _ Rt0
  rw [EnT.arg_mk] at s1
  refine s1.mono ?_
  rintro e w1 ⟨⟨sb, rfl, hsm⟩, hB1⟩
  have Rt1 := Rt0.pure hB1; have At1 := At0.pure hB1; have Ru1 := Ru0.pure hB1; have Au1 := Au0.pure hB1; have hT1 := hT0.trans (hB1.mono hT0.size)
  clear s1 ta0 ta1 ta2 ta3 ta4 ta5 ta6 ta7 ua0 ua1 ua2 ua3 ua4 ua5 ua6 ua7
  have ta0 := At1.at 0 rfl; have ta1 := At1.at 1 rfl; have ta2 := At1.at 2 rfl; have ta3 := At1.at 3 rfl; have ta4 := At1.at 4 rfl; have ta5 := At1.at 5 rfl; have ta6 := At1.at 6 rfl; have ta7 := At1.at 7 rfl
  have ua0 := Au1.at 0 rfl; have ua1 := Au1.at 1 rfl; have ua2 := Au1.at 2 rfl; have ua3 := Au1.at 3 rfl; have ua4 := Au1.at 4 rfl; have ua5 := Au1.at 5 rfl; have ua6 := Au1.at 6 rfl; have ua7 := Au1.at 7 rfl
  cases sb
  · clear hsm
    go_wp2_with (go_at_call 9; (with_reducible refine (head13_any _ (hT.pure hT1)).mono ?_); rintro e w9 ⟨rfl, hB9⟩; have hF := hT1.trans (hB9.mono hT1.size))
    go_ret
    exact ⟨rfl, hF⟩
  have hfitt := Lib.hid (hsm rfl)
  clear hsm
  go_wp2_with fail
  have s1 := edsmall_any (EnT.mk kindu nameu nu (xfu, xgu, xbu) (.slice pau putsu.length pcu) (.slice tau takesu.length tcu) putsu takesu) _ _ Ru1
  rw [EnT.arg_mk] at s1
  refine s1.mono ?_
  rintro e w2 ⟨⟨sb, rfl, hsm⟩, hB2⟩
  have Rt2 := Rt1.pure hB2; have At2 := At1.pure hB2; have Ru2 := Ru1.pure hB2; have Au2 := Au1.pure hB2; have hT2 := hT1.trans (hB2.mono hT1.size)
  clear s1 ta0 ta1 ta2 ta3 ta4 ta5 ta6 ta7 ua0 ua1 ua2 ua3 ua4 ua5 ua6 ua7
  have ta0 := At2.at 0 rfl; have ta1 := At2.at 1 rfl; have ta2 := At2.at 2 rfl; have ta3 := At2.at 3 rfl; have ta4 := At2.at 4 rfl; have ta5 := At2.at 5 rfl; have ta6 := At2.at 6 rfl; have ta7 := At2.at 7 rfl
  have ua0 := Au2.at 0 rfl; have ua1 := Au2.at 1 rfl; have ua2 := Au2.at 2 rfl; have ua3 := Au2.at 3 rfl; have ua4 := Au2.at 4 rfl; have ua5 := Au2.at 5 rfl; have ua6 := Au2.at 6 rfl; have ua7 := Au2.at 7 rfl
  cases sb
  · clear hsm
    go_wp2_with (go_at_call 9; (with_reducible refine (head13_any _ (hT.pure hT2)).mono ?_); rintro e w9 ⟨rfl, hB9⟩; have hF := hT2.trans (hB9.mono hT2.size))
    go_ret
    exact ⟨rfl, hF⟩
  have hfitu := Lib.hid (hsm rfl)
  clear hsm
  obtain ⟨ct, hct⟩ : ∃ c, qt.chk = c := ⟨_, rfl⟩
  obtain ⟨st, hst⟩ : ∃ s, (if qt.chk = 0 then qt.text else (⟨#[]⟩ : ByteArray)) = s := ⟨_, rfl⟩
  have pPt := Lib.hid (fun (P : Nat → Prop) (u : World) (t : EnT) (ht : t.e = qt) (hR : EnRd P u t) (hT : Tb u) => show Calls Tryd.prog 14 #[t.arg] u (fun e w' => e = .returned (.tuple #[.string st, .int .i64 ct]) ∧ Below u.heap.size u w') by
    have h := eput_any t P u hR hT
    rw [ht, hst, hct] at h; exact h)
  have hcth := Lib.hid hct; have hsth := Lib.hid hst
  obtain ⟨cu, hcu⟩ : ∃ c, qu.chk = c := ⟨_, rfl⟩
  obtain ⟨su, hsu⟩ : ∃ s, (if qu.chk = 0 then qu.text else (⟨#[]⟩ : ByteArray)) = s := ⟨_, rfl⟩
  have pPu := Lib.hid (fun (P : Nat → Prop) (u : World) (t : EnT) (ht : t.e = qu) (hR : EnRd P u t) (hT : Tb u) => show Calls Tryd.prog 14 #[t.arg] u (fun e w' => e = .returned (.tuple #[.string su, .int .i64 cu]) ∧ Below u.heap.size u w') by
    have h := eput_any t P u hR hT
    rw [ht, hsu, hcu] at h; exact h)
  have hcuh := Lib.hid hcu; have hsuh := Lib.hid hsu
  clear hct hst hcu hsu hfitt hfitu
  go_upto_region 4 with (go_at_call 14; refine (pPt.out _ _ (EnT.mk kindt namet nt (xft, xgt, xbt) (.slice pat putst.length pct) (.slice tat takest.length tct) putst takest) hqth.out Rt2 (hT.pure hT2)).mono ?_; rintro e w3 ⟨rfl, hB3⟩; have Rt3 := Rt2.pure hB3; have At3 := At2.pure hB3; have Ru3 := Ru2.pure hB3; have Au3 := Au2.pure hB3; have hT3 := hT2.trans (hB3.mono hT2.size); have ub0 := Au3.at 0 rfl; have ub1 := Au3.at 1 rfl; have ub2 := Au3.at 2 rfl; have ub3 := Au3.at 3 rfl; have ub4 := Au3.at 4 rfl; have ub5 := Au3.at 5 rfl; have ub6 := Au3.at 6 rfl; have ub7 := Au3.at 7 rfl)
  clear ta0 ta1 ta2 ta3 ta4 ta5 ta6 ta7 ua0 ua1 ua2 ua3 ua4 ua5 ua6 ua7
  go_upto_region 5 with (go_at_call 14; refine (pPu.out _ _ (EnT.mk kindu nameu nu (xfu, xgu, xbu) (.slice pau putsu.length pcu) (.slice tau takesu.length tcu) putsu takesu) hquh.out Ru3 (hT.pure hT3)).mono ?_; rintro e w4 ⟨rfl, hB4⟩; have Rt4 := Rt3.pure hB4; have At4 := At3.pure hB4; have Ru4 := Ru3.pure hB4; have Au4 := Au3.pure hB4; have hT4 := hT3.trans (hB4.mono hT3.size); have tb0 := At4.at 0 rfl; have tb1 := At4.at 1 rfl; have tb2 := At4.at 2 rfl; have tb3 := At4.at 3 rfl; have tb4 := At4.at 4 rfl; have tb5 := At4.at 5 rfl; have tb6 := At4.at 6 rfl; have tb7 := At4.at 7 rfl; have uc0 := Au4.at 0 rfl; have uc1 := Au4.at 1 rfl; have uc2 := Au4.at 2 rfl; have uc3 := Au4.at 3 rfl; have uc4 := Au4.at 4 rfl; have uc5 := Au4.at 5 rfl; have uc6 := Au4.at 6 rfl; have uc7 := Au4.at 7 rfl)
  clear ub0 ub1 ub2 ub3 ub4 ub5 ub6 ub7
  by_cases ht0 : ct = 0
  rotate_left 1
  · have b1 : (ct != 0) = true := bne_iff_ne.2 ht0
    have b2 : (ct == 0) = false := beq_eq_false_iff_ne.2 ht0
    clear ht0
    go_wp2_with (go_at_call 9; (with_reducible refine (head13_any _ (hT.pure hT4)).mono ?_); rintro e w9 ⟨rfl, hB9⟩; have hF := hT4.trans (hB9.mono hT4.size))
    go_ret
    exact ⟨rfl, hF⟩
  subst ht0
  by_cases hu0 : cu = 0
  rotate_left 1
  · have b1 : (cu != 0) = true := bne_iff_ne.2 hu0
    have b2 : (cu == 0) = false := beq_eq_false_iff_ne.2 hu0
    clear hu0
    go_wp2_with (go_at_call 9; (with_reducible refine (head13_any _ (hT.pure hT4)).mono ?_); rintro e w9 ⟨rfl, hB9⟩; have hF := hT4.trans (hB9.mono hT4.size))
    go_ret
    exact ⟨rfl, hF⟩
  subst hu0
  have ett : qt.text = st := by have h := hsth.out; rw [if_pos hcth.out] at h; exact h
  have etu : qu.text = su := by have h := hsuh.out; rw [if_pos hcuh.out] at h; exact h
  have hsm := esame_any (EnT.mk kindt namet nt (xft, xgt, xbt) (.slice pat putst.length pct) (.slice tat takest.length tct) putst takest) (EnT.mk kindu nameu nu (xfu, xgu, xbu) (.slice pau putsu.length pcu) (.slice tau takesu.length tcu) putsu takesu) _ _ _ Rt4 Ru4
  simp only [EnT.arg_mk] at hsm
  have hsmh := Lib.hid hsm
  clear hsm
  by_cases hq : qt = qu
  · obtain rfl : st = su := by rw [← ett, ← etu, hq]
    have hqh := Lib.hid hq
    clear hq ett etu
    go_wp2_with (first | (go_at_call 11; (with_reducible refine ((hsmh.out).mono (fun e w' h => says_yes h (by rw [hqth.out, hquh.out]; exact hqh.out))).mono ?_); rintro e w5 ⟨rfl, hB5⟩; have hT5 := hT4.trans (hB5.mono hT4.size)) | (go_at_call 9; (with_reducible refine (head13_any _ (hT.pure hT5)).mono ?_); rintro e w9 ⟨rfl, hB9⟩; have hF := hT5.trans (hB9.mono hT5.size)))
    go_ret
    exact ⟨rfl, hF⟩
  · have hne : st ≠ su := fun e => hq (by
      have h1 : qt.bytes = qu.bytes := by
        have h2 := en_text.1 (ett.trans e)
        have h3 := en_text.1 etu
        rw [h2, h3]
      exact en_inj hqwt.out hqwu.out hcth.out hcuh.out h1)
    have b1 : ¬ st.toList = su.toList := ba_toList_ne hne
    have b2 : (st.toList == su.toList) = false := beq_eq_false_iff_ne.2 b1
    have b3 : decide (st.toList = su.toList) = false := decide_eq_false b1
    have hqh := Lib.hid hq
    clear hq ett etu hne
    go_wp2_with (first | (go_at_call 11; (with_reducible refine ((hsmh.out).mono (fun e w' h => says_not h (by rw [hqth.out, hquh.out]; exact hqh.out))).mono ?_); rintro e w5 ⟨rfl, hB5⟩; have hT5 := hT4.trans (hB5.mono hT4.size)) | (go_at_call 9; (with_reducible refine (head13_any _ (hT.pure hT5)).mono ?_); rintro e w9 ⟨rfl, hB9⟩; have hF := hT5.trans (hB9.mono hT5.size)))
    go_ret
    exact ⟨rfl, hF⟩
end Go.Proofs.YtflglpbjapgciaaDoor

/- The statement EntryOneCardSaid: whatever its arguments are, the law EntryOne returns true, and leaves its arguments as they were. Conditions: none beyond the statement's own. -/
namespace Go.Proofs.YtflglpbjapgciaaDoor.holdEntryOne
open Go.ChangeShapes Go.WideShapes Go.ChangeAt Go.RowKit
set_option maxRecDepth 100000

theorem ownK : ownKnob Tryd.prog.godebug = none := by kernel_rfl
theorem laidO : laidOutB Tryd.prog = true := by kernel_rfl

theorem laid_met (os : Os) (args : Array Value) : laidMetH Tryd.prog Rows.entryOneRow.laid ((World.laidAll Tryd.prog os LAID).forCall (fun _ _ => 0) ⟨#[], args, []⟩).memory := by
  rw [MakeChecks.laidMetH_plain _ _ _ (by kernel_rfl)]
  exact laidMet_laidAll (laid := LAID) _ (by kernel_rfl) (by kernel_rfl)
theorem reads (os : Os) {H : Type} (enc : TypeId × Value → H) : ∃ places, DataW.whole enc Tryd.prog ((World.laidAll Tryd.prog os LAID).forCall (fun _ _ => 0) ⟨#[], #[.agg #[.int .u8 0, .string ⟨#[]⟩, .int .u64 0, .int .u32 0, .string ⟨#[]⟩, .string ⟨#[]⟩, .slice none 0 0, .slice none 0 0], .agg #[.int .u8 0, .string ⟨#[]⟩, .int .u64 0, .int .u32 0, .string ⟨#[]⟩, .string ⟨#[]⟩, .slice none 0 0, .slice none 0 0]], []⟩).memory Tryd.f6.params.toList Rows.entryOneSpec.vars false (#[.agg #[.int .u8 0, .string ⟨#[]⟩, .int .u64 0, .int .u32 0, .string ⟨#[]⟩, .string ⟨#[]⟩, .slice none 0 0, .slice none 0 0], .agg #[.int .u8 0, .string ⟨#[]⟩, .int .u64 0, .int .u32 0, .string ⟨#[]⟩, .string ⟨#[]⟩, .slice none 0 0, .slice none 0 0]] : Array Value).toList 8 = some ([.agg [.lit (.int .u8 0), .lit (.string []), .lit (.int .u64 0), .agg [.lit (.int .u32 0), .lit (.string []), .lit (.string [])], .nil, .nil], .agg [.lit (.int .u8 0), .lit (.string []), .lit (.int .u64 0), .agg [.lit (.int .u32 0), .lit (.string []), .lit (.string [])], .nil, .nil]], [], places) :=
  ⟨[], by kernel_rfl⟩
set_option maxHeartbeats 1000000 in
theorem lifted (os : Os) (started : os.Started) (H : Type) (enc : TypeId × Value → H) (F : Stop.Interp) :
    ReturnsInHanded {} Tryd.checked os 6 .any ((OpenSpec.ofChange Rows.entryOneSpec).preRow enc Tryd.prog Tryd.f6 Rows.entryOneRow.domain false Rows.entryOneRow.laid) (((OpenSpec.ofChange Rows.entryOneSpec).at F).post enc Tryd.prog Tryd.f6 false true false false) := by
  obtain ⟨places, hx⟩ := reads os enc
  refine returnsInHanded_of_row (C := Tryd.checked) (s := OpenSpec.ofChange Rows.entryOneSpec) ownK started (by kernel_rfl) Tryd.func6
    (witness_row_at (enc := enc) (C := Tryd.checked) false (World.laidAll Tryd.prog os LAID) #[.agg #[.int .u8 0, .string ⟨#[]⟩, .int .u64 0, .int .u32 0, .string ⟨#[]⟩, .string ⟨#[]⟩, .slice none 0 0, .slice none 0 0], .agg #[.int .u8 0, .string ⟨#[]⟩, .int .u64 0, .int .u32 0, .string ⟨#[]⟩, .string ⟨#[]⟩, .slice none 0 0, .slice none 0 0]] (World.laidAll_os _ _ _) (by kernel_rfl) (by kernel_rfl) (by kernel_rfl)
      (OpenSpec.preRow_of_cond 8 hx (by kernel_rfl) (fun k hk => by cases hk) (by kernel_rfl) (laid_met os _))) ?_
  intro W base args ds gs before hval0 hW _ _ _ hL _ _
  rw [MakeChecks.laidMetH_plain _ _ _ (by kernel_rfl)] at hL
  have hT := tb_of_laid hL
  clear hL
  have hval : ∀ (j : Nat) t v, Tryd.f6.params[j]? = some t → args[j]? = some v → Value.okWide Tryd.prog W .any base t v := hval0
  have hW' := hW
  obtain ⟨p, q, hA0, hV, rfl, hfz, hnd⟩ := hW
  have hA : DataW.TrodAll enc Tryd.prog W 0 (fun _ => true) true Tryd.f6.params.toList args.toList ds p := hA0
  rw [Tryd.params6] at hA hval
  obtain ⟨v0, vs0, d0, ds0, p0, q0, hargs, rfl, rfl, h0, r0⟩ := trodAll_cons hA
  obtain ⟨v1, vs1, d1, ds1, p1, q1, rfl, rfl, rfl, h1, r1⟩ := trodAll_cons r0
  obtain ⟨rfl, rfl, rfl⟩ := trodAll_nil r1
  obtain rfl : args = #[v0, v1] := by cases args; simp_all
  obtain ⟨rfl, rfl⟩ := trodVars_none hV
  have k0 := hval 0 31 v0 rfl rfl
  have k1 := hval 1 31 v1 rfl rfl
  clear hA0 hval0 hval
  simp only [List.append_nil] at hW'
  have hlt : ∀ x ∈ p0 ++ p1, x.block < W.heap.size := fun x hx => by simpa using hW'.lt x (by simpa using hx)
  have g0 : ∀ W', Below W.heap.size W W' → DataW.Trod enc Tryd.prog W' 0 (fun b => decide (b < W.heap.size)) true 31 v0 d0 p0 := fun W' hn => Below.trod laidO (by kernel_rfl) (of_decide_eq_true (by kernel_rfl)) h0 hn (fun x hx => hlt x (by simp [hx]))
  have g1 : ∀ W', Below W.heap.size W W' → DataW.Trod enc Tryd.prog W' 0 (fun b => decide (b < W.heap.size)) true 31 v1 d1 p1 := fun W' hn => Below.trod laidO (by kernel_rfl) (of_decide_eq_true (by kernel_rfl)) h1 hn (fun x hx => hlt x (by simp [hx]))
  obtain ⟨t0, rfl, R0⟩ := open_entry k0 h0
  obtain ⟨t1, rfl, R1⟩ := open_entry k1 h1
  refine (entryOne_law W R0 R1 hT).mono fun e W' ⟨he, hb⟩ => ?_
  subst he
  exact ⟨_, rfl, _, _, _, [], _, [], hW', trodAll_cons_mk (shut_bool Tryd.underlying4 _) trodAll_mk0, (trodAll_cons_mk (g0 _ hb) (trodAll_cons_mk (g1 _ hb) trodAll_mk0)), rfl, hb.frame _, fun h => by cases h⟩

theorem said : Rows.EntryOneSaid :=
  OpenClaim.holds_of_cond 6 Tryd.f6 rfl rfl rfl rfl rfl rfl rfl ⟨rfl, rfl, rfl, rfl, rfl⟩ rfl rfl rfl rfl rfl (by kernel_rfl) Tryd.func6 (by kernel_rfl)
    (of_decide_eq_true (by kernel_rfl)) (by unfold Func.isWrapper; first | (rw [if_pos (by decide +kernel)]; kernel_rfl) | (rw [if_neg (by decide +kernel)]; exact ⟨rfl, rfl⟩))
    (fun os started H enc _ F => by rw [OpenClaim.pre_eq_preRow]; exact lifted os started H enc F)
theorem plainP (f : FuncId) (fn : Func) (hf : Tryd.pinned.checked.prog.funcNamed "posthouse/posthouselaw13.EntryOne" = some f) (hfn : Tryd.pinned.checked.prog.funcs[f]? = some fn) :
    true = Tryd.pinned.checked.prog.looks [] ∧ ∀ (j : Nat) t, fn.params[j]? = some t → Tryd.pinned.checked.prog.wantsStandIn t = false := by
  obtain rfl : f = 6 := Option.some.inj ((show Tryd.prog.funcNamed "posthouse/posthouselaw13.EntryOne" = some 6 by kernel_rfl).symm.trans hf) |>.symm
  obtain rfl : fn = Tryd.f6 := (Option.some.inj (Tryd.func6.symm.trans hfn)).symm
  refine ⟨by kernel_rfl, fun j t ht => ?_⟩
  rw [Tryd.params6] at ht
  have hm := Array.mem_of_getElem? ht
  simp only [List.mem_toArray, List.mem_cons, List.not_mem_nil, or_false] at hm
  rcases hm with rfl | rfl <;> exact (show Tryd.prog.wantsStandIn _ = false by kernel_rfl)
/-- The card. -/
theorem card : Rows.EntryOneCardSaid :=
  Claim7.holds_tied_plain_at .later [] _ _ _ _ said (fun _ h => by cases h) (by kernel_rfl) (fun _ h => by cases h) entryOne_row_tie rfl ⟨rfl, rfl⟩ (by kernel_rfl) rfl plainP (by kernel_rfl)
end Go.Proofs.YtflglpbjapgciaaDoor.holdEntryOne
namespace Go.Proofs.YtflglpbjapgciaaDoor
set_option linter.unusedSimpArgs false
set_option linter.unusedVariables false
theorem entryOneCard_holds : Rows.EntryOneCardSaid := holdEntryOne.card
#print axioms entryOneCard_holds
end Go.Proofs.YtflglpbjapgciaaDoor
