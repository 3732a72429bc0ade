/- The statement EntryPutsCardSaid: whatever its arguments are, the law EntryPuts returns true, and leaves its arguments as they were. Conditions: none beyond the statement's own. (Texts joined.) -/
import Derived.Test.YtflglpbjapgciaaGreatDoorEX
import Derived.Test.YtflglpbjapgciaaGreatDoorEB
import Derived.Test.YtflglpbjapgciaaGreatDoorEO
import Derived.Test.YtflglpbjapgciaaGreatDoorEU
import Derived.Test.YtflglpbjapgciaaGreatDoorEDD
import Derived.Test.YtflglpbjapgciaaGreatDoorCards
import Derived.Test.YtflglpbjapgciaaGreatDoorTie
import Derived.ProofKit
import Derived.OpenShut
import Derived.Deep.DeepHandedRow
import Derived.Lay
import Derived.SevenTiedAt

namespace Go.Proofs.YtflglpbjapgciaaGreatDoor
set_option linter.unusedSimpArgs false
set_option linter.unusedVariables false
open Go.RowKit
theorem sm_sz {t : EnT} (h : SmEn t) : t.e.Sz :=
  ⟨by have := h.name; show (t.name.size : Int) < _; omega, fun p hp => by obtain ⟨x, hx, rfl⟩ := List.mem_map.1 hp; have := (h.puts x hx).q; show (x.q.size : Int) < _; omega, fun r hr => by have := h.takes r hr; omega⟩
set_option maxRecDepth 100000 in
set_option maxHeartbeats 12800000 in
theorem entryPuts_law (w : World) {pt : EnT} (ht : EnRd (fun i => i < w.heap.size) w pt) (hT : Tb w) : Calls Tryz.prog 3 #[pt.arg] w fun e w' => e = .returned (.bool true) ∧ Below w.heap.size w w' := by
  have hwt := Lib.hid ht.wf
  obtain ⟨kindt, namet, nt, xft, xgt, xbt, pat, pct, tat, tct, putst, takest, rfl, -⟩ := ht.open
  have hwt : Hid ((EnT.mk kindt namet nt (xft, xgt, xbt) (.slice pat putst.length pct) (.slice tat takest.length tct) putst takest).e.Wf) := hwt
  rw [EnT.arg_mk]
  obtain ⟨qt, hqt⟩ : ∃ q, (EnT.mk kindt namet nt (xft, xgt, xbt) (.slice pat putst.length pct) (.slice tat takest.length tct) putst takest).e = q := ⟨_, rfl⟩
  have hqwt := Lib.hid (show qt.Wf by rw [← hqt]; exact hwt.out)
  have hqth := Lib.hid hqt
  clear hqt hwt
  have hT0 : Below w.heap.size w (w.alloc (.cells #[.int .u8 kindt, .string namet, .int .u64 nt, .int .u32 xft, .string xgt, .string xbt, .slice pat putst.length pct, .slice tat takest.length tct] 29)) := (Below.refl _ _).alloc (Nat.le_refl _) _
  have Rt0 := ht.pure hT0
  have At0 := Blk.new w [.int .u8 kindt, .string namet, .int .u64 nt, .int .u32 xft, .string xgt, .string xbt, .slice pat putst.length pct, .slice tat takest.length tct] 29
  have ta0 := At0.at 0 rfl; have ta1 := At0.at 1 rfl; have ta2 := At0.at 2 rfl; have ta3 := At0.at 3 rfl; have ta4 := At0.at 4 rfl; have ta5 := At0.at 5 rfl; have ta6 := At0.at 6 rfl; have ta7 := At0.at 7 rfl
  have zi := entry_info
  go_enter Tryz.func3, Tryz.ntmps3
  go_wp2_with fail
  have s1 := edsmall_any (EnT.mk kindt namet nt (xft, xgt, xbt) (.slice pat putst.length pct) (.slice tat takest.length tct) putst takest) _ _ Rt0
  rw [EnT.arg_mk] at s1
  refine s1.mono ?_
  rintro e w1 ⟨⟨sb, rfl, hsm⟩, hB1⟩
  have Rt1 := Rt0.pure hB1; have At1 := At0.pure hB1; have hT1 := hT0.trans (hB1.mono hT0.size)
  clear s1 ta0 ta1 ta2 ta3 ta4 ta5 ta6 ta7
  have ta0 := At1.at 0 rfl; have ta1 := At1.at 1 rfl; have ta2 := At1.at 2 rfl; have ta3 := At1.at 3 rfl; have ta4 := At1.at 4 rfl; have ta5 := At1.at 5 rfl; have ta6 := At1.at 6 rfl; have ta7 := At1.at 7 rfl
  cases sb
  · clear hsm
    go_wp2_with (go_at_call 6; (with_reducible refine (head13_any _ (hT.pure hT1)).mono ?_); rintro e w9 ⟨rfl, hB9⟩; have hF := hT1.trans (hB9.mono hT1.size))
    go_ret
    exact ⟨rfl, hF⟩
  have hfitt := Lib.hid (hsm rfl)
  clear hsm
  obtain ⟨ct, hct⟩ : ∃ c, qt.chk = c := ⟨_, rfl⟩
  obtain ⟨st, hst⟩ : ∃ s, (if qt.chk = 0 then qt.text else (⟨#[]⟩ : ByteArray)) = s := ⟨_, rfl⟩
  have pPt := Lib.hid (fun (P : Nat → Prop) (u : World) (t : EnT) (ht : t.e = qt) (hR : EnRd P u t) (hT : Tb u) => show Calls Tryz.prog 8 #[t.arg] u (fun e w' => e = .returned (.tuple #[.string st, .int .i64 ct]) ∧ Below u.heap.size u w') by
    have h := eput_any t P u hR hT
    rw [ht, hst, hct] at h; exact h)
  have hcth := Lib.hid hct; have hsth := Lib.hid hst
  have hsz := Lib.hid (show qt.Sz by rw [← hqth.out]; exact sm_sz hfitt.out)
  have dPt := Lib.hid (fun (P : Nat → Prop) (u : World) (t : EnT) (ht : t.e = qt) (hR : EnRd P u t) => show Calls Tryz.prog 9 #[t.arg] u (fun e w' => e = .returned (.tuple #[.string st, .int .i64 ct]) ∧ Below u.heap.size u w') by
    have h := edput_any t P u hR (by rw [ht]; exact hsz.out)
    rw [ht, hst, hct] at h; exact h)
  have pCt := Lib.hid (fun (P : Nat → Prop) (u : World) (t : EnT) (ht : t.e = qt) (hR : EnRd P u t) (hT : Tb u) => show Calls Tryz.prog 10 #[t.arg] u (fun e w' => e = .returned (.int .i64 ct) ∧ Below u.heap.size u w') by
    have h := echeck_any t P u hR hT
    rw [ht, hct] at h; exact h)
  have cp := edcopy_any (EnT.mk kindt namet nt (xft, xgt, xbt) (.slice pat putst.length pct) (.slice tat takest.length tct) putst takest) _ _ Rt1 hfitt.out
  rw [EnT.arg_mk] at cp
  have cph := Lib.hid cp
  clear cp hct hst
  go_wp2_with (first | (go_at_call 7; (with_reducible refine (cph.out).mono ?_); rintro e w2 ⟨ct2, he, hcp, hcR, hB2⟩; have Rt2 := Rt1.pure hB2; have At2 := At1.pure hB2; have hT2 := hT1.trans (hB2.mono hT1.size); obtain ⟨kindc, namec, nc, xfc, xgc, xbc, pac, pcc, tac, tcc, putsc, takesc, rfl, -⟩ := hcR.open; rw [EnT.arg_mk] at he; subst he; have hcq := Lib.hid (hcp.trans hqth.out); clear hcp; have hD2 := ((Below.refl w2.heap.size w2).alloc (Nat.le_refl _) (.cells #[.int .u8 kindc, .string namec, .int .u64 nc, .int .u32 xfc, .string xgc, .string xbc, .slice pac putsc.length pcc, .slice tac takesc.length tcc] 29)); have Rt3 := Rt2.pure hD2; have At3 := At2.pure hD2; have Rc3 := hcR.pure hD2; have Ac3 := Blk.new w2 [.int .u8 kindc, .string namec, .int .u64 nc, .int .u32 xfc, .string xgc, .string xbc, .slice pac putsc.length pcc, .slice tac takesc.length tcc] 29; have hT3 := hT2.trans (hD2.mono hT2.size); clear ta0 ta1 ta2 ta3 ta4 ta5 ta6 ta7; have ta0 := At3.at 0 rfl; have ta1 := At3.at 1 rfl; have ta2 := At3.at 2 rfl; have ta3 := At3.at 3 rfl; have ta4 := At3.at 4 rfl; have ta5 := At3.at 5 rfl; have ta6 := At3.at 6 rfl; have ta7 := At3.at 7 rfl; have ca0 := Ac3.at 0 rfl; have ca1 := Ac3.at 1 rfl; have ca2 := Ac3.at 2 rfl; have ca3 := Ac3.at 3 rfl; have ca4 := Ac3.at 4 rfl; have ca5 := Ac3.at 5 rfl; have ca6 := Ac3.at 6 rfl; have ca7 := Ac3.at 7 rfl) | (go_at_call 8; refine (pPt.out _ _ (EnT.mk kindc namec nc (xfc, xgc, xbc) (.slice pac putsc.length pcc) (.slice tac takesc.length tcc) putsc takesc) hcq.out Rc3 (hT.pure hT3)).mono ?_; rintro e w4 ⟨rfl, hB4⟩; have Rt4 := Rt3.pure hB4; have At4 := At3.pure hB4; have Rc4 := Rc3.pure hB4; have Ac4 := Ac3.pure hB4; have hT4 := hT3.trans (hB4.mono hT3.size); have tb0 := At4.at 0 rfl; have tb1 := At4.at 1 rfl; have tb2 := At4.at 2 rfl; have tb3 := At4.at 3 rfl; have tb4 := At4.at 4 rfl; have tb5 := At4.at 5 rfl; have tb6 := At4.at 6 rfl; have tb7 := At4.at 7 rfl) | (go_at_call 9; refine (dPt.out _ _ (EnT.mk kindt namet nt (xft, xgt, xbt) (.slice pat putst.length pct) (.slice tat takest.length tct) putst takest) hqth.out Rt4).mono ?_; rintro e w5 ⟨rfl, hB5⟩; have Rt5 := Rt4.pure hB5; have At5 := At4.pure hB5; have Rc5 := Rc4.pure hB5; have Ac5 := Ac4.pure hB5; have hT5 := hT4.trans (hB5.mono hT4.size); have cb0 := Ac5.at 0 rfl; have cb1 := Ac5.at 1 rfl; have cb2 := Ac5.at 2 rfl; have cb3 := Ac5.at 3 rfl; have cb4 := Ac5.at 4 rfl; have cb5 := Ac5.at 5 rfl; have cb6 := Ac5.at 6 rfl; have cb7 := Ac5.at 7 rfl) | (go_at_call 10; refine (pCt.out _ _ (EnT.mk kindc namec nc (xfc, xgc, xbc) (.slice pac putsc.length pcc) (.slice tac takesc.length tcc) putsc takesc) hcq.out Rc5 (hT.pure hT5)).mono ?_; rintro e w6 ⟨rfl, hB6⟩; have Rt6 := Rt5.pure hB6; have At6 := At5.pure hB6; have Rc6 := Rc5.pure hB6; have Ac6 := Ac5.pure hB6; have hT6 := hT5.trans (hB6.mono hT5.size); have cc0 := Ac6.at 0 rfl; have cc1 := Ac6.at 1 rfl; have cc2 := Ac6.at 2 rfl; have cc3 := Ac6.at 3 rfl; have cc4 := Ac6.at 4 rfl; have cc5 := Ac6.at 5 rfl; have cc6 := Ac6.at 6 rfl; have cc7 := Ac6.at 7 rfl; have tc0 := At6.at 0 rfl; have tc1 := At6.at 1 rfl; have tc2 := At6.at 2 rfl; have tc3 := At6.at 3 rfl; have tc4 := At6.at 4 rfl; have tc5 := At6.at 5 rfl; have tc6 := At6.at 6 rfl; have tc7 := At6.at 7 rfl) | (go_at_call 11; have hsz9 := edsame_any (EnT.mk kindc namec nc (xfc, xgc, xbc) (.slice pac putsc.length pcc) (.slice tac takesc.length tcc) putsc takesc) (EnT.mk kindt namet nt (xft, xgt, xbt) (.slice pat putst.length pct) (.slice tat takest.length tct) putst takest) _ _ _ Rc6 Rt6; simp only [EnT.arg_mk] at hsz9; refine (hsz9.mono (fun e w' h => says_yes h (hcq.out.trans hqth.out.symm))).mono ?_; rintro e w7 ⟨rfl, hB7⟩; clear hsz9; have hT7 := hT6.trans (hB7.mono hT6.size)) | (go_at_call 6; (with_reducible refine (head13_any _ (hT.pure hT7)).mono ?_); rintro e w9 ⟨rfl, hB9⟩; have hF := hT7.trans (hB9.mono hT7.size)))
  go_ret
  exact ⟨rfl, hF⟩
end Go.Proofs.YtflglpbjapgciaaGreatDoor

namespace Go.Proofs.YtflglpbjapgciaaGreatDoor.holdEntryPuts
open Go.ChangeShapes Go.WideShapes Go.ChangeAt Go.RowKit
set_option maxRecDepth 100000

theorem ownK : ownKnob Tryz.prog.godebug = none := by kernel_rfl
theorem laidO : laidOutB Tryz.prog = true := by kernel_rfl

theorem laid_met (os : Os) (args : Array Value) : laidMetH Tryz.prog Rows.entryPutsRow.laid ((World.laidAll Tryz.prog os LAID).forCall (fun _ _ => 0) ⟨#[], args, []⟩).memory := by
  rw [MakeChecks.laidMetH_plain _ _ _ (by kernel_rfl)]
  exact laidMet_laidAll (laid := LAID) _ (by kernel_rfl) (by kernel_rfl)
theorem reads (os : Os) {H : Type} (enc : TypeId × Value → H) : ∃ places, DataW.whole enc Tryz.prog ((World.laidAll Tryz.prog os LAID).forCall (fun _ _ => 0) ⟨#[], #[.agg #[.int .u8 0, .string ⟨#[]⟩, .int .u64 0, .int .u32 0, .string ⟨#[]⟩, .string ⟨#[]⟩, .slice none 0 0, .slice none 0 0]], []⟩).memory Tryz.f3.params.toList Rows.entryPutsSpec.vars false (#[.agg #[.int .u8 0, .string ⟨#[]⟩, .int .u64 0, .int .u32 0, .string ⟨#[]⟩, .string ⟨#[]⟩, .slice none 0 0, .slice none 0 0]] : Array Value).toList 8 = some ([.agg [.lit (.int .u8 0), .lit (.string []), .lit (.int .u64 0), .agg [.lit (.int .u32 0), .lit (.string []), .lit (.string [])], .nil, .nil]], [], places) :=
  ⟨[], by kernel_rfl⟩
set_option maxHeartbeats 1000000 in
theorem lifted (os : Os) (started : os.Started) (H : Type) (enc : TypeId × Value → H) (F : Stop.Interp) :
    ReturnsInHanded {} Tryz.checked os 3 .any ((OpenSpec.ofChange Rows.entryPutsSpec).preRow enc Tryz.prog Tryz.f3 Rows.entryPutsRow.domain false Rows.entryPutsRow.laid) (((OpenSpec.ofChange Rows.entryPutsSpec).at F).post enc Tryz.prog Tryz.f3 false true false false) := by
  obtain ⟨places, hx⟩ := reads os enc
  refine returnsInHanded_of_row (C := Tryz.checked) (s := OpenSpec.ofChange Rows.entryPutsSpec) ownK started (by kernel_rfl) Tryz.func3
    (witness_row_at (enc := enc) (C := Tryz.checked) false (World.laidAll Tryz.prog os LAID) #[.agg #[.int .u8 0, .string ⟨#[]⟩, .int .u64 0, .int .u32 0, .string ⟨#[]⟩, .string ⟨#[]⟩, .slice none 0 0, .slice none 0 0]] (World.laidAll_os _ _ _) (by kernel_rfl) (by kernel_rfl) (by kernel_rfl)
      (OpenSpec.preRow_of_cond 8 hx (by kernel_rfl) (fun k hk => by cases hk) (by kernel_rfl) (laid_met os _))) ?_
  intro W base args ds gs before hval0 hW _ _ _ hL _ _
  rw [MakeChecks.laidMetH_plain _ _ _ (by kernel_rfl)] at hL
  have hT := tb_of_laid hL
  clear hL
  have hval : ∀ (j : Nat) t v, Tryz.f3.params[j]? = some t → args[j]? = some v → Value.okWide Tryz.prog W .any base t v := hval0
  have hW' := hW
  obtain ⟨p, q, hA0, hV, rfl, hfz, hnd⟩ := hW
  have hA : DataW.TrodAll enc Tryz.prog W 0 (fun _ => true) true Tryz.f3.params.toList args.toList ds p := hA0
  rw [Tryz.params3] at hA hval
  obtain ⟨v0, vs0, d0, ds0, p0, q0, hargs, rfl, rfl, h0, r0⟩ := trodAll_cons hA
  obtain ⟨rfl, rfl, rfl⟩ := trodAll_nil r0
  obtain rfl : args = #[v0] := by cases args; simp_all
  obtain ⟨rfl, rfl⟩ := trodVars_none hV
  have k0 := hval 0 29 v0 rfl rfl
  clear hA0 hval0 hval
  simp only [List.append_nil] at hW'
  have hlt : ∀ x ∈ p0, x.block < W.heap.size := fun x hx => by simpa using hW'.lt x (by simpa using hx)
  have g0 : ∀ W', Below W.heap.size W W' → DataW.Trod enc Tryz.prog W' 0 (fun b => decide (b < W.heap.size)) true 29 v0 d0 p0 := fun W' hn => Below.trod laidO (by kernel_rfl) (of_decide_eq_true (by kernel_rfl)) h0 hn (fun x hx => hlt x (by simp [hx]))
  obtain ⟨t0, rfl, R0⟩ := open_entry k0 h0
  refine (entryPuts_law W R0 hT).mono fun e W' ⟨he, hb⟩ => ?_
  subst he
  exact ⟨_, rfl, _, _, _, [], _, [], hW', trodAll_cons_mk (shut_bool Tryz.underlying4 _) trodAll_mk0, (trodAll_cons_mk (g0 _ hb) trodAll_mk0), rfl, hb.frame _, fun h => by cases h⟩

theorem said : Rows.EntryPutsSaid :=
  OpenClaim.holds_of_cond 3 Tryz.f3 rfl rfl rfl rfl rfl rfl rfl ⟨rfl, rfl, rfl, rfl, rfl⟩ rfl rfl rfl rfl rfl (by kernel_rfl) Tryz.func3 (by kernel_rfl)
    (of_decide_eq_true (by kernel_rfl)) (by unfold Func.isWrapper; first | (rw [if_pos (by decide +kernel)]; kernel_rfl) | (rw [if_neg (by decide +kernel)]; exact ⟨rfl, rfl⟩))
    (fun os started H enc _ F => by rw [OpenClaim.pre_eq_preRow]; exact lifted os started H enc F)
theorem plainP (f : FuncId) (fn : Func) (hf : Tryz.pinned.checked.prog.funcNamed "posthouse/posthouselaw13.EntryPuts" = some f) (hfn : Tryz.pinned.checked.prog.funcs[f]? = some fn) :
    true = Tryz.pinned.checked.prog.looks [] ∧ ∀ (j : Nat) t, fn.params[j]? = some t → Tryz.pinned.checked.prog.wantsStandIn t = false := by
  obtain rfl : f = 3 := Option.some.inj ((show Tryz.prog.funcNamed "posthouse/posthouselaw13.EntryPuts" = some 3 by kernel_rfl).symm.trans hf) |>.symm
  obtain rfl : fn = Tryz.f3 := (Option.some.inj (Tryz.func3.symm.trans hfn)).symm
  refine ⟨by kernel_rfl, fun j t ht => ?_⟩
  rw [Tryz.params3] at ht
  have hm := Array.mem_of_getElem? ht
  simp only [List.mem_toArray, List.mem_cons, List.not_mem_nil, or_false] at hm
  rcases hm with rfl <;> exact (show Tryz.prog.wantsStandIn _ = false by kernel_rfl)
/-- The card. -/
theorem card : Rows.EntryPutsCardSaid :=
  Claim7.holds_tied_plain_at .later [] _ _ _ _ said (fun _ h => by cases h) (by kernel_rfl) (fun _ h => by cases h) entryPuts_row_tie rfl ⟨rfl, rfl⟩ (by kernel_rfl) rfl plainP (by kernel_rfl)
end Go.Proofs.YtflglpbjapgciaaGreatDoor.holdEntryPuts
namespace Go.Proofs.YtflglpbjapgciaaGreatDoor
set_option linter.unusedSimpArgs false
set_option linter.unusedVariables false
theorem entryPutsCard_holds : Rows.EntryPutsCardSaid := holdEntryPuts.card
#print axioms entryPutsCard_holds
end Go.Proofs.YtflglpbjapgciaaGreatDoor
