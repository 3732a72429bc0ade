/- The statement ValuePutsCardSaid: whatever its arguments are, the law ValuePuts returns true, and leaves its arguments as they were. Conditions: none beyond the statement's own. (Texts joined; the heads of the others stand below.) -/
import Derived.Test.YtokemjpobfjiaaaDoorKP
import Derived.Test.YtokemjpobfjiaaaDoorKL
import Derived.Test.YtokemjpobfjiaaaDoorCards
import Derived.Test.YtokemjpobfjiaaaDoorTie
import Derived.ProofKit
import Derived.OpenShut
import Derived.Deep.DeepHandedRow
import Derived.Lay
import Derived.SevenTiedAt

/- ValuePuts: the law's walk. Conditions: utf8's tables are laid. Written by gen_vputs.py. -/
namespace Go.Proofs.YtokemjpobfjiaaaDoor
set_option linter.unusedSimpArgs false
set_option linter.unusedVariables false
open Go.RowKit
set_option maxRecDepth 100000 in
set_option maxHeartbeats 12800000 in
theorem valuePuts_law (w : World) {x : VT} (hX : Rd (fun i => i < w.heap.size) w x) (hT : Tb w) : Calls Tryd.prog 3 #[x.arg] w fun e w' => e = .returned (.bool true) ∧ Below w.heap.size w w' := by
  have hwfx := Lib.hid hX.wf
  obtain ⟨tk, tn, ts, tka, tkc, tla, tlc, tks, tl, rfl, -, -, htk, htl⟩ := hX.open
  rw [VT.arg_mk]
  have hT0 : Below w.heap.size w (w.alloc (.cells #[.int .u8 tk, .int .u64 tn, .string ts, .slice tka tks.length tkc, .slice tla tl.length tlc] 27)) := (Below.refl _ _).alloc (Nat.le_refl _) _
  have R0 := hX.pure hT0
  have A0 := Blk.new w [.int .u8 tk, .int .u64 tn, .string ts, .slice tka tks.length tkc, .slice tla tl.length tlc] 27
  obtain ⟨vx, hvx⟩ : ∃ vx, VT.v (.mk tk tn ts (.slice tka tks.length tkc) (.slice tla tl.length tlc) tks tl) = vx := ⟨_, rfl⟩
  rw [hvx] at hwfx
  have hvh := Lib.hid (show VT.v (.mk tk tn ts (.slice tka tks.length tkc) (.slice tla tl.length tlc) tks tl) = vx from hvx)
  clear hvx htk htl
  have a0 := A0.at 0 rfl; have a1 := A0.at 1 rfl; have a2 := A0.at 2 rfl; have a3 := A0.at 3 rfl; have a4 := A0.at 4 rfl
  clear hX
  go_enter Tryd.func3, Tryd.ntmps3
  go_wp2_with fail
  have s1 := dSmall_any _ _ _ R0
  rw [VT.arg_mk] at s1
  refine s1.mono ?_
  rintro e w1 ⟨⟨sb, rfl, hsm⟩, hB1⟩
  have R1 := R0.pure hB1; have A1 := A0.pure hB1; have hT1 := hT0.trans (hB1.mono hT0.size)
  rw [hvh.out] at hsm
  clear s1 a0 a1 a2 a3 a4
  have a0 := A1.at 0 rfl; have a1 := A1.at 1 rfl; have a2 := A1.at 2 rfl; have a3 := A1.at 3 rfl; have a4 := A1.at 4 rfl
  cases sb
  · clear hsm
    go_wp2_with (go_at_call 10; (with_reducible refine (head_any _ (hT.pure hT1)).mono ?_); rintro e w9 ⟨rfl, hB9⟩; have hF := hT1.trans (hB9.mono hT1.size))
    go_ret
    exact ⟨rfl, hF⟩
  have hfit := Lib.hid (fit_small (hsm rfl))
  clear hsm
  obtain ⟨cx, hcx⟩ : ∃ cx, vx.chk = cx := ⟨_, rfl⟩
  obtain ⟨bx, hbx⟩ : ∃ bx, (if vx.chk = 0 then vx.bytes else []) = bx := ⟨_, rfl⟩
  have p1 := fun (P : Nat → Prop) (u : World) (t : VT) (ht : t.v = vx) (hR : Rd P u t) (hT : Tb u) => show Calls Tryd.prog 12 #[t.arg] u (fun e w' => ∃ r, e = .returned (.tuple #[r, .int .i64 cx]) ∧ Own u.heap.size 5 1 byEnc w' r bx ∧ Below u.heap.size u w') by
    have h := vput_any t P u hR hT
    rw [ht, hcx] at h; rw [hcx] at hbx; rw [hbx] at h; exact h
  have p2 := fun (P : Nat → Prop) (u : World) (t : VT) (ht : t.v = vx) (hR : Rd P u t) => show Calls Tryd.prog 13 #[t.arg] u (fun e w' => ∃ r, e = .returned (.tuple #[r, .int .i64 cx]) ∧ Own u.heap.size 5 1 byEnc w' r bx ∧ Below u.heap.size u w') by
    have h := dput_any t P u hR
    rw [ht, hcx] at h; rw [hcx] at hbx; rw [hbx] at h; exact h
  have p3 := fun (P : Nat → Prop) (u : World) (t : VT) (ht : t.v = vx) (hR : Rd P u t) (hT : Tb u) => show Calls Tryd.prog 14 #[t.arg] u (fun e w' => e = .returned (.int .i64 cx) ∧ Below u.heap.size u w') by
    have h := check_any t P u hR hT
    rw [ht, hcx] at h; exact h
  have p1h := Lib.hid p1; have p2h := Lib.hid p2; have p3h := Lib.hid p3
  clear p1 p2 p3 hcx hbx
  go_upto_region 6 with (first | (go_at_call 11; refine (dcopy_any _ _ _ R1 (by rw [hvh.out]; exact hfit.out)).mono ?_; rintro e w2 ⟨t2, he, htv, htR, hB2⟩; have R2 := R1.pure hB2; have A2 := A1.pure hB2; have hT2 := hT1.trans (hB2.mono hT1.size); obtain ⟨uk, un, us, uka, ukc, ula, ulc, uks, ul, rfl, -⟩ := htR.open; rw [VT.arg_mk] at he; subst he; rw [hvh.out] at htv; have huv := Lib.hid htv; clear htv; have hD2 := (Below.refl w2.heap.size w2).alloc (Nat.le_refl _) (.cells #[.int .u8 uk, .int .u64 un, .string us, .slice uka uks.length ukc, .slice ula ul.length ulc] 27); have R3 := R2.pure hD2; have A3 := A2.pure hD2; have Q3 := htR.pure hD2; have B3 := Blk.new w2 [.int .u8 uk, .int .u64 un, .string us, .slice uka uks.length ukc, .slice ula ul.length ulc] 27; have hT3 := hT2.trans (hD2.mono hT2.size); clear a0 a1 a2 a3 a4; have a0 := A3.at 0 rfl; have a1 := A3.at 1 rfl; have a2 := A3.at 2 rfl; have a3 := A3.at 3 rfl; have a4 := A3.at 4 rfl; have b0 := B3.at 0 rfl; have b1 := B3.at 1 rfl; have b2 := B3.at 2 rfl; have b3 := B3.at 3 rfl; have b4 := B3.at 4 rfl) | (go_at_call 12; refine (p1h.out _ _ (.mk uk un us (.slice uka uks.length ukc) (.slice ula ul.length ulc) uks ul) huv.out Q3 (hT.pure hT3)).mono ?_; rintro e w4 ⟨r4, rfl, O4, hB4⟩; obtain ⟨Oa, Oc, rfl⟩ := own_lenB O4; have R4 := R3.pure hB4; have A4 := A3.pure hB4; have Q4 := Q3.pure hB4; have B4 := B3.pure hB4; have hT4 := hT3.trans (hB4.mono hT3.size); have c0 := A4.at 0 rfl; have c1 := A4.at 1 rfl; have c2 := A4.at 2 rfl; have c3 := A4.at 3 rfl; have c4 := A4.at 4 rfl) | (go_at_call 13; refine (p2h.out _ _ (.mk tk tn ts (.slice tka tks.length tkc) (.slice tla tl.length tlc) tks tl) hvh.out R4).mono ?_; rintro e w5 ⟨r5, rfl, P5, hB5⟩; obtain ⟨Pa, Pc, rfl⟩ := own_lenB P5; have R5 := R4.pure hB5; have A5 := A4.pure hB5; have Q5 := Q4.pure hB5; have B5 := B4.pure hB5; have hT5 := hT4.trans (hB5.mono hT4.size); have O5 := O4.pure hB5))
  have O5s := O5.slc byEnc_len; have P5s := P5.slc byEnc_len
  obtain ⟨s1, hs1⟩ : ∃ s1 : ByteArray, (⟨bx.toArray⟩ : ByteArray) = s1 := ⟨_, rfl⟩
  have cv1 := Lib.hid (fun (u : World) (h : Below w5.heap.size w5 u) => show (convert 31 9 (.slice Oa bx.length Oc)).run Tryd.prog u = .ok (.string s1) u by rw [← hs1]; exact conv_str u _ _ (O5s.pure h))
  have cv2 := Lib.hid (fun (u : World) (h : Below w5.heap.size w5 u) => show (convert 31 9 (.slice Pa bx.length Pc)).run Tryd.prog u = .ok (.string s1) u by rw [← hs1]; exact conv_str u _ _ (P5s.pure h))
  have hAll := Lib.hid (fun (u : World) (h : Below w5.heap.size w5 u) => (⟨A5.pure h, B5.pure h⟩ : Blk u _ _ ∧ Blk u _ _))
  clear hs1
  have k1 := cv1.out w5 (Below.refl _ _); have k2 := cv2.out w5 (Below.refl _ _)
  clear a0 a1 a2 a3 a4 b0 b1 b2 b3 b4 c0 c1 c2 c3 c4
  have a0 := A5.at 0 rfl; have a1 := A5.at 1 rfl; have a2 := A5.at 2 rfl; have a3 := A5.at 3 rfl; have a4 := A5.at 4 rfl; have b0 := B5.at 0 rfl; have b1 := B5.at 1 rfl; have b2 := B5.at 2 rfl; have b3 := B5.at 3 rfl; have b4 := B5.at 4 rfl
  go_wp2_with (first | (go_at_call 14; refine (p3h.out _ _ (.mk uk un us (.slice uka uks.length ukc) (.slice ula ul.length ulc) uks ul) huv.out Q5 (hT.pure hT5)).mono ?_; rintro e w6 ⟨rfl, hB6⟩; have R6 := R5.pure hB6; have A6 := A5.pure hB6; have Q6 := Q5.pure hB6; have B6 := B5.pure hB6; have hT6 := hT5.trans (hB6.mono hT5.size); have c0 := A6.at 0 rfl; have c1 := A6.at 1 rfl; have c2 := A6.at 2 rfl; have c3 := A6.at 3 rfl; have c4 := A6.at 4 rfl; have d0 := B6.at 0 rfl; have d1 := B6.at 1 rfl; have d2 := B6.at 2 rfl; have d3 := B6.at 3 rfl; have d4 := B6.at 4 rfl) | (go_at_call 15; refine (dsame_yes Q6 R6 (by rw [huv.out, hvh.out])).mono ?_; rintro e w7 ⟨rfl, hB7⟩; have hT7 := hT6.trans (hB7.mono hT6.size)) | (go_at_call 10; (with_reducible refine (head_any _ (hT.pure hT7)).mono ?_); rintro e w9 ⟨rfl, hB9⟩; have hF := hT7.trans (hB9.mono hT7.size)))
  go_ret
  exact ⟨rfl, hF⟩
end Go.Proofs.YtokemjpobfjiaaaDoor

/- The statement ValuePutsCardSaid: whatever its arguments are, the law ValuePuts returns true, and leaves its arguments as they were. Conditions: none beyond the statement's own. -/
namespace Go.Proofs.YtokemjpobfjiaaaDoor.holdValuePuts
open Go.ChangeShapes Go.WideShapes Go.ChangeAt Go.RowKit
set_option maxRecDepth 100000

theorem ownK : ownKnob Tryd.prog.godebug = none := by kernel_rfl
theorem laidO : laidOutB Tryd.prog = true := by kernel_rfl

theorem laid_met (os : Os) (args : Array Value) : laidMetH Tryd.prog Rows.valuePutsRow.laid ((World.laidAll Tryd.prog os LAID).forCall (fun _ _ => 0) ⟨#[], args, []⟩).memory := by
  rw [MakeChecks.laidMetH_plain _ _ _ (by kernel_rfl)]
  exact laidMet_laidAll (laid := LAID) _ (by kernel_rfl) (by kernel_rfl)
theorem reads (os : Os) {H : Type} (enc : TypeId × Value → H) : ∃ places, DataW.whole enc Tryd.prog ((World.laidAll Tryd.prog os LAID).forCall (fun _ _ => 0) ⟨#[], #[.agg #[.int .u8 0, .int .u64 0, .string ⟨#[]⟩, .slice none 0 0, .slice none 0 0]], []⟩).memory Tryd.f3.params.toList Rows.valuePutsSpec.vars false (#[.agg #[.int .u8 0, .int .u64 0, .string ⟨#[]⟩, .slice none 0 0, .slice none 0 0]] : Array Value).toList 8 = some ([.agg [.lit (.int .u8 0), .lit (.int .u64 0), .lit (.string []), .nil, .nil]], [], places) :=
  ⟨[], by kernel_rfl⟩
set_option maxHeartbeats 1000000 in
theorem lifted (os : Os) (started : os.Started) (H : Type) (enc : TypeId × Value → H) (F : Stop.Interp) :
    ReturnsInHanded {} Tryd.checked os 3 .any ((OpenSpec.ofChange Rows.valuePutsSpec).preRow enc Tryd.prog Tryd.f3 Rows.valuePutsRow.domain false Rows.valuePutsRow.laid) (((OpenSpec.ofChange Rows.valuePutsSpec).at F).post enc Tryd.prog Tryd.f3 false true false false) := by
  obtain ⟨places, hx⟩ := reads os enc
  refine returnsInHanded_of_row (C := Tryd.checked) (s := OpenSpec.ofChange Rows.valuePutsSpec) ownK started (by kernel_rfl) Tryd.func3
    (witness_row_at (enc := enc) (C := Tryd.checked) false (World.laidAll Tryd.prog os LAID) #[.agg #[.int .u8 0, .int .u64 0, .string ⟨#[]⟩, .slice none 0 0, .slice none 0 0]] (World.laidAll_os _ _ _) (by kernel_rfl) (by kernel_rfl) (by kernel_rfl)
      (OpenSpec.preRow_of_cond 8 hx (by kernel_rfl) (fun k hk => by cases hk) (by kernel_rfl) (laid_met os _))) ?_
  intro W base args ds gs before hval0 hW _ _ _ hL _ _
  rw [MakeChecks.laidMetH_plain _ _ _ (by kernel_rfl)] at hL
  have hT := tb_of_laid hL
  clear hL
  have hval : ∀ (j : Nat) t v, Tryd.f3.params[j]? = some t → args[j]? = some v → Value.okWide Tryd.prog W .any base t v := hval0
  have hW' := hW
  obtain ⟨p, q, hA0, hV, rfl, hfz, hnd⟩ := hW
  have hA : DataW.TrodAll enc Tryd.prog W 0 (fun _ => true) true Tryd.f3.params.toList args.toList ds p := hA0
  rw [Tryd.params3] at hA hval
  obtain ⟨v0, vs0, d0, ds0, p0, q0, hargs, rfl, rfl, h0, r0⟩ := trodAll_cons hA
  obtain ⟨rfl, rfl, rfl⟩ := trodAll_nil r0
  obtain rfl : args = #[v0] := by cases args; simp_all
  obtain ⟨rfl, rfl⟩ := trodVars_none hV
  have k0 := hval 0 27 v0 rfl rfl
  clear hA0 hval0 hval
  simp only [List.append_nil] at hW'
  have hlt : ∀ x ∈ p0, x.block < W.heap.size := fun x hx => by simpa using hW'.lt x (by simpa using hx)
  have g0 : ∀ W', Below W.heap.size W W' → DataW.Trod enc Tryd.prog W' 0 (fun b => decide (b < W.heap.size)) true 27 v0 d0 p0 := fun W' hn => Below.trod laidO (by kernel_rfl) (of_decide_eq_true (by kernel_rfl)) h0 hn (fun x hx => hlt x (by simp [hx]))
  obtain ⟨t0, rfl, R0⟩ := open_value k0 h0
  refine (valuePuts_law W R0 hT).mono fun e W' ⟨he, hb⟩ => ?_
  subst he
  exact ⟨_, rfl, _, _, _, [], _, [], hW', trodAll_cons_mk (shut_bool Tryd.underlying4 _) trodAll_mk0, (trodAll_cons_mk (g0 _ hb) trodAll_mk0), rfl, hb.frame _, fun h => by cases h⟩

theorem said : Rows.ValuePutsSaid :=
  OpenClaim.holds_of_cond 3 Tryd.f3 rfl rfl rfl rfl rfl rfl rfl ⟨rfl, rfl, rfl, rfl, rfl⟩ rfl rfl rfl rfl rfl (by kernel_rfl) Tryd.func3 (by kernel_rfl)
    (of_decide_eq_true (by kernel_rfl)) (by unfold Func.isWrapper; first | (rw [if_pos (by decide +kernel)]; kernel_rfl) | (rw [if_neg (by decide +kernel)]; exact ⟨rfl, rfl⟩))
    (fun os started H enc _ F => by rw [OpenClaim.pre_eq_preRow]; exact lifted os started H enc F)
theorem plainP (f : FuncId) (fn : Func) (hf : Tryd.pinned.checked.prog.funcNamed "posthouse/posthouselaw05.ValuePuts" = some f) (hfn : Tryd.pinned.checked.prog.funcs[f]? = some fn) :
    true = Tryd.pinned.checked.prog.looks [] ∧ ∀ (j : Nat) t, fn.params[j]? = some t → Tryd.pinned.checked.prog.wantsStandIn t = false := by
  obtain rfl : f = 3 := Option.some.inj ((show Tryd.prog.funcNamed "posthouse/posthouselaw05.ValuePuts" = some 3 by kernel_rfl).symm.trans hf) |>.symm
  obtain rfl : fn = Tryd.f3 := (Option.some.inj (Tryd.func3.symm.trans hfn)).symm
  refine ⟨by kernel_rfl, fun j t ht => ?_⟩
  rw [Tryd.params3] at ht
  have hm := Array.mem_of_getElem? ht
  simp only [List.mem_toArray, List.mem_cons, List.not_mem_nil, or_false] at hm
  rcases hm with rfl <;> exact (show Tryd.prog.wantsStandIn _ = false by kernel_rfl)
/-- The card. -/
theorem card : Rows.ValuePutsCardSaid :=
  Claim7.holds_tied_plain_at .later [] _ _ _ _ said (fun _ h => by cases h) (by kernel_rfl) (fun _ h => by cases h) valuePuts_row_tie rfl ⟨rfl, rfl⟩ (by kernel_rfl) rfl plainP (by kernel_rfl)
end Go.Proofs.YtokemjpobfjiaaaDoor.holdValuePuts
namespace Go.Proofs.YtokemjpobfjiaaaDoor
set_option linter.unusedSimpArgs false
set_option linter.unusedVariables false
theorem valuePutsCard_holds : Rows.ValuePutsCardSaid := holdValuePuts.card
#print axioms valuePutsCard_holds
end Go.Proofs.YtokemjpobfjiaaaDoor
