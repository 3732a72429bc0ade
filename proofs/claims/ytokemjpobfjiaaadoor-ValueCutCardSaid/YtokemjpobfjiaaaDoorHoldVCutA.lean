/- The statement ValueCutCardSaid: whatever its arguments are, the law ValueCut returns true, and leaves its arguments as they were. Conditions: none beyond the statement's own. (Texts joined; the heads of the others stand below.) -/
import Derived.Test.YtokemjpobfjiaaaDoorKL
import Derived.Test.YtokemjpobfjiaaaDoorCards
import Derived.Test.YtokemjpobfjiaaaDoorTie
import Derived.ProofKit
import Derived.OpenShut
import Derived.Deep.DeepHandedRow
import Derived.Lay
import Derived.SevenTiedAt

/- ValueCut: the law's walk. Conditions: utf8's tables are laid. Written by gen_vcut.py. -/
namespace Go.Proofs.YtokemjpobfjiaaaDoor
set_option linter.unusedSimpArgs false
set_option linter.unusedVariables false
open Go.RowKit
set_option maxRecDepth 100000 in
set_option maxHeartbeats 12800000 in
theorem valueCut_law (w : World) {x : VT} {z : Int} (hX : Rd (fun i => i < w.heap.size) w x) (hz : (Lit.int .u16 z).wf = true) (hT : Tb w) : Calls Tryd.prog 5 #[x.arg, .int .u16 z] w fun e w' => e = .returned (.bool true) ∧ Below w.heap.size w w' := by
  have hwfx := Lib.hid hX.wf
  obtain ⟨tk, tn, ts, tka, tkc, tla, tlc, tks, tl, rfl, -, -, htk, htl⟩ := hX.open
  rw [VT.arg_mk]
  have hT0 : Below w.heap.size w (w.alloc (.cells #[.int .u8 tk, .int .u64 tn, .string ts, .slice tka tks.length tkc, .slice tla tl.length tlc] 27)) := (Below.refl _ _).alloc (Nat.le_refl _) _
  have R0 := hX.pure hT0
  have A0 := Blk.new w [.int .u8 tk, .int .u64 tn, .string ts, .slice tka tks.length tkc, .slice tla tl.length tlc] 27
  obtain ⟨vx, hvx⟩ : ∃ vx, VT.v (.mk tk tn ts (.slice tka tks.length tkc) (.slice tla tl.length tlc) tks tl) = vx := ⟨_, rfl⟩
  rw [hvx] at hwfx
  have hvh := Lib.hid (show VT.v (.mk tk tn ts (.slice tka tks.length tkc) (.slice tla tl.length tlc) tks tl) = vx from hvx)
  clear hvx htk htl
  have a0 := A0.at 0 rfl; have a1 := A0.at 1 rfl; have a2 := A0.at 2 rfl; have a3 := A0.at 3 rfl; have a4 := A0.at 4 rfl
  have hzh := Lib.hid (show 0 ≤ z ∧ z < 65536 by simp [Lit.wf, IntKind.min, IntKind.max, IntKind.signed, IntKind.bits] at hz; omega)
  clear hX hz
  go_enter Tryd.func5, Tryd.ntmps5
  go_wp2_with fail
  have s1 := dSmall_any _ _ _ R0
  rw [VT.arg_mk] at s1
  refine s1.mono ?_
  rintro e w1 ⟨⟨sb, rfl, -⟩, hB1⟩
  have R1 := R0.pure hB1; have A1 := A0.pure hB1; have hT1 := hT0.trans (hB1.mono hT0.size)
  clear s1 a0 a1 a2 a3 a4
  have a0 := A1.at 0 rfl; have a1 := A1.at 1 rfl; have a2 := A1.at 2 rfl; have a3 := A1.at 3 rfl; have a4 := A1.at 4 rfl
  cases sb
  · go_wp2_with (go_at_call 10; (with_reducible refine (head_any _ (hT.pure hT1)).mono ?_); rintro e w9 ⟨rfl, hB9⟩; have hF := hT1.trans (hB9.mono hT1.size))
    go_ret
    exact ⟨rfl, hF⟩
  have p1 := fun (u : World) (hR : Rd (fun i => i < w.heap.size) u (.mk tk tn ts (.slice tka tks.length tkc) (.slice tla tl.length tlc) tks tl)) (hT : Tb u) => vput_any _ _ u hR hT
  simp only [VT.arg_mk, hvh.out] at p1
  obtain ⟨cx, hcx⟩ : ∃ cx, vx.chk = cx := ⟨_, rfl⟩
  obtain ⟨bx, hbx⟩ : ∃ bx, (if vx.chk = 0 then vx.bytes else []) = bx := ⟨_, rfl⟩
  rw [hbx] at p1; rw [hcx] at p1
  have hcxh := Lib.hid hcx; have hbxh := Lib.hid hbx
  have p1h := Lib.hid p1
  clear p1 hcx hbx
  by_cases h1 : cx = 0
  rotate_left 1
  · have h2 : (cx == 0) = false := beq_eq_false_iff_ne.2 h1
    have h3 := Lib.hid (bne_iff_ne.2 h1)
    clear h1
    go_wp2_with (first | (go_at_call 12; refine (p1h.out _ R1 (hT.pure hT1)).mono ?_; rintro e w2 ⟨r2, rfl, O2, hB2⟩; obtain ⟨Oa, Oc, rfl⟩ := own_lenB O2; have R2 := R1.pure hB2; have A2 := A1.pure hB2; have hT2 := hT1.trans (hB2.mono hT1.size)) | (go_at_call 10; (with_reducible refine (head_any _ (hT.pure hT2)).mono ?_); rintro e w9 ⟨rfl, hB9⟩; have hF := hT2.trans (hB9.mono hT2.size)))
    go_ret
    exact ⟨(show _ = Ending.returned (Value.bool (cx != 0)) from rfl).trans (by rw [h3.out]), hF⟩
  subst h1
  have ebx : bx = vx.bytes := by rw [← hbxh.out, if_pos hcxh.out]
  have hpos := bytes_pos vx
  rw [← ebx] at hpos
  have hbig : Big bx.length := by have := may_big hcxh.out; rw [← ebx] at this; exact this.mono (by omega)
  have hbz := hbig.le
  have hb0 : ¬ (bx.length : Int) = 0 := by omega
  have hb1 : bx ≠ [] := fun e => by rw [e] at hpos; simp at hpos
  obtain ⟨u, hu⟩ : ∃ u : Nat, (z.toNat % bx.length) = u := ⟨_, rfl⟩
  have hul : u < bx.length := by rw [← hu]; exact Nat.mod_lt _ (by omega)
  have huz : z.tmod (bx.length : Int) = (u : Int) := by
    obtain ⟨m, rfl⟩ : ∃ m : Nat, z = (m : Int) := ⟨z.toNat, by have := hzh.out; omega⟩
    rw [← hu, Int.toNat_natCast]; rfl
  have hz64 : IntKind.i64.wrap z = z := wrap_i64 _ (by have := hzh.out; omega) (by have := hzh.out; omega)
  have hnone := Lib.hid (show getP (bx.take u) = none by rw [ebx]; exact getP_cut hwfx.out hcxh.out (by rw [← ebx]; exact hul))
  have hbt : Big (bx.take u).length := hbig.mono (by simp; omega)
  have hbth := Lib.hid hbt
  have hebx := Lib.hid ebx
  clear ebx hu hpos hbz hbt hbig
  have hu0 : ¬ (bx.length : Int) < (u : Int) := by omega
  have hu1 : (u : Int) ≤ (bx.length : Int) := by omega
  go_wp2_with (first | (go_at_call 12; refine (p1h.out _ R1 (hT.pure hT1)).mono ?_; rintro e w2 ⟨r2, rfl, O2, hB2⟩; obtain ⟨Oa, Oc, rfl⟩ := own_lenB O2; have R2 := R1.pure hB2; have A2 := A1.pure hB2; have hT2 := hT1.trans (hB2.mono hT1.size); have S2 := O2.slc byEnc_len; have hcap := slc_cap S2; have S3 := slc_take S2 (Nat.le_of_lt hul)) | (go_at_call 16; refine (pget_one _ _ _ S3 hbth.out (hT.pure hT2)).mono ?_; rintro e w3 ⟨uk, un, us, uka, ukc, ula, ulc, uks, ul, he, huv, huR, hB3⟩; rw [hnone.out] at he; simp only [getN, getE] at he; subst he; have hA3 := (Below.refl w3.heap.size w3).alloc (Nat.le_refl _) (.cells #[.int .u8 uk, .int .u64 un, .string us, .slice uka uks.length ukc, .slice ula ul.length ulc] 27); have hT3 := (hT2.trans (hB3.mono hT2.size)).trans (hA3.mono (hT2.trans (hB3.mono hT2.size)).size)) | (go_at_call 10; (with_reducible refine (head_any _ (hT.pure hT3)).mono ?_); rintro e w9 ⟨rfl, hB9⟩; have hF := hT3.trans (hB9.mono hT3.size)))
  go_ret
  exact ⟨rfl, hF⟩
end Go.Proofs.YtokemjpobfjiaaaDoor

/- The statement ValueCutCardSaid: whatever its arguments are, the law ValueCut returns true, and leaves its arguments as they were. Conditions: none beyond the statement's own. -/
namespace Go.Proofs.YtokemjpobfjiaaaDoor.holdValueCut
open Go.ChangeShapes Go.WideShapes Go.ChangeAt Go.RowKit
set_option maxRecDepth 100000

theorem ownK : ownKnob Tryd.prog.godebug = none := by kernel_rfl
theorem laidO : laidOutB Tryd.prog = true := by kernel_rfl

theorem laid_met (os : Os) (args : Array Value) : laidMetH Tryd.prog Rows.valueCutRow.laid ((World.laidAll Tryd.prog os LAID).forCall (fun _ _ => 0) ⟨#[], args, []⟩).memory := by
  rw [MakeChecks.laidMetH_plain _ _ _ (by kernel_rfl)]
  exact laidMet_laidAll (laid := LAID) _ (by kernel_rfl) (by kernel_rfl)
theorem reads (os : Os) {H : Type} (enc : TypeId × Value → H) : ∃ places, DataW.whole enc Tryd.prog ((World.laidAll Tryd.prog os LAID).forCall (fun _ _ => 0) ⟨#[], #[.agg #[.int .u8 0, .int .u64 0, .string ⟨#[]⟩, .slice none 0 0, .slice none 0 0], .int .u16 0], []⟩).memory Tryd.f5.params.toList Rows.valueCutSpec.vars false (#[.agg #[.int .u8 0, .int .u64 0, .string ⟨#[]⟩, .slice none 0 0, .slice none 0 0], .int .u16 0] : Array Value).toList 8 = some ([.agg [.lit (.int .u8 0), .lit (.int .u64 0), .lit (.string []), .nil, .nil], .lit (.int .u16 0)], [], places) :=
  ⟨[], by kernel_rfl⟩
set_option maxHeartbeats 1000000 in
theorem lifted (os : Os) (started : os.Started) (H : Type) (enc : TypeId × Value → H) (F : Stop.Interp) :
    ReturnsInHanded {} Tryd.checked os 5 .any ((OpenSpec.ofChange Rows.valueCutSpec).preRow enc Tryd.prog Tryd.f5 Rows.valueCutRow.domain false Rows.valueCutRow.laid) (((OpenSpec.ofChange Rows.valueCutSpec).at F).post enc Tryd.prog Tryd.f5 false true false false) := by
  obtain ⟨places, hx⟩ := reads os enc
  refine returnsInHanded_of_row (C := Tryd.checked) (s := OpenSpec.ofChange Rows.valueCutSpec) ownK started (by kernel_rfl) Tryd.func5
    (witness_row_at (enc := enc) (C := Tryd.checked) false (World.laidAll Tryd.prog os LAID) #[.agg #[.int .u8 0, .int .u64 0, .string ⟨#[]⟩, .slice none 0 0, .slice none 0 0], .int .u16 0] (World.laidAll_os _ _ _) (by kernel_rfl) (by kernel_rfl) (by kernel_rfl)
      (OpenSpec.preRow_of_cond 8 hx (by kernel_rfl) (fun k hk => by cases hk) (by kernel_rfl) (laid_met os _))) ?_
  intro W base args ds gs before hval0 hW _ _ _ hL _ _
  rw [MakeChecks.laidMetH_plain _ _ _ (by kernel_rfl)] at hL
  have hT := tb_of_laid hL
  clear hL
  have hval : ∀ (j : Nat) t v, Tryd.f5.params[j]? = some t → args[j]? = some v → Value.okWide Tryd.prog W .any base t v := hval0
  have hW' := hW
  obtain ⟨p, q, hA0, hV, rfl, hfz, hnd⟩ := hW
  have hA : DataW.TrodAll enc Tryd.prog W 0 (fun _ => true) true Tryd.f5.params.toList args.toList ds p := hA0
  rw [Tryd.params5] at hA hval
  obtain ⟨v0, vs0, d0, ds0, p0, q0, hargs, rfl, rfl, h0, r0⟩ := trodAll_cons hA
  obtain ⟨v1, vs1, d1, ds1, p1, q1, rfl, rfl, rfl, h1, r1⟩ := trodAll_cons r0
  obtain ⟨rfl, rfl, rfl⟩ := trodAll_nil r1
  obtain rfl : args = #[v0, v1] := by cases args; simp_all
  obtain ⟨rfl, rfl⟩ := trodVars_none hV
  have k0 := hval 0 27 v0 rfl rfl
  have k1 := hval 1 44 v1 rfl rfl
  clear hA0 hval0 hval
  simp only [List.append_nil] at hW'
  have hlt : ∀ x ∈ p0 ++ p1, x.block < W.heap.size := fun x hx => by simpa using hW'.lt x (by simpa using hx)
  have g0 : ∀ W', Below W.heap.size W W' → DataW.Trod enc Tryd.prog W' 0 (fun b => decide (b < W.heap.size)) true 27 v0 d0 p0 := fun W' hn => Below.trod laidO (by kernel_rfl) (of_decide_eq_true (by kernel_rfl)) h0 hn (fun x hx => hlt x (by simp [hx]))
  have g1 : ∀ W', Below W.heap.size W W' → DataW.Trod enc Tryd.prog W' 0 (fun b => decide (b < W.heap.size)) true 44 v1 d1 p1 := fun W' hn => Below.trod laidO (by kernel_rfl) (of_decide_eq_true (by kernel_rfl)) h1 hn (fun x hx => hlt x (by simp [hx]))
  obtain ⟨t0, rfl, R0⟩ := open_value k0 h0
  obtain ⟨z1, rfl, rfl, rfl, w1⟩ := open_int Tryd.underlying44 k1 h1
  refine (valueCut_law W R0 w1 hT).mono fun e W' ⟨he, hb⟩ => ?_
  subst he
  exact ⟨_, rfl, _, _, _, [], _, [], hW', trodAll_cons_mk (shut_bool Tryd.underlying4 _) trodAll_mk0, (trodAll_cons_mk (g0 _ hb) (trodAll_cons_mk (g1 _ hb) trodAll_mk0)), rfl, hb.frame _, fun h => by cases h⟩

theorem said : Rows.ValueCutSaid :=
  OpenClaim.holds_of_cond 5 Tryd.f5 rfl rfl rfl rfl rfl rfl rfl ⟨rfl, rfl, rfl, rfl, rfl⟩ rfl rfl rfl rfl rfl (by kernel_rfl) Tryd.func5 (by kernel_rfl)
    (of_decide_eq_true (by kernel_rfl)) (by unfold Func.isWrapper; first | (rw [if_pos (by decide +kernel)]; kernel_rfl) | (rw [if_neg (by decide +kernel)]; exact ⟨rfl, rfl⟩))
    (fun os started H enc _ F => by rw [OpenClaim.pre_eq_preRow]; exact lifted os started H enc F)
theorem plainP (f : FuncId) (fn : Func) (hf : Tryd.pinned.checked.prog.funcNamed "posthouse/posthouselaw05.ValueCut" = some f) (hfn : Tryd.pinned.checked.prog.funcs[f]? = some fn) :
    true = Tryd.pinned.checked.prog.looks [] ∧ ∀ (j : Nat) t, fn.params[j]? = some t → Tryd.pinned.checked.prog.wantsStandIn t = false := by
  obtain rfl : f = 5 := Option.some.inj ((show Tryd.prog.funcNamed "posthouse/posthouselaw05.ValueCut" = some 5 by kernel_rfl).symm.trans hf) |>.symm
  obtain rfl : fn = Tryd.f5 := (Option.some.inj (Tryd.func5.symm.trans hfn)).symm
  refine ⟨by kernel_rfl, fun j t ht => ?_⟩
  rw [Tryd.params5] at ht
  have hm := Array.mem_of_getElem? ht
  simp only [List.mem_toArray, List.mem_cons, List.not_mem_nil, or_false] at hm
  rcases hm with rfl | rfl <;> exact (show Tryd.prog.wantsStandIn _ = false by kernel_rfl)
/-- The card. -/
theorem card : Rows.ValueCutCardSaid :=
  Claim7.holds_tied_plain_at .later [] _ _ _ _ said (fun _ h => by cases h) (by kernel_rfl) (fun _ h => by cases h) valueCut_row_tie rfl ⟨rfl, rfl⟩ (by kernel_rfl) rfl plainP (by kernel_rfl)
end Go.Proofs.YtokemjpobfjiaaaDoor.holdValueCut
namespace Go.Proofs.YtokemjpobfjiaaaDoor
set_option linter.unusedSimpArgs false
set_option linter.unusedVariables false
theorem valueCutCard_holds : Rows.ValueCutCardSaid := holdValueCut.card
#print axioms valueCutCard_holds
end Go.Proofs.YtokemjpobfjiaaaDoor
