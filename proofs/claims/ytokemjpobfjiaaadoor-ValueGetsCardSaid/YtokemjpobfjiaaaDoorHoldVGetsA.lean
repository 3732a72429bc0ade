/- The statement ValueGetsCardSaid: whatever its arguments are, the law ValueGets returns true, and leaves its arguments as they were. Conditions: none beyond the statement's own. (Texts joined; the heads of the others stand below.) -/
import Derived.Test.YtokemjpobfjiaaaDoorKL
import Derived.Test.YtokemjpobfjiaaaDoorCards
import Derived.Test.YtokemjpobfjiaaaDoorTie
import Derived.ProofKit
import Derived.OpenShut
import Derived.Deep.DeepHandedRow
import Derived.Lay
import Derived.SevenTiedAt

/- ValueGets: the law's walk. Conditions: utf8's tables are laid. Written by gen_getL.py. -/
namespace Go.Proofs.YtokemjpobfjiaaaDoor
set_option linter.unusedSimpArgs false
set_option linter.unusedVariables false
open Go.RowKit
set_option maxRecDepth 100000 in
set_option maxHeartbeats 6400000 in
theorem valueGets_walk (w : World) (v : Value) (L : List UInt8) (h : Slc byEnc 1 w v L) (hT : Tb w) : Calls Tryd.prog 4 #[v] w fun e w' => e = .returned (.bool true) ∧ Below w.heap.size w w' := by
  obtain ⟨va, vc, rfl, hm⟩ := h.len
  by_cases hn : 10000 < L.length
  · have hn1 : decide ((10000 : Int) < (L.length : Int)) = true := decide_eq_true (by omega)
    have hn2 : (10000 : Int) < (L.length : Int) := by omega
    clear hm
    go_enter Tryd.func4, Tryd.ntmps4
    go_wp2_with (go_at_call 10; (with_reducible refine (head_any _ hT).mono ?_); rintro e w1 ⟨rfl, hB1⟩)
    go_ret
    exact ⟨rfl, hB1⟩
  · have hn1 : decide ((10000 : Int) < (L.length : Int)) = false := decide_eq_false (by omega)
    have hn2 : ¬ (10000 : Int) < (L.length : Int) := by omega
    have hL : Big L.length := by unfold Big; omega
    obtain ⟨gn, hgn⟩ : ∃ gn, getN (getP L) = gn := ⟨_, rfl⟩
    obtain ⟨ge, hge⟩ : ∃ ge, getE (getP L) = ge := ⟨_, rfl⟩
    have hgh := Lib.hid (show getN (getP L) = gn ∧ getE (getP L) = ge from ⟨hgn, hge⟩)
    clear hgn hge hm hn
    go_enter Tryd.func4, Tryd.ntmps4
    go_wp2_with (first | (go_at_call 16; refine (pget_one _ _ L h hL hT).mono ?_; rintro e w1 ⟨tk, tn, ts, tka, tkc, tla, tlc, tks, tl, he, htv, htR, hB1⟩; rw [hgh.out.1, hgh.out.2] at he; subst he; have htvh := Lib.hid htv; clear htv; have hA1 := (Below.refl w1.heap.size w1).alloc (Nat.le_refl _) (.cells #[.int .u8 tk, .int .u64 tn, .string ts, .slice tka tks.length tkc, .slice tla tl.length tlc] 27); have hT1 := hB1.trans (hA1.mono hB1.size); have tR1 := htR.pure hA1; have tb1 := Blk.new w1 [.int .u8 tk, .int .u64 tn, .string ts, .slice tka tks.length tkc, .slice tla tl.length tlc] 27; have hs1 := h.pure hT1) | (go_at_call 17; refine (dget_one _ _ L hs1 hL).mono ?_; rintro e w2 ⟨uk, un, us, uka, ukc, ula, ulc, uks, ul, he, huv, huR, hB2⟩; rw [hgh.out.1, hgh.out.2] at he; subst he; have huvh := Lib.hid huv; clear huv; have hA2 := (Below.refl w2.heap.size w2).alloc (Nat.le_refl _) (.cells #[.int .u8 uk, .int .u64 un, .string us, .slice uka uks.length ukc, .slice ula ul.length ulc] 27); have hT2 := (hT1.trans (hB2.mono hT1.size)).trans (hA2.mono (hT1.trans (hB2.mono hT1.size)).size); have tR2 := (tR1.pure hB2).pure hA2; have tb2 := (tb1.pure hB2).alloc (.cells #[.int .u8 uk, .int .u64 un, .string us, .slice uka uks.length ukc, .slice ula ul.length ulc] 27); have uR2 := huR.pure hA2; have ub2 := Blk.new w2 [.int .u8 uk, .int .u64 un, .string us, .slice uka uks.length ukc, .slice ula ul.length ulc] 27; have p0 := tb2.at 0 rfl; have p1 := tb2.at 1 rfl; have p2 := tb2.at 2 rfl; have p3 := tb2.at 3 rfl; have p4 := tb2.at 4 rfl; have q0 := ub2.at 0 rfl; have q1 := ub2.at 1 rfl; have q2 := ub2.at 2 rfl; have q3 := ub2.at 3 rfl; have q4 := ub2.at 4 rfl) | (go_at_call 15; refine (dsame_yes tR2 uR2 (by rw [htvh.out, huvh.out])).mono ?_; rintro e w3 ⟨rfl, hB3⟩; have hT3 := hT2.trans (hB3.mono hT2.size)))
    refine (head_any _ (hT.pure hT3)).mono ?_
    rintro e w4 ⟨rfl, hB4⟩
    go_wp2
    go_ret
    exact ⟨rfl, hT3.trans (hB4.mono hT3.size)⟩
theorem valueGets_law (w : World) {v : Value} {L : List UInt8} (h : Slc byEnc 1 w v L) (hT : Tb w) : Calls Tryd.prog 4 #[v] w fun e w' => e = .returned (.bool true) ∧ Below w.heap.size w w' := valueGets_walk w v L h hT
end Go.Proofs.YtokemjpobfjiaaaDoor

/- The statement ValueGetsCardSaid: whatever its arguments are, the law ValueGets returns true, and leaves its arguments as they were. Conditions: none beyond the statement's own. -/
namespace Go.Proofs.YtokemjpobfjiaaaDoor.holdValueGets
open Go.ChangeShapes Go.WideShapes Go.ChangeAt Go.RowKit
set_option maxRecDepth 100000

theorem ownK : ownKnob Tryd.prog.godebug = none := by kernel_rfl
theorem laidO : laidOutB Tryd.prog = true := by kernel_rfl

theorem laid_met (os : Os) (args : Array Value) : laidMetH Tryd.prog Rows.valueGetsRow.laid ((World.laidAll Tryd.prog os LAID).forCall (fun _ _ => 0) ⟨#[], args, []⟩).memory := by
  rw [MakeChecks.laidMetH_plain _ _ _ (by kernel_rfl)]
  exact laidMet_laidAll (laid := LAID) _ (by kernel_rfl) (by kernel_rfl)
theorem reads (os : Os) {H : Type} (enc : TypeId × Value → H) : ∃ places, DataW.whole enc Tryd.prog ((World.laidAll Tryd.prog os LAID).forCall (fun _ _ => 0) ⟨#[], #[.slice none 0 0], []⟩).memory Tryd.f4.params.toList Rows.valueGetsSpec.vars false (#[.slice none 0 0] : Array Value).toList 8 = some ([.nil], [], places) :=
  ⟨[], by kernel_rfl⟩
set_option maxHeartbeats 1000000 in
theorem lifted (os : Os) (started : os.Started) (H : Type) (enc : TypeId × Value → H) (F : Stop.Interp) :
    ReturnsInHanded {} Tryd.checked os 4 .any ((OpenSpec.ofChange Rows.valueGetsSpec).preRow enc Tryd.prog Tryd.f4 Rows.valueGetsRow.domain false Rows.valueGetsRow.laid) (((OpenSpec.ofChange Rows.valueGetsSpec).at F).post enc Tryd.prog Tryd.f4 false true false false) := by
  obtain ⟨places, hx⟩ := reads os enc
  refine returnsInHanded_of_row (C := Tryd.checked) (s := OpenSpec.ofChange Rows.valueGetsSpec) ownK started (by kernel_rfl) Tryd.func4
    (witness_row_at (enc := enc) (C := Tryd.checked) false (World.laidAll Tryd.prog os LAID) #[.slice none 0 0] (World.laidAll_os _ _ _) (by kernel_rfl) (by kernel_rfl) (by kernel_rfl)
      (OpenSpec.preRow_of_cond 8 hx (by kernel_rfl) (fun k hk => by cases hk) (by kernel_rfl) (laid_met os _))) ?_
  intro W base args ds gs before hval0 hW _ _ _ hL _ _
  rw [MakeChecks.laidMetH_plain _ _ _ (by kernel_rfl)] at hL
  have hT := tb_of_laid hL
  clear hL
  have hval : ∀ (j : Nat) t v, Tryd.f4.params[j]? = some t → args[j]? = some v → Value.okWide Tryd.prog W .any base t v := hval0
  have hW' := hW
  obtain ⟨p, q, hA0, hV, rfl, hfz, hnd⟩ := hW
  have hA : DataW.TrodAll enc Tryd.prog W 0 (fun _ => true) true Tryd.f4.params.toList args.toList ds p := hA0
  rw [Tryd.params4] at hA hval
  obtain ⟨v0, vs0, d0, ds0, p0, q0, hargs, rfl, rfl, h0, r0⟩ := trodAll_cons hA
  obtain ⟨rfl, rfl, rfl⟩ := trodAll_nil r0
  obtain rfl : args = #[v0] := by cases args; simp_all
  obtain ⟨rfl, rfl⟩ := trodVars_none hV
  have k0 := hval 0 31 v0 rfl rfl
  clear hA0 hval0 hval
  simp only [List.append_nil] at hW'
  have hlt : ∀ x ∈ p0, x.block < W.heap.size := fun x hx => by simpa using hW'.lt x (by simpa using hx)
  have g0 : ∀ W', Below W.heap.size W W' → DataW.Trod enc Tryd.prog W' 0 (fun b => decide (b < W.heap.size)) true 31 v0 d0 p0 := fun W' hn => Below.trod laidO (by kernel_rfl) (of_decide_eq_true (by kernel_rfl)) h0 hn (fun x hx => hlt x (by simp [hx]))
  obtain ⟨L0, S0⟩ := open_bytes k0 h0
  refine (valueGets_law W S0 hT).mono fun e W' ⟨he, hb⟩ => ?_
  subst he
  exact ⟨_, rfl, _, _, _, [], _, [], hW', trodAll_cons_mk (shut_bool Tryd.underlying4 _) trodAll_mk0, (trodAll_cons_mk (g0 _ hb) trodAll_mk0), rfl, hb.frame _, fun h => by cases h⟩

theorem said : Rows.ValueGetsSaid :=
  OpenClaim.holds_of_cond 4 Tryd.f4 rfl rfl rfl rfl rfl rfl rfl ⟨rfl, rfl, rfl, rfl, rfl⟩ rfl rfl rfl rfl rfl (by kernel_rfl) Tryd.func4 (by kernel_rfl)
    (of_decide_eq_true (by kernel_rfl)) (by unfold Func.isWrapper; first | (rw [if_pos (by decide +kernel)]; kernel_rfl) | (rw [if_neg (by decide +kernel)]; exact ⟨rfl, rfl⟩))
    (fun os started H enc _ F => by rw [OpenClaim.pre_eq_preRow]; exact lifted os started H enc F)
theorem plainP (f : FuncId) (fn : Func) (hf : Tryd.pinned.checked.prog.funcNamed "posthouse/posthouselaw05.ValueGets" = some f) (hfn : Tryd.pinned.checked.prog.funcs[f]? = some fn) :
    true = Tryd.pinned.checked.prog.looks [] ∧ ∀ (j : Nat) t, fn.params[j]? = some t → Tryd.pinned.checked.prog.wantsStandIn t = false := by
  obtain rfl : f = 4 := Option.some.inj ((show Tryd.prog.funcNamed "posthouse/posthouselaw05.ValueGets" = some 4 by kernel_rfl).symm.trans hf) |>.symm
  obtain rfl : fn = Tryd.f4 := (Option.some.inj (Tryd.func4.symm.trans hfn)).symm
  refine ⟨by kernel_rfl, fun j t ht => ?_⟩
  rw [Tryd.params4] at ht
  have hm := Array.mem_of_getElem? ht
  simp only [List.mem_toArray, List.mem_cons, List.not_mem_nil, or_false] at hm
  rcases hm with rfl <;> exact (show Tryd.prog.wantsStandIn _ = false by kernel_rfl)
/-- The card. -/
theorem card : Rows.ValueGetsCardSaid :=
  Claim7.holds_tied_plain_at .later [] _ _ _ _ said (fun _ h => by cases h) (by kernel_rfl) (fun _ h => by cases h) valueGets_row_tie rfl ⟨rfl, rfl⟩ (by kernel_rfl) rfl plainP (by kernel_rfl)
end Go.Proofs.YtokemjpobfjiaaaDoor.holdValueGets
namespace Go.Proofs.YtokemjpobfjiaaaDoor
set_option linter.unusedSimpArgs false
set_option linter.unusedVariables false
theorem valueGetsCard_holds : Rows.ValueGetsCardSaid := holdValueGets.card
#print axioms valueGetsCard_holds
end Go.Proofs.YtokemjpobfjiaaaDoor
