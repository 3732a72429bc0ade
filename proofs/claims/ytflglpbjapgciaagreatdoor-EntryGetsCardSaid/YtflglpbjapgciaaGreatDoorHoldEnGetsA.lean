/- The statement EntryGetsCardSaid: whatever its arguments are, the law EntryGets returns true, and leaves its arguments as they were. Conditions: none beyond the statement's own. (Texts joined.) -/
import Derived.Test.YtflglpbjapgciaaGreatDoorEX
import Derived.Test.YtflglpbjapgciaaGreatDoorEDE
import Derived.Test.YtflglpbjapgciaaGreatDoorEO
import Derived.Test.YtflglpbjapgciaaGreatDoorCards
import Derived.Test.YtflglpbjapgciaaGreatDoorTie
import Derived.ProofKit
import Derived.OpenShut
import Derived.Deep.DeepHandedRow
import Derived.Lay
import Derived.SevenTiedAt
import Derived.ChangeMaps5
set_option linter.unusedSimpArgs false
set_option linter.unusedVariables false
namespace Go.Proofs.YtflglpbjapgciaaGreatDoor
open Go.RowKit
set_option maxRecDepth 100000 in
set_option maxHeartbeats 12800000 in
theorem entryGets_law (w : World) (s : ByteArray) (hT : Tb w) : Calls Tryz.prog 4 #[.string s] w fun e w' => e = .returned (.bool true) ∧ Below w.heap.size w w' := by
  have hT0 := Below.refl w.heap.size w; have zi := entry_info; have hs63 : 0 ≤ (s.size : Int) := by omega
  go_enter Tryz.func4, Tryz.ntmps4; by_cases h0 : 30000 < s.size
  · have h1 : decide ((30000 : Int) < (s.size : Int)) = true := decide_eq_true (by omega); have h2 : (30000 : Int) < (s.size : Int) := by omega
    clear h0; go_wp2_with (go_at_call 6; (with_reducible refine (head13_any _ (hT.pure hT0)).mono ?_); rintro e w9 ⟨rfl, hB9⟩; have hF := hT0.trans (hB9.mono hT0.size)); go_ret; exact ⟨rfl, hF⟩
  have h1 : decide ((30000 : Int) < (s.size : Int)) = false := decide_eq_false (by omega); have h2 : ¬ (30000 : Int) < (s.size : Int) := by omega
  obtain ⟨oo, hoo⟩ : ∃ oo, egO s.data.toList = oo := ⟨_, rfl⟩
  obtain ⟨oe, hoe⟩ : ∃ oe, enE oo = oe := ⟨_, rfl⟩
  have g1 := Lib.hid (fun (u : World) (hu : Tb u) => show Calls Tryz.prog 12 #[.string s] u (GotE u oo) by have h := eget_any u s (by omega) hu; rw [hoo] at h; exact h); have g2 := Lib.hid (fun (u : World) => show Calls Tryz.prog 13 #[.string s] u (GotE u oo) by have h := edget_any u s (by omega); rw [hoo] at h; exact h); have hoeh := Lib.hid hoe; clear h0 hoo hoe; go_wp2_with (first | (go_at_call 12; (with_reducible refine (g1.out _ hT).mono ?_); rintro e w1 hg; obtain ⟨kindu, nameu, nu, xfu, xgu, xbu, pau, pcu, tau, tcu, putsu, takesu, he, hpu, hRu, hB1⟩ := gotE_open hg; clear hg; rw [hoeh.out] at he; subst he; have hpuh := Lib.hid hpu; clear hpu; have hD1 := ((Below.refl w1.heap.size w1).alloc (Nat.le_refl _) (.cells #[.int .u8 kindu, .string nameu, .int .u64 nu, .int .u32 xfu, .string xgu, .string xbu, .slice pau putsu.length pcu, .slice tau takesu.length tcu] 29)); have hT1 := hT0.trans (hB1.mono hT0.size); have Ru2 := hRu.pure hD1; have Au2 := Blk.new w1 [.int .u8 kindu, .string nameu, .int .u64 nu, .int .u32 xfu, .string xgu, .string xbu, .slice pau putsu.length pcu, .slice tau takesu.length tcu] 29; have hT2 := hT1.trans (hD1.mono hT1.size)) | (go_at_call 13; (with_reducible refine (g2.out _).mono ?_); rintro e w3 hg; obtain ⟨kindx, namex, nx, xfx, xgx, xbx, pax, pcx, tax, tcx, putsx, takesx, he, hpx, hRx, hB3⟩ := gotE_open hg; clear hg; rw [hoeh.out] at he; subst he; have hpxh := Lib.hid hpx; clear hpx; have hD3 := ((Below.refl w3.heap.size w3).alloc (Nat.le_refl _) (.cells #[.int .u8 kindx, .string namex, .int .u64 nx, .int .u32 xfx, .string xgx, .string xbx, .slice pax putsx.length pcx, .slice tax takesx.length tcx] 29)); have Ru3 := Ru2.pure hB3; have Au3 := Au2.pure hB3; have hT3 := hT2.trans (hB3.mono hT2.size); have Rx4 := hRx.pure hD3; have Ax4 := Blk.new w3 [.int .u8 kindx, .string namex, .int .u64 nx, .int .u32 xfx, .string xgx, .string xbx, .slice pax putsx.length pcx, .slice tax takesx.length tcx] 29; have Ru4 := Ru3.pure hD3; have Au4 := Au3.pure hD3; have hT4 := hT3.trans (hD3.mono hT3.size); have ua0 := Au4.at 0 rfl; have ua1 := Au4.at 1 rfl; have ua2 := Au4.at 2 rfl; have ua3 := Au4.at 3 rfl; have ua4 := Au4.at 4 rfl; have ua5 := Au4.at 5 rfl; have ua6 := Au4.at 6 rfl; have ua7 := Au4.at 7 rfl; have xa0 := Ax4.at 0 rfl; have xa1 := Ax4.at 1 rfl; have xa2 := Ax4.at 2 rfl; have xa3 := Ax4.at 3 rfl; have xa4 := Ax4.at 4 rfl; have xa5 := Ax4.at 5 rfl; have xa6 := Ax4.at 6 rfl; have xa7 := Ax4.at 7 rfl) | (go_at_call 11; have hsz := edsame_any (EnT.mk kindu nameu nu (xfu, xgu, xbu) (.slice pau putsu.length pcu) (.slice tau takesu.length tcu) putsu takesu) (EnT.mk kindx namex nx (xfx, xgx, xbx) (.slice pax putsx.length pcx) (.slice tax takesx.length tcx) putsx takesx) _ _ _ Ru4 Rx4; simp only [EnT.arg_mk] at hsz; refine (hsz.mono (fun e w' h => says_yes h (hpuh.out.trans hpxh.out.symm))).mono ?_; rintro e w7 ⟨rfl, hB7⟩; clear hsz; have hT7 := hT4.trans (hB7.mono hT4.size)) | (go_at_call 6; (with_reducible refine (head13_any _ (hT.pure hT7)).mono ?_); rintro e w9 ⟨rfl, hB9⟩; have hF := hT7.trans (hB9.mono hT7.size))); go_ret; exact ⟨rfl, hF⟩
end Go.Proofs.YtflglpbjapgciaaGreatDoor
namespace Go.Proofs.YtflglpbjapgciaaGreatDoor.holdEntryGets
open Go.ChangeShapes Go.WideShapes Go.ChangeAt Go.RowKit
set_option maxRecDepth 100000
theorem ownK : ownKnob Tryz.prog.godebug = none := by kernel_rfl
theorem laidO : laidOutB Tryz.prog = true := by kernel_rfl
theorem laid_met (os : Os) (args : Array Value) : laidMetH Tryz.prog Rows.entryGetsRow.laid ((World.laidAll Tryz.prog os LAID).forCall (fun _ _ => 0) ⟨#[], args, []⟩).memory := by
  rw [MakeChecks.laidMetH_plain _ _ _ (by kernel_rfl)]; exact laidMet_laidAll (laid := LAID) _ (by kernel_rfl) (by kernel_rfl)
theorem reads (os : Os) {H : Type} (enc : TypeId × Value → H) : ∃ places, DataW.whole enc Tryz.prog ((World.laidAll Tryz.prog os LAID).forCall (fun _ _ => 0) ⟨#[], #[.string ⟨#[]⟩], []⟩).memory Tryz.f4.params.toList Rows.entryGetsSpec.vars false (#[.string ⟨#[]⟩] : Array Value).toList 8 = some ([.lit (.string [])], [], places) :=
  ⟨[], by kernel_rfl⟩
set_option maxHeartbeats 1000000 in
theorem lifted (os : Os) (started : os.Started) (H : Type) (enc : TypeId × Value → H) (F : Stop.Interp) :
    ReturnsInHanded {} Tryz.checked os 4 .any ((OpenSpec.ofChange Rows.entryGetsSpec).preRow enc Tryz.prog Tryz.f4 Rows.entryGetsRow.domain false Rows.entryGetsRow.laid) (((OpenSpec.ofChange Rows.entryGetsSpec).at F).post enc Tryz.prog Tryz.f4 false true false false) := by
  obtain ⟨places, hx⟩ := reads os enc
  refine returnsInHanded_of_row (C := Tryz.checked) (s := OpenSpec.ofChange Rows.entryGetsSpec) ownK started (by kernel_rfl) Tryz.func4
    (witness_row_at (enc := enc) (C := Tryz.checked) false (World.laidAll Tryz.prog os LAID) #[.string ⟨#[]⟩] (World.laidAll_os _ _ _) (by kernel_rfl) (by kernel_rfl) (by kernel_rfl)
      (OpenSpec.preRow_of_cond 8 hx (by kernel_rfl) (fun k hk => by cases hk) (by kernel_rfl) (laid_met os _))) ?_
  intro W base args ds gs before hval0 hW _ _ _ hL _ _; rw [MakeChecks.laidMetH_plain _ _ _ (by kernel_rfl)] at hL; have hT := tb_of_laid hL; clear hL; have hval : ∀ (j : Nat) t v, Tryz.f4.params[j]? = some t → args[j]? = some v → Value.okWide Tryz.prog W .any base t v := hval0
  have hW' := hW; obtain ⟨p, q, hA0, hV, rfl, hfz, hnd⟩ := hW; have hA : DataW.TrodAll enc Tryz.prog W 0 (fun _ => true) true Tryz.f4.params.toList args.toList ds p := hA0; rw [Tryz.params4] at hA hval; obtain ⟨v0, vs0, d0, ds0, p0, q0, hargs, rfl, rfl, h0, r0⟩ := trodAll_cons hA; obtain ⟨rfl, rfl, rfl⟩ := trodAll_nil r0; obtain rfl : args = #[v0] := by cases args; simp_all
  obtain ⟨rfl, rfl⟩ := trodVars_none hV; have k0 := hval 0 9 v0 rfl rfl; clear hA0 hval0 hval; simp only [List.append_nil] at hW'; have hlt : ∀ x ∈ p0, x.block < W.heap.size := fun x hx => by simpa using hW'.lt x (by simpa using hx)
  have g0 : ∀ W', Below W.heap.size W W' → DataW.Trod enc Tryz.prog W' 0 (fun b => decide (b < W.heap.size)) true 9 v0 d0 p0 := fun W' hn => Below.trod laidO (by kernel_rfl) (of_decide_eq_true (by kernel_rfl)) h0 hn (fun x hx => hlt x (by simp [hx]))
  obtain ⟨s0, rfl, rfl, rfl, -⟩ := Go.ChangeMaps.open_string Tryz.underlying9 k0 h0; refine (entryGets_law W s0 hT).mono fun e W' ⟨he, hb⟩ => ?_
  subst he; exact ⟨_, rfl, _, _, _, [], _, [], hW', trodAll_cons_mk (shut_bool Tryz.underlying4 _) trodAll_mk0, (trodAll_cons_mk (g0 _ hb) trodAll_mk0), rfl, hb.frame _, fun h => by cases h⟩
theorem said : Rows.EntryGetsSaid :=
  OpenClaim.holds_of_cond 4 Tryz.f4 rfl rfl rfl rfl rfl rfl rfl ⟨rfl, rfl, rfl, rfl, rfl⟩ rfl rfl rfl rfl rfl (by kernel_rfl) Tryz.func4 (by kernel_rfl)
    (of_decide_eq_true (by kernel_rfl)) (by unfold Func.isWrapper; first | (rw [if_pos (by decide +kernel)]; kernel_rfl) | (rw [if_neg (by decide +kernel)]; exact ⟨rfl, rfl⟩))
    (fun os started H enc _ F => by rw [OpenClaim.pre_eq_preRow]; exact lifted os started H enc F)
theorem plainP (f : FuncId) (fn : Func) (hf : Tryz.pinned.checked.prog.funcNamed "posthouse/posthouselaw13.EntryGets" = some f) (hfn : Tryz.pinned.checked.prog.funcs[f]? = some fn) :
    true = Tryz.pinned.checked.prog.looks [] ∧ ∀ (j : Nat) t, fn.params[j]? = some t → Tryz.pinned.checked.prog.wantsStandIn t = false := by
  obtain rfl : f = 4 := Option.some.inj ((show Tryz.prog.funcNamed "posthouse/posthouselaw13.EntryGets" = some 4 by kernel_rfl).symm.trans hf) |>.symm
  obtain rfl : fn = Tryz.f4 := (Option.some.inj (Tryz.func4.symm.trans hfn)).symm; refine ⟨by kernel_rfl, fun j t ht => ?_⟩; rw [Tryz.params4] at ht; have hm := Array.mem_of_getElem? ht; simp only [List.mem_toArray, List.mem_cons, List.not_mem_nil, or_false] at hm; rcases hm with rfl <;> exact (show Tryz.prog.wantsStandIn _ = false by kernel_rfl)
/-- The card. -/
theorem card : Rows.EntryGetsCardSaid :=
  Claim7.holds_tied_plain_at .later [] _ _ _ _ said (fun _ h => by cases h) (by kernel_rfl) (fun _ h => by cases h) entryGets_row_tie rfl ⟨rfl, rfl⟩ (by kernel_rfl) rfl plainP (by kernel_rfl)
end Go.Proofs.YtflglpbjapgciaaGreatDoor.holdEntryGets
namespace Go.Proofs.YtflglpbjapgciaaGreatDoor
theorem entryGetsCard_holds : Rows.EntryGetsCardSaid := holdEntryGets.card
#print axioms entryGetsCard_holds
end Go.Proofs.YtflglpbjapgciaaGreatDoor
