/- The statement StoreLockedCardSaid: whatever its arguments are, the law StoreLocked returns true, and leaves its arguments as they were. Conditions: none beyond the statement's own. -/
import Derived.Test.YtgnaifhmcllnlaaGreatDoorCards
import Derived.Test.YtgnaifhmcllnlaaGreatDoorTie
import Derived.Test.YtgnaifhmcllnlaaGreatDoorB15
set_option maxRecDepth 100000
set_option maxHeartbeats 1000000
set_option linter.unusedSimpArgs false
set_option linter.unusedVariables false
namespace Go.Proofs.YtgnaifhmcllnlaaGreatDoor.holdStoreLocked
open Go.ChangeShapes Go.WideShapes Go.ChangeAt Go.RowKit
theorem ownK : ownKnob Tryz.prog.godebug = none := by kernel_rfl
theorem laidO : laidOutB Tryz.prog = true := by kernel_rfl
theorem laid_met (A : Os) (args : Array Value) : laidMetH Tryz.prog Rows.storeLockedRow.laid ((World.laidAll Tryz.prog A bch).forCall (fun _ _ => 0) ⟨#[], args, []⟩).memory := by
 rw [MakeChecks.laidMetH_plain _ _ _ (by kernel_rfl)]
 exact laidMet_laidAll (laid := bch) _ (by kernel_rfl) (by kernel_rfl)
theorem reads (A : Os) {H : Type} (enc : TypeId × Value → H) : ∃ places, DataW.whole enc Tryz.prog ((World.laidAll Tryz.prog A bch).forCall (fun _ _ => 0) ⟨#[], #[.agg #[.int .u64 0, .slice none 0 0, .slice none 0 0, .slice none 0 0], .agg #[.string ⟨#[]⟩, .int .u64 0]], []⟩).memory Tryz.f5.params.toList Rows.storeLockedSpec.vars false (#[.agg #[.int .u64 0, .slice none 0 0, .slice none 0 0, .slice none 0 0], .agg #[.string ⟨#[]⟩, .int .u64 0]] : Array Value).toList 8 = some ([.agg [.lit (.int .u64 0), .nil, .nil, .nil], .agg [.lit (.string []), .lit (.int .u64 0)]], [], places) :=
 ⟨[], by kernel_rfl⟩
theorem lifted (E : Os) (aa : E.Started) (ab : Type) (enc : TypeId × Value → ab) (ac : Stop.Interp) :
 ReturnsInHanded {} Tryz.checked E 5 .any ((OpenSpec.ofChange Rows.storeLockedSpec).preRow enc Tryz.prog Tryz.f5 Rows.storeLockedRow.domain false Rows.storeLockedRow.laid) (((OpenSpec.ofChange Rows.storeLockedSpec).at ac).post enc Tryz.prog Tryz.f5 false true false false) := by
 obtain ⟨places, D⟩ := reads E enc
 refine returnsInHanded_of_row (C := Tryz.checked) (s := OpenSpec.ofChange Rows.storeLockedSpec) ownK aa (by kernel_rfl) Tryz.func5
  (witness_row_at (enc := enc) (C := Tryz.checked) false (World.laidAll Tryz.prog E bch) #[.agg #[.int .u64 0, .slice none 0 0, .slice none 0 0, .slice none 0 0], .agg #[.string ⟨#[]⟩, .int .u64 0]] (World.laidAll_os _ _ _) (by kernel_rfl) (by kernel_rfl) (by kernel_rfl)
   (OpenSpec.preRow_of_cond 8 D (by kernel_rfl) (fun k hk => by cases hk) (by kernel_rfl) (laid_met E _))) ?_
 intro W base args ds gs ae N Y _ _ _ J _ _
 rw [MakeChecks.laidMetH_plain _ _ _ (by kernel_rfl)] at J
 have hT := ar6 J
 clear J
 have F : ∀ (j : Nat) t v, Tryz.f5.params[j]? = some t → args[j]? = some v → Value.okWide Tryz.prog W .any base t v := N
 have G := Y
 obtain ⟨p, q, U, hV, rfl, al, ai⟩ := Y
 have z : DataW.TrodAll enc Tryz.prog W 0 (fun _ => true) true Tryz.f5.params.toList args.toList ds p := U
 rw [Tryz.params5] at z F
 obtain ⟨M, ah, d0, ag, X, q0, af, rfl, rfl, h0, r0⟩ := trodAll_cons z
 obtain ⟨K, ak, d1, aj, Z, q1, rfl, rfl, rfl, h, r1⟩ := trodAll_cons r0
 obtain ⟨rfl, rfl, rfl⟩ := trodAll_nil r1
 obtain rfl : args = #[M, K] := by cases args; simp_all
 obtain ⟨rfl, rfl⟩ := trodVars_none hV
 have k0 := F 0 27 M rfl rfl
 have k1 := F 1 68 K rfl rfl
 clear U N F
 simp only [List.append_nil] at G
 have O : ∀ x ∈ X ++ Z, x.block < W.heap.size := fun x D => by simpa using G.lt x (by simpa using D)
 have g0 : ∀ A, Below W.heap.size W A → DataW.Trod enc Tryz.prog A 0 (fun b => decide (b < W.heap.size)) true 27 M d0 X := fun A I => Below.trod laidO (by kernel_rfl) (qt (by kernel_rfl)) h0 I (fun x D => O x (by simp [D]))
 have g1 : ∀ A, Below W.heap.size W A → DataW.Trod enc Tryz.prog A 0 (fun b => decide (b < W.heap.size)) true 68 K d1 Z := fun A I => Below.trod laidO (by kernel_rfl) (qt (by kernel_rfl)) h I (fun x D => O x (by simp [D]))
 obtain ⟨t0, rfl, R0⟩ := ar9 k0 h0
 obtain ⟨t1, rfl, w1⟩ := bgi k1 h
 refine (bfh W R0 w1 hT).mono fun e A ⟨he, H⟩ => ?_
 subst he
 exact ⟨_, rfl, _, _, _, [], _, [], G, trodAll_cons_mk (shut_bool Tryz.underlying4 _) trodAll_mk0, (trodAll_cons_mk (g0 _ H) (trodAll_cons_mk (g1 _ H) trodAll_mk0)), rfl, H.frame _, fun ad => by cases ad⟩
theorem said : Rows.StoreLockedSaid :=
 OpenClaim.holds_of_cond 5 Tryz.f5 rfl rfl rfl rfl rfl rfl rfl ⟨rfl, rfl, rfl, rfl, rfl⟩ rfl rfl rfl rfl rfl (by kernel_rfl) Tryz.func5 (by kernel_rfl)
  (qt (by kernel_rfl)) (by unfold Func.isWrapper; first | (rw [qw (by decide +kernel)]; kernel_rfl) | (rw [qk (by decide +kernel)]; exact ⟨rfl, rfl⟩))
  (fun D A H enc _ F => by rw [OpenClaim.pre_eq_preRow]; exact lifted D A H enc F)
theorem plainP (f : FuncId) (A : Func) (G : Tryz.pinned.checked.prog.funcNamed "posthouse/posthouselaw14.StoreLocked" = some f) (F : Tryz.pinned.checked.prog.funcs[f]? = some A) :
 true = Tryz.pinned.checked.prog.looks [] ∧ ∀ (j : Nat) t, A.params[j]? = some t → Tryz.pinned.checked.prog.wantsStandIn t = false := by
 obtain rfl : f = 5 := Option.some.inj ((show Tryz.prog.funcNamed "posthouse/posthouselaw14.StoreLocked" = some 5 by kernel_rfl).symm.trans G) |>.symm
 obtain rfl : A = Tryz.f5 := (Option.some.inj (Tryz.func5.symm.trans F)).symm
 refine ⟨by kernel_rfl, fun j t E => ?_⟩
 rw [Tryz.params5] at E
 have D := Array.mem_of_getElem? E
 simp only [List.mem_toArray, List.mem_cons, List.not_mem_nil, or_false] at D
 rcases D with rfl | rfl <;> exact (show Tryz.prog.wantsStandIn _ = false by kernel_rfl)
theorem card : Rows.StoreLockedCardSaid :=
 Claim7.holds_tied_plain_at .later [] _ _ _ _ said (fun _ h => by cases h) (by kernel_rfl) (fun _ h => by cases h) storeLocked_row_tie rfl ⟨rfl, rfl⟩ (by kernel_rfl) rfl plainP (by kernel_rfl)
end Go.Proofs.YtgnaifhmcllnlaaGreatDoor.holdStoreLocked
namespace Go.Proofs.YtgnaifhmcllnlaaGreatDoor
theorem storeLockedCard_holds : Rows.StoreLockedCardSaid := holdStoreLocked.card
#print axioms storeLockedCard_holds
end Go.Proofs.YtgnaifhmcllnlaaGreatDoor
