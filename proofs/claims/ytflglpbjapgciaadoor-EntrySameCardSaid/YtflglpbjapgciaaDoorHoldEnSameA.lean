/- The statement EntrySameCardSaid: whatever its arguments are, the law EntrySame returns true, and leaves its arguments as they were. Conditions: none beyond the statement's own. (Texts joined; the heads of the others stand below.) -/
import Derived.Test.YtflglpbjapgciaaDoorEX
import Derived.Test.YtflglpbjapgciaaDoorEL
import Derived.Test.YtflglpbjapgciaaDoorEO
import Derived.Test.YtflglpbjapgciaaDoorEU
import Derived.Test.YtflglpbjapgciaaDoorKA
import Derived.Test.YtflglpbjapgciaaDoorCards
import Derived.Test.YtflglpbjapgciaaDoorTie
import Derived.ProofKit
import Derived.OpenShut
import Derived.Deep.DeepHandedRow
import Derived.Lay
import Derived.SevenTiedAt

/- EntrySame: the law's walk. Conditions: utf8's tables are laid. Written by gen_enW.py. -/
namespace Go.Proofs.YtflglpbjapgciaaDoor
set_option linter.unusedSimpArgs false
set_option linter.unusedVariables false
open Go.RowKit
set_option maxRecDepth 100000 in
set_option maxHeartbeats 12800000 in
theorem entrySame_law (w : World) {pt : EnT} (ht : EnRd (fun i => i < w.heap.size) w pt) {pu : EnT} (hu : EnRd (fun i => i < w.heap.size) w pu) (hT : Tb w) : Calls Tryd.prog 4 #[pt.arg, pu.arg] w fun e w' => e = .returned (.bool true) ∧ Below w.heap.size w w' := by
  have hwt := Lib.hid ht.wf
  obtain ⟨kindt, namet, nt, xft, xgt, xbt, pat, pct, tat, tct, putst, takest, rfl, -⟩ := ht.open
  have hwt : Hid ((EnT.mk kindt namet nt (xft, xgt, xbt) (.slice pat putst.length pct) (.slice tat takest.length tct) putst takest).e.Wf) := hwt
  rw [EnT.arg_mk]
  obtain ⟨qt, hqt⟩ : ∃ q, (EnT.mk kindt namet nt (xft, xgt, xbt) (.slice pat putst.length pct) (.slice tat takest.length tct) putst takest).e = q := ⟨_, rfl⟩
  have hqwt := Lib.hid (show qt.Wf by rw [← hqt]; exact hwt.out)
  have hqth := Lib.hid hqt
  clear hqt hwt
  have hwu := Lib.hid hu.wf
  obtain ⟨kindu, nameu, nu, xfu, xgu, xbu, pau, pcu, tau, tcu, putsu, takesu, rfl, -⟩ := hu.open
  have hwu : Hid ((EnT.mk kindu nameu nu (xfu, xgu, xbu) (.slice pau putsu.length pcu) (.slice tau takesu.length tcu) putsu takesu).e.Wf) := hwu
  rw [EnT.arg_mk]
  obtain ⟨qu, hqu⟩ : ∃ q, (EnT.mk kindu nameu nu (xfu, xgu, xbu) (.slice pau putsu.length pcu) (.slice tau takesu.length tcu) putsu takesu).e = q := ⟨_, rfl⟩
  have hqwu := Lib.hid (show qu.Wf by rw [← hqu]; exact hwu.out)
  have hquh := Lib.hid hqu
  clear hqu hwu
  have hT0 : Below w.heap.size w ((w.alloc (.cells #[.int .u8 kindt, .string namet, .int .u64 nt, .int .u32 xft, .string xgt, .string xbt, .slice pat putst.length pct, .slice tat takest.length tct] 31)).alloc (.cells #[.int .u8 kindu, .string nameu, .int .u64 nu, .int .u32 xfu, .string xgu, .string xbu, .slice pau putsu.length pcu, .slice tau takesu.length tcu] 31)) := ((Below.refl _ _).alloc (Nat.le_refl _) _).alloc (by simp) _
  have Rt0 := ht.pure hT0
  have At0 := (Blk.new w [.int .u8 kindt, .string namet, .int .u64 nt, .int .u32 xft, .string xgt, .string xbt, .slice pat putst.length pct, .slice tat takest.length tct] 31).alloc (.cells #[.int .u8 kindu, .string nameu, .int .u64 nu, .int .u32 xfu, .string xgu, .string xbu, .slice pau putsu.length pcu, .slice tau takesu.length tcu] 31)
  have ta0 := At0.at 0 rfl; have ta1 := At0.at 1 rfl; have ta2 := At0.at 2 rfl; have ta3 := At0.at 3 rfl; have ta4 := At0.at 4 rfl; have ta5 := At0.at 5 rfl; have ta6 := At0.at 6 rfl; have ta7 := At0.at 7 rfl
  have Ru0 := hu.pure hT0
  have Au0 := Blk.newK (w.alloc (.cells #[.int .u8 kindt, .string namet, .int .u64 nt, .int .u32 xft, .string xgt, .string xbt, .slice pat putst.length pct, .slice tat takest.length tct] 31)) [.int .u8 kindu, .string nameu, .int .u64 nu, .int .u32 xfu, .string xgu, .string xbu, .slice pau putsu.length pcu, .slice tau takesu.length tcu] 31 (w.heap.size + 1) (by simp)
  have ua0 := Au0.at 0 rfl; have ua1 := Au0.at 1 rfl; have ua2 := Au0.at 2 rfl; have ua3 := Au0.at 3 rfl; have ua4 := Au0.at 4 rfl; have ua5 := Au0.at 5 rfl; have ua6 := Au0.at 6 rfl; have ua7 := Au0.at 7 rfl
  have zi := entry_info
  go_enter Tryd.func4, Tryd.ntmps4
  go_wp2_with fail
  have s1 := edsmall_any (EnT.mk kindt namet nt (xft, xgt, xbt) (.slice pat putst.length pct) (.slice tat takest.length tct) putst takest) _ _ Rt0
  rw [EnT.arg_mk] at s1
  refine s1.mono ?_
  rintro e w1 ⟨⟨sb, rfl, hsm⟩, hB1⟩
  have Rt1 := Rt0.pure hB1; have At1 := At0.pure hB1; have Ru1 := Ru0.pure hB1; have Au1 := Au0.pure hB1; have hT1 := hT0.trans (hB1.mono hT0.size)
  clear s1 ta0 ta1 ta2 ta3 ta4 ta5 ta6 ta7 ua0 ua1 ua2 ua3 ua4 ua5 ua6 ua7
  have ta0 := At1.at 0 rfl; have ta1 := At1.at 1 rfl; have ta2 := At1.at 2 rfl; have ta3 := At1.at 3 rfl; have ta4 := At1.at 4 rfl; have ta5 := At1.at 5 rfl; have ta6 := At1.at 6 rfl; have ta7 := At1.at 7 rfl
  have ua0 := Au1.at 0 rfl; have ua1 := Au1.at 1 rfl; have ua2 := Au1.at 2 rfl; have ua3 := Au1.at 3 rfl; have ua4 := Au1.at 4 rfl; have ua5 := Au1.at 5 rfl; have ua6 := Au1.at 6 rfl; have ua7 := Au1.at 7 rfl
  cases sb
  · clear hsm
    go_wp2_with (go_at_call 9; (with_reducible refine (head13_any _ (hT.pure hT1)).mono ?_); rintro e w9 ⟨rfl, hB9⟩; have hF := hT1.trans (hB9.mono hT1.size))
    go_ret
    exact ⟨rfl, hF⟩
  have hfitt := Lib.hid (hsm rfl)
  clear hsm
  go_wp2_with fail
  have s1 := edsmall_any (EnT.mk kindu nameu nu (xfu, xgu, xbu) (.slice pau putsu.length pcu) (.slice tau takesu.length tcu) putsu takesu) _ _ Ru1
  rw [EnT.arg_mk] at s1
  refine s1.mono ?_
  rintro e w2 ⟨⟨sb, rfl, hsm⟩, hB2⟩
  have Rt2 := Rt1.pure hB2; have At2 := At1.pure hB2; have Ru2 := Ru1.pure hB2; have Au2 := Au1.pure hB2; have hT2 := hT1.trans (hB2.mono hT1.size)
  clear s1 ta0 ta1 ta2 ta3 ta4 ta5 ta6 ta7 ua0 ua1 ua2 ua3 ua4 ua5 ua6 ua7
  have ta0 := At2.at 0 rfl; have ta1 := At2.at 1 rfl; have ta2 := At2.at 2 rfl; have ta3 := At2.at 3 rfl; have ta4 := At2.at 4 rfl; have ta5 := At2.at 5 rfl; have ta6 := At2.at 6 rfl; have ta7 := At2.at 7 rfl
  have ua0 := Au2.at 0 rfl; have ua1 := Au2.at 1 rfl; have ua2 := Au2.at 2 rfl; have ua3 := Au2.at 3 rfl; have ua4 := Au2.at 4 rfl; have ua5 := Au2.at 5 rfl; have ua6 := Au2.at 6 rfl; have ua7 := Au2.at 7 rfl
  cases sb
  · clear hsm
    go_wp2_with (go_at_call 9; (with_reducible refine (head13_any _ (hT.pure hT2)).mono ?_); rintro e w9 ⟨rfl, hB9⟩; have hF := hT2.trans (hB9.mono hT2.size))
    go_ret
    exact ⟨rfl, hF⟩
  have hfitu := Lib.hid (hsm rfl)
  clear hsm
  go_upto_region 3 with fail
  obtain ⟨b, hbq⟩ : ∃ b : Bool, b = true ↔ qt = qu := by
    rcases Classical.em (qt = qu) with h | h
    · exact ⟨true, ⟨fun _ => h, fun _ => rfl⟩⟩
    · exact ⟨false, ⟨fun e => absurd e (by decide), fun e => absurd e h⟩⟩
  have hbqh := Lib.hid hbq
  have hAt := Lib.hid (fun (u : World) (h : Below w2.heap.size w2 u) => At2.pure h)
  have hAu := Lib.hid (fun (u : World) (h : Below w2.heap.size w2 u) => Au2.pure h)
  clear hbq hfitu ta0 ta1 ta2 ta3 ta4 ta5 ta6 ta7 ua0 ua1 ua2 ua3 ua4 ua5 ua6 ua7
  have hb := below_refl_dr w2
  refine wp_region_held_drew (S := fun u => Below w2.heap.size w2 u) (by kernel_rfl) hb (fun hHeld => ?_)
  refine takeY 0 14 rfl rfl (v := ?_) ?_ hHeld ?_
  rotate_left 1
  · (intro u hSw; (try dsimp only at hSw); have q := hAt.out u hSw; have m0 := q.at 0 rfl; have m1 := q.at 1 rfl; have m2 := q.at 2 rfl; have m3 := q.at 3 rfl; have m4 := q.at 4 rfl; have m5 := q.at 5 rfl; have m6 := q.at 6 rfl; have m7 := q.at 7 rfl; clear hSw; go_simp; (try with_reducible rfl))
  try simp only [Act.put, lsT, lsZ, lsS]
  refine takeY 1 15 rfl rfl (v := ?_) ?_ hHeld ?_
  rotate_left 1
  · (intro u hSw; (try dsimp only at hSw); have q := hAu.out u hSw; have m0 := q.at 0 rfl; have m1 := q.at 1 rfl; have m2 := q.at 2 rfl; have m3 := q.at 3 rfl; have m4 := q.at 4 rfl; have m5 := q.at 5 rfl; have m6 := q.at 6 rfl; have m7 := q.at 7 rfl; clear hSw; go_simp; (try with_reducible rfl))
  try simp only [Act.put, lsT, lsZ, lsS]
  refine takeY 3 17 rfl rfl (v := ?_) ?_ hHeld ?_
  rotate_left 1
  · (intro u hSw; (try dsimp only at hSw); have q := hAt.out u hSw; have m0 := q.at 0 rfl; have m1 := q.at 1 rfl; have m2 := q.at 2 rfl; have m3 := q.at 3 rfl; have m4 := q.at 4 rfl; have m5 := q.at 5 rfl; have m6 := q.at 6 rfl; have m7 := q.at 7 rfl; clear hSw; go_simp; (try with_reducible rfl))
  try simp only [Act.put, lsT, lsZ, lsS]
  refine takeY 4 18 rfl rfl (v := ?_) ?_ hHeld ?_
  rotate_left 1
  · (intro u hSw; (try dsimp only at hSw); have q := hAu.out u hSw; have m0 := q.at 0 rfl; have m1 := q.at 1 rfl; have m2 := q.at 2 rfl; have m3 := q.at 3 rfl; have m4 := q.at 4 rfl; have m5 := q.at 5 rfl; have m6 := q.at 6 rfl; have m7 := q.at 7 rfl; clear hSw; go_simp; (try with_reducible rfl))
  try simp only [Act.put, lsT, lsZ, lsS]
  refine wpAnyH_ready (rs := [2]) (by kernel_rfl) (by simp) ?_
  refine AllReadyH.cons rfl (fun K hK => ?_) AllReadyH.nil
  go_simp
  go_at_call 11
  have hc := esame_any (EnT.mk kindt namet nt (xft, xgt, xbt) (.slice pat putst.length pct) (.slice tat takest.length tct) putst takest) (EnT.mk kindu nameu nu (xfu, xgu, xbu) (.slice pau putsu.length pcu) (.slice tau takesu.length tcu) putsu takesu) _ _ _ (Rt2.pure hb) (Ru2.pure hb)
  simp only [EnT.arg_mk] at hc
  refine (hc.mono (fun e w' h => says_dec h b (by rw [hqth.out, hquh.out]; exact hbqh.out))).mono ?_
  rintro e wn ⟨rfl, hBn⟩
  clear hc
  have hb := hb.trans (hBn.mono hb.size)
  refine hK.out _ _ hb (fun hHeld => ?_)
  clear hK K
  try simp only [Act.put, lsT, lsZ, lsS]
  refine wpAnyH_ready (rs := [5]) (by kernel_rfl) (by simp) ?_
  refine AllReadyH.cons rfl (fun K hK => ?_) AllReadyH.nil
  go_simp
  go_at_call 12
  have hc := edsame_any (EnT.mk kindt namet nt (xft, xgt, xbt) (.slice pat putst.length pct) (.slice tat takest.length tct) putst takest) (EnT.mk kindu nameu nu (xfu, xgu, xbu) (.slice pau putsu.length pcu) (.slice tau takesu.length tcu) putsu takesu) _ _ _ (Rt2.pure hb) (Ru2.pure hb)
  simp only [EnT.arg_mk] at hc
  refine (hc.mono (fun e w' h => says_dec h b (by rw [hqth.out, hquh.out]; exact hbqh.out))).mono ?_
  rintro e wn ⟨rfl, hBn⟩
  clear hc
  have hb := hb.trans (hBn.mono hb.size)
  refine hK.out _ _ hb (fun hHeld => ?_)
  clear hK K
  try simp only [Act.put, lsT, lsZ, lsS]
  refine takeY 6 20 rfl rfl (v := ?_) ?_ hHeld ?_
  rotate_left 1
  · (intro u hSw; (try dsimp only at hSw); clear hSw; go_simp; (try with_reducible rfl))
  try simp only [Act.put, lsT, lsZ, lsS]
  refine takeY 7 21 rfl rfl (v := ?_) ?_ hHeld ?_
  rotate_left 1
  · (intro u hSw; (try dsimp only at hSw); clear hSw; go_simp; (try with_reducible rfl))
  try simp only [Act.put, lsT, lsZ, lsS]
  refine takeY 8 22 rfl rfl (v := ?_) ?_ hHeld ?_
  rotate_left 1
  · (intro u hSw; (try dsimp only at hSw); have q := hAt.out u hSw; have m0 := q.at 0 rfl; have m1 := q.at 1 rfl; have m2 := q.at 2 rfl; have m3 := q.at 3 rfl; have m4 := q.at 4 rfl; have m5 := q.at 5 rfl; have m6 := q.at 6 rfl; have m7 := q.at 7 rfl; clear hSw; go_simp; (try with_reducible rfl))
  try simp only [Act.put, lsT, lsZ, lsS]
  refine takeY 9 23 rfl rfl (v := ?_) ?_ hHeld ?_
  rotate_left 1
  · (intro u hSw; (try dsimp only at hSw); have q := hAt.out u hSw; have m0 := q.at 0 rfl; have m1 := q.at 1 rfl; have m2 := q.at 2 rfl; have m3 := q.at 3 rfl; have m4 := q.at 4 rfl; have m5 := q.at 5 rfl; have m6 := q.at 6 rfl; have m7 := q.at 7 rfl; clear hSw; go_simp; (try with_reducible rfl))
  try simp only [Act.put, lsT, lsZ, lsS]
  refine wpAnyH_ready (rs := [10]) (by kernel_rfl) (by simp) ?_
  refine AllReadyH.cons rfl (fun K hK => ?_) AllReadyH.nil
  go_simp
  go_at_call 13
  have hc := edcopy_any (EnT.mk kindt namet nt (xft, xgt, xbt) (.slice pat putst.length pct) (.slice tat takest.length tct) putst takest) _ _ (Rt2.pure hb) hfitt.out
  rw [EnT.arg_mk] at hc
  refine hc.mono ?_
  rintro e wc ⟨ct, he, hcp, hcR, hBn⟩
  clear hc
  obtain ⟨kindc, namec, nc, xfc, xgc, xbc, pac, pcc, tac, tcc, putsc, takesc, rfl, -⟩ := hcR.open
  rw [EnT.arg_mk] at he
  subst he
  have hcq := Lib.hid (hcp.trans hqth.out); clear hcp
  have hb := hb.trans (hBn.mono hb.size)
  refine hK.out _ _ hb (fun hHeld => ?_)
  clear hK K
  try simp only [Act.put, lsT, lsZ, lsS]
  refine wpAnyH_ready (rs := [11]) (by kernel_rfl) (by simp) ?_
  refine AllReadyH.cons rfl (fun K hK => ?_) AllReadyH.nil
  go_simp
  go_at_call 11
  have hc := esame_any (EnT.mk kindt namet nt (xft, xgt, xbt) (.slice pat putst.length pct) (.slice tat takest.length tct) putst takest) (EnT.mk kindc namec nc (xfc, xgc, xbc) (.slice pac putsc.length pcc) (.slice tac takesc.length tcc) putsc takesc) _ _ _ (Rt2.pure hb) hcR
  simp only [EnT.arg_mk] at hc
  refine (hc.mono (fun e w' h => says_yes h (hqth.out.trans hcq.out.symm))).mono ?_
  rintro e wn ⟨rfl, hBn⟩
  clear hc
  have hb := hb.trans (hBn.mono hb.size)
  refine hK.out _ _ hb (fun hHeld => ?_)
  clear hK K
  try simp only [Act.put, lsT, lsZ, lsS]
  refine takeY 12 26 rfl rfl (v := ?_) ?_ hHeld ?_
  rotate_left 1
  · (intro u hSw; (try dsimp only at hSw); clear hSw; go_simp; (try with_reducible rfl))
  try simp only [Act.put, lsT, lsZ, lsS]
  refine takeY 13 27 rfl rfl (v := ?_) ?_ hHeld ?_
  rotate_left 1
  · (intro u hSw; (try dsimp only at hSw); clear hSw; go_simp; (try with_reducible rfl))
  try simp only [Act.put, lsT, lsZ, lsS]
  refine wpAnyH_ready (rs := [14]) (by kernel_rfl) (by simp) ?_
  refine AllReadyH.cons rfl (fun K hK => ?_) AllReadyH.nil
  go_simp
  go_at_call 9
  (with_reducible refine (head13_any _ (hT.pure (hT2.trans (hb.mono hT2.size)))).mono ?_)
  rintro e wn ⟨rfl, hBn⟩
  have hb := hb.trans (hBn.mono hb.size)
  refine hK.out _ _ hb (fun hHeld => ?_)
  clear hK K
  try simp only [Act.put, lsT, lsZ, lsS]
  refine takeY 15 29 rfl rfl (v := ?_) ?_ hHeld ?_
  rotate_left 1
  · (intro u hSw; (try dsimp only at hSw); clear hSw; go_simp; (try with_reducible rfl))
  try simp only [Act.put, lsT, lsZ, lsS]
  refine wpAnyH_ready (rs := [16]) (by kernel_rfl) (by simp) ?_
  refine AllReadyH.cons rfl (fun K hK => ?_) AllReadyH.nil
  go_simp
  refine hK.out _ _ hb (fun hHeld => ?_)
  clear hK K
  try simp only [Act.put, lsT, lsZ, lsS]
  refine wpAnyH_done (by kernel_rfl) ?_ _
  go_wp2
  go_ret
  exact ⟨rfl, hT2.trans (hb.mono hT2.size)⟩
end Go.Proofs.YtflglpbjapgciaaDoor

/- The statement EntrySameCardSaid: whatever its arguments are, the law EntrySame returns true, and leaves its arguments as they were. Conditions: none beyond the statement's own. -/
namespace Go.Proofs.YtflglpbjapgciaaDoor.holdEntrySame
open Go.ChangeShapes Go.WideShapes Go.ChangeAt Go.RowKit
set_option maxRecDepth 100000

theorem ownK : ownKnob Tryd.prog.godebug = none := by kernel_rfl
theorem laidO : laidOutB Tryd.prog = true := by kernel_rfl

theorem laid_met (os : Os) (args : Array Value) : laidMetH Tryd.prog Rows.entrySameRow.laid ((World.laidAll Tryd.prog os LAID).forCall (fun _ _ => 0) ⟨#[], args, []⟩).memory := by
  rw [MakeChecks.laidMetH_plain _ _ _ (by kernel_rfl)]
  exact laidMet_laidAll (laid := LAID) _ (by kernel_rfl) (by kernel_rfl)
theorem reads (os : Os) {H : Type} (enc : TypeId × Value → H) : ∃ places, DataW.whole enc Tryd.prog ((World.laidAll Tryd.prog os LAID).forCall (fun _ _ => 0) ⟨#[], #[.agg #[.int .u8 0, .string ⟨#[]⟩, .int .u64 0, .int .u32 0, .string ⟨#[]⟩, .string ⟨#[]⟩, .slice none 0 0, .slice none 0 0], .agg #[.int .u8 0, .string ⟨#[]⟩, .int .u64 0, .int .u32 0, .string ⟨#[]⟩, .string ⟨#[]⟩, .slice none 0 0, .slice none 0 0]], []⟩).memory Tryd.f4.params.toList Rows.entrySameSpec.vars false (#[.agg #[.int .u8 0, .string ⟨#[]⟩, .int .u64 0, .int .u32 0, .string ⟨#[]⟩, .string ⟨#[]⟩, .slice none 0 0, .slice none 0 0], .agg #[.int .u8 0, .string ⟨#[]⟩, .int .u64 0, .int .u32 0, .string ⟨#[]⟩, .string ⟨#[]⟩, .slice none 0 0, .slice none 0 0]] : Array Value).toList 8 = some ([.agg [.lit (.int .u8 0), .lit (.string []), .lit (.int .u64 0), .agg [.lit (.int .u32 0), .lit (.string []), .lit (.string [])], .nil, .nil], .agg [.lit (.int .u8 0), .lit (.string []), .lit (.int .u64 0), .agg [.lit (.int .u32 0), .lit (.string []), .lit (.string [])], .nil, .nil]], [], places) :=
  ⟨[], by kernel_rfl⟩
set_option maxHeartbeats 1000000 in
theorem lifted (os : Os) (started : os.Started) (H : Type) (enc : TypeId × Value → H) (F : Stop.Interp) :
    ReturnsInHanded {} Tryd.checked os 4 .any ((OpenSpec.ofChange Rows.entrySameSpec).preRow enc Tryd.prog Tryd.f4 Rows.entrySameRow.domain false Rows.entrySameRow.laid) (((OpenSpec.ofChange Rows.entrySameSpec).at F).post enc Tryd.prog Tryd.f4 false true false false) := by
  obtain ⟨places, hx⟩ := reads os enc
  refine returnsInHanded_of_row (C := Tryd.checked) (s := OpenSpec.ofChange Rows.entrySameSpec) ownK started (by kernel_rfl) Tryd.func4
    (witness_row_at (enc := enc) (C := Tryd.checked) false (World.laidAll Tryd.prog os LAID) #[.agg #[.int .u8 0, .string ⟨#[]⟩, .int .u64 0, .int .u32 0, .string ⟨#[]⟩, .string ⟨#[]⟩, .slice none 0 0, .slice none 0 0], .agg #[.int .u8 0, .string ⟨#[]⟩, .int .u64 0, .int .u32 0, .string ⟨#[]⟩, .string ⟨#[]⟩, .slice none 0 0, .slice none 0 0]] (World.laidAll_os _ _ _) (by kernel_rfl) (by kernel_rfl) (by kernel_rfl)
      (OpenSpec.preRow_of_cond 8 hx (by kernel_rfl) (fun k hk => by cases hk) (by kernel_rfl) (laid_met os _))) ?_
  intro W base args ds gs before hval0 hW _ _ _ hL _ _
  rw [MakeChecks.laidMetH_plain _ _ _ (by kernel_rfl)] at hL
  have hT := tb_of_laid hL
  clear hL
  have hval : ∀ (j : Nat) t v, Tryd.f4.params[j]? = some t → args[j]? = some v → Value.okWide Tryd.prog W .any base t v := hval0
  have hW' := hW
  obtain ⟨p, q, hA0, hV, rfl, hfz, hnd⟩ := hW
  have hA : DataW.TrodAll enc Tryd.prog W 0 (fun _ => true) true Tryd.f4.params.toList args.toList ds p := hA0
  rw [Tryd.params4] at hA hval
  obtain ⟨v0, vs0, d0, ds0, p0, q0, hargs, rfl, rfl, h0, r0⟩ := trodAll_cons hA
  obtain ⟨v1, vs1, d1, ds1, p1, q1, rfl, rfl, rfl, h1, r1⟩ := trodAll_cons r0
  obtain ⟨rfl, rfl, rfl⟩ := trodAll_nil r1
  obtain rfl : args = #[v0, v1] := by cases args; simp_all
  obtain ⟨rfl, rfl⟩ := trodVars_none hV
  have k0 := hval 0 31 v0 rfl rfl
  have k1 := hval 1 31 v1 rfl rfl
  clear hA0 hval0 hval
  simp only [List.append_nil] at hW'
  have hlt : ∀ x ∈ p0 ++ p1, x.block < W.heap.size := fun x hx => by simpa using hW'.lt x (by simpa using hx)
  have g0 : ∀ W', Below W.heap.size W W' → DataW.Trod enc Tryd.prog W' 0 (fun b => decide (b < W.heap.size)) true 31 v0 d0 p0 := fun W' hn => Below.trod laidO (by kernel_rfl) (of_decide_eq_true (by kernel_rfl)) h0 hn (fun x hx => hlt x (by simp [hx]))
  have g1 : ∀ W', Below W.heap.size W W' → DataW.Trod enc Tryd.prog W' 0 (fun b => decide (b < W.heap.size)) true 31 v1 d1 p1 := fun W' hn => Below.trod laidO (by kernel_rfl) (of_decide_eq_true (by kernel_rfl)) h1 hn (fun x hx => hlt x (by simp [hx]))
  obtain ⟨t0, rfl, R0⟩ := open_entry k0 h0
  obtain ⟨t1, rfl, R1⟩ := open_entry k1 h1
  refine (entrySame_law W R0 R1 hT).mono fun e W' ⟨he, hb⟩ => ?_
  subst he
  exact ⟨_, rfl, _, _, _, [], _, [], hW', trodAll_cons_mk (shut_bool Tryd.underlying4 _) trodAll_mk0, (trodAll_cons_mk (g0 _ hb) (trodAll_cons_mk (g1 _ hb) trodAll_mk0)), rfl, hb.frame _, fun h => by cases h⟩

theorem said : Rows.EntrySameSaid :=
  OpenClaim.holds_of_cond 4 Tryd.f4 rfl rfl rfl rfl rfl rfl rfl ⟨rfl, rfl, rfl, rfl, rfl⟩ rfl rfl rfl rfl rfl (by kernel_rfl) Tryd.func4 (by kernel_rfl)
    (of_decide_eq_true (by kernel_rfl)) (by unfold Func.isWrapper; first | (rw [if_pos (by decide +kernel)]; kernel_rfl) | (rw [if_neg (by decide +kernel)]; exact ⟨rfl, rfl⟩))
    (fun os started H enc _ F => by rw [OpenClaim.pre_eq_preRow]; exact lifted os started H enc F)
theorem plainP (f : FuncId) (fn : Func) (hf : Tryd.pinned.checked.prog.funcNamed "posthouse/posthouselaw13.EntrySame" = some f) (hfn : Tryd.pinned.checked.prog.funcs[f]? = some fn) :
    true = Tryd.pinned.checked.prog.looks [] ∧ ∀ (j : Nat) t, fn.params[j]? = some t → Tryd.pinned.checked.prog.wantsStandIn t = false := by
  obtain rfl : f = 4 := Option.some.inj ((show Tryd.prog.funcNamed "posthouse/posthouselaw13.EntrySame" = some 4 by kernel_rfl).symm.trans hf) |>.symm
  obtain rfl : fn = Tryd.f4 := (Option.some.inj (Tryd.func4.symm.trans hfn)).symm
  refine ⟨by kernel_rfl, fun j t ht => ?_⟩
  rw [Tryd.params4] at ht
  have hm := Array.mem_of_getElem? ht
  simp only [List.mem_toArray, List.mem_cons, List.not_mem_nil, or_false] at hm
  rcases hm with rfl | rfl <;> exact (show Tryd.prog.wantsStandIn _ = false by kernel_rfl)
/-- The card. -/
theorem card : Rows.EntrySameCardSaid :=
  Claim7.holds_tied_plain_at .later [] _ _ _ _ said (fun _ h => by cases h) (by kernel_rfl) (fun _ h => by cases h) entrySame_row_tie rfl ⟨rfl, rfl⟩ (by kernel_rfl) rfl plainP (by kernel_rfl)
end Go.Proofs.YtflglpbjapgciaaDoor.holdEntrySame
namespace Go.Proofs.YtflglpbjapgciaaDoor
set_option linter.unusedSimpArgs false
set_option linter.unusedVariables false
theorem entrySameCard_holds : Rows.EntrySameCardSaid := holdEntrySame.card
#print axioms entrySameCard_holds
end Go.Proofs.YtflglpbjapgciaaDoor
