/- The statement EntryBackCardSaid: whatever its arguments are, the law EntryBack returns true, and leaves its arguments as they were. Conditions: none beyond the statement's own. (Texts joined; the heads of the others stand below.) -/
import Derived.Test.YtflglpbjapgciaaDoorEX
import Derived.Test.YtflglpbjapgciaaDoorEL
import Derived.Test.YtflglpbjapgciaaDoorER
import Derived.Test.YtflglpbjapgciaaDoorCards
import Derived.Test.YtflglpbjapgciaaDoorTie
import Derived.ProofKit
import Derived.OpenShut
import Derived.Deep.DeepHandedRow
import Derived.Lay
import Derived.SevenTiedAt
import Derived.ChangeMaps5

/- EntryBack: the law's walk. Conditions: utf8's tables are laid. Written by gen_enW.py. -/
namespace Go.Proofs.YtflglpbjapgciaaDoor
set_option linter.unusedSimpArgs false
set_option linter.unusedVariables false
open Go.RowKit
set_option maxRecDepth 100000 in
set_option maxHeartbeats 12800000 in
theorem entryBack_law (w : World) {pt : EnT} (ht : EnRd (fun i => i < w.heap.size) w pt) (s : ByteArray) (hT : Tb w) : Calls Tryd.prog 5 #[pt.arg, .string s] w fun e w' => e = .returned (.bool true) ∧ Below w.heap.size w w' := by
  have hwt := Lib.hid ht.wf
  obtain ⟨kindt, namet, nt, xft, xgt, xbt, pat, pct, tat, tct, putst, takest, rfl, -⟩ := ht.open
  have hwt : Hid ((EnT.mk kindt namet nt (xft, xgt, xbt) (.slice pat putst.length pct) (.slice tat takest.length tct) putst takest).e.Wf) := hwt
  rw [EnT.arg_mk]
  obtain ⟨qt, hqt⟩ : ∃ q, (EnT.mk kindt namet nt (xft, xgt, xbt) (.slice pat putst.length pct) (.slice tat takest.length tct) putst takest).e = q := ⟨_, rfl⟩
  have hqwt := Lib.hid (show qt.Wf by rw [← hqt]; exact hwt.out)
  have hqth := Lib.hid hqt
  clear hqt hwt
  have hT0 : Below w.heap.size w (w.alloc (.cells #[.int .u8 kindt, .string namet, .int .u64 nt, .int .u32 xft, .string xgt, .string xbt, .slice pat putst.length pct, .slice tat takest.length tct] 31)) := (Below.refl _ _).alloc (Nat.le_refl _) _
  have Rt0 := ht.pure hT0
  have At0 := Blk.new w [.int .u8 kindt, .string namet, .int .u64 nt, .int .u32 xft, .string xgt, .string xbt, .slice pat putst.length pct, .slice tat takest.length tct] 31
  have ta0 := At0.at 0 rfl; have ta1 := At0.at 1 rfl; have ta2 := At0.at 2 rfl; have ta3 := At0.at 3 rfl; have ta4 := At0.at 4 rfl; have ta5 := At0.at 5 rfl; have ta6 := At0.at 6 rfl; have ta7 := At0.at 7 rfl
  have zi := entry_info
  go_enter Tryd.func5, Tryd.ntmps5
  go_wp2_with fail
  have s1 := edsmall_any (EnT.mk kindt namet nt (xft, xgt, xbt) (.slice pat putst.length pct) (.slice tat takest.length tct) putst takest) _ _ Rt0
  rw [EnT.arg_mk] at s1
  refine s1.mono ?_
  rintro e w1 ⟨⟨sb, rfl, hsm⟩, hB1⟩
  have Rt1 := Rt0.pure hB1; have At1 := At0.pure hB1; have hT1 := hT0.trans (hB1.mono hT0.size)
  clear s1 ta0 ta1 ta2 ta3 ta4 ta5 ta6 ta7
  have ta0 := At1.at 0 rfl; have ta1 := At1.at 1 rfl; have ta2 := At1.at 2 rfl; have ta3 := At1.at 3 rfl; have ta4 := At1.at 4 rfl; have ta5 := At1.at 5 rfl; have ta6 := At1.at 6 rfl; have ta7 := At1.at 7 rfl
  cases sb
  · clear hsm
    go_wp2_with (go_at_call 9; (with_reducible refine (head13_any _ (hT.pure hT1)).mono ?_); rintro e w9 ⟨rfl, hB9⟩; have hF := hT1.trans (hB9.mono hT1.size))
    go_ret
    exact ⟨rfl, hF⟩
  have hfitt := Lib.hid (hsm rfl)
  clear hsm
  by_cases h0 : 30000 < s.size
  · have h1 : decide ((30000 : Int) < (s.size : Int)) = true := decide_eq_true (by omega)
    have h2 : (30000 : Int) < (s.size : Int) := by omega
    clear h0
    go_wp2_with (go_at_call 9; (with_reducible refine (head13_any _ (hT.pure hT1)).mono ?_); rintro e w9 ⟨rfl, hB9⟩; have hF := hT1.trans (hB9.mono hT1.size))
    go_ret
    exact ⟨rfl, hF⟩
  have h1 : decide ((30000 : Int) < (s.size : Int)) = false := decide_eq_false (by omega)
  have h2 : ¬ (30000 : Int) < (s.size : Int) := by omega
  obtain ⟨oo, hoo⟩ : ∃ oo, egO s.data.toList = oo := ⟨_, rfl⟩
  have g1 := Lib.hid (fun (u : World) (hu : Tb u) => show Calls Tryd.prog 15 #[.string s] u (GotE u oo) by have h := eget_any u s (by omega) hu; rw [hoo] at h; exact h)
  have hooh := Lib.hid hoo
  clear h0 hoo
  obtain ⟨ct, hct⟩ : ∃ c, qt.chk = c := ⟨_, rfl⟩
  obtain ⟨st, hst⟩ : ∃ s, (if qt.chk = 0 then qt.text else (⟨#[]⟩ : ByteArray)) = s := ⟨_, rfl⟩
  have pPt := Lib.hid (fun (P : Nat → Prop) (u : World) (t : EnT) (ht : t.e = qt) (hR : EnRd P u t) (hT : Tb u) => show Calls Tryd.prog 14 #[t.arg] u (fun e w' => e = .returned (.tuple #[.string st, .int .i64 ct]) ∧ Below u.heap.size u w') by
    have h := eput_any t P u hR hT
    rw [ht, hst, hct] at h; exact h)
  have hcth := Lib.hid hct; have hsth := Lib.hid hst
  clear hct hst hfitt
  go_upto_region 4 with (go_at_call 14; refine (pPt.out _ _ (EnT.mk kindt namet nt (xft, xgt, xbt) (.slice pat putst.length pct) (.slice tat takest.length tct) putst takest) hqth.out Rt1 (hT.pure hT1)).mono ?_; rintro e w2 ⟨rfl, hB2⟩; have Rt2 := Rt1.pure hB2; have At2 := At1.pure hB2; have hT2 := hT1.trans (hB2.mono hT1.size); have tb0 := At2.at 0 rfl; have tb1 := At2.at 1 rfl; have tb2 := At2.at 2 rfl; have tb3 := At2.at 3 rfl; have tb4 := At2.at 4 rfl; have tb5 := At2.at 5 rfl; have tb6 := At2.at 6 rfl; have tb7 := At2.at 7 rfl)
  clear ta0 ta1 ta2 ta3 ta4 ta5 ta6 ta7
  by_cases ht0 : ct = 0
  rotate_left 1
  · have b1 : (ct != 0) = true := bne_iff_ne.2 ht0
    have b2 : (ct == 0) = false := beq_eq_false_iff_ne.2 ht0
    clear ht0
    go_upto_region 8 with fail
    rcases oo with _ | p2
    · have hE := Lib.hid (show enE none = 130 from rfl)
      go_wp2_with (first | (go_at_call 15; (with_reducible refine (g1.out _ (hT.pure hT2)).mono ?_); rintro e w10 hg; obtain ⟨kindx, namex, nx, xfx, xgx, xbx, pax, pcx, tax, tcx, putsx, takesx, he, hpx, hRx, hB10⟩ := gotE_open hg; clear hg; rw [hE.out] at he; subst he; have hpxh := Lib.hid hpx; clear hpx; have hT10 := hT2.trans (hB10.mono hT2.size); have hD11 := ((Below.refl w10.heap.size w10).alloc (Nat.le_refl _) (.cells #[.int .u8 kindx, .string namex, .int .u64 nx, .int .u32 xfx, .string xgx, .string xbx, .slice pax putsx.length pcx, .slice tax takesx.length tcx] 31)); have hT11 := hT10.trans (hD11.mono hT10.size); have Rx11 := hRx.pure hD11; have Ax11 := Blk.new w10 [.int .u8 kindx, .string namex, .int .u64 nx, .int .u32 xfx, .string xgx, .string xbx, .slice pax putsx.length pcx, .slice tax takesx.length tcx] 31; have xa0 := Ax11.at 0 rfl; have xa1 := Ax11.at 1 rfl; have xa2 := Ax11.at 2 rfl; have xa3 := Ax11.at 3 rfl; have xa4 := Ax11.at 4 rfl; have xa5 := Ax11.at 5 rfl; have xa6 := Ax11.at 6 rfl; have xa7 := Ax11.at 7 rfl) | (go_at_call 11; have hsz := esame_any (EnT.mk kindx namex nx (xfx, xgx, xbx) (.slice pax putsx.length pcx) (.slice tax takesx.length tcx) putsx takesx) (EnT.mk 0 ⟨#[]⟩ 0 (0, ⟨#[]⟩, ⟨#[]⟩) (.slice none 0 0) (.slice none 0 0) [] []) _ (fun _ => True) _ Rx11 zen_rd; simp only [EnT.arg_mk] at hsz; refine (hsz.mono (fun e w' h => says_yes h hpxh.out)).mono ?_; rintro e w12 ⟨rfl, hB12⟩; clear hsz; have hT12 := hT11.trans (hB12.mono hT11.size)) | (go_at_call 9; (with_reducible refine (head13_any _ (hT.pure hT12)).mono ?_); rintro e w9 ⟨rfl, hB9⟩; have hF := hT12.trans (hB9.mono hT12.size)))
      go_ret
      exact ⟨rfl, hF⟩
    · have hE := Lib.hid (show enE (some p2) = 0 from rfl)
      have hg2 := egO_got s.data.toList
      rw [hooh.out] at hg2
      have hg2h := Lib.hid (show p2.Wf ∧ p2.chk = 0 ∧ p2.bytes = s.data.toList from hg2)
      have pP2 := Lib.hid (fun (P : Nat → Prop) (u : World) (t : EnT) (ht : t.e = p2) (hR : EnRd P u t) (hT : Tb u) => show Calls Tryd.prog 14 #[t.arg] u (fun e w' => e = .returned (.tuple #[.string s, .int .i64 0]) ∧ Below u.heap.size u w') by
        have h := eput_any t P u hR hT
        rw [ht, hg2h.out.2.1, if_pos rfl, en_text.2 hg2h.out.2.2] at h; exact h)
      clear hg2
      go_wp2_with (first | (go_at_call 15; (with_reducible refine (g1.out _ (hT.pure hT2)).mono ?_); rintro e w10 hg; obtain ⟨kindx, namex, nx, xfx, xgx, xbx, pax, pcx, tax, tcx, putsx, takesx, he, hpx, hRx, hB10⟩ := gotE_open hg; clear hg; rw [hE.out] at he; subst he; have hpxh := Lib.hid hpx; clear hpx; have hT10 := hT2.trans (hB10.mono hT2.size); have hD11 := ((Below.refl w10.heap.size w10).alloc (Nat.le_refl _) (.cells #[.int .u8 kindx, .string namex, .int .u64 nx, .int .u32 xfx, .string xgx, .string xbx, .slice pax putsx.length pcx, .slice tax takesx.length tcx] 31)); have hT11 := hT10.trans (hD11.mono hT10.size); have Rx11 := hRx.pure hD11; have Ax11 := Blk.new w10 [.int .u8 kindx, .string namex, .int .u64 nx, .int .u32 xfx, .string xgx, .string xbx, .slice pax putsx.length pcx, .slice tax takesx.length tcx] 31; have xa0 := Ax11.at 0 rfl; have xa1 := Ax11.at 1 rfl; have xa2 := Ax11.at 2 rfl; have xa3 := Ax11.at 3 rfl; have xa4 := Ax11.at 4 rfl; have xa5 := Ax11.at 5 rfl; have xa6 := Ax11.at 6 rfl; have xa7 := Ax11.at 7 rfl) | (go_at_call 14; refine (pP2.out _ _ (EnT.mk kindx namex nx (xfx, xgx, xbx) (.slice pax putsx.length pcx) (.slice tax takesx.length tcx) putsx takesx) hpxh.out Rx11 (hT.pure hT11)).mono ?_; rintro e w12 ⟨rfl, hB12⟩; have hT12 := hT11.trans (hB12.mono hT11.size)) | (go_at_call 9; (with_reducible refine (head13_any _ (hT.pure hT12)).mono ?_); rintro e w9 ⟨rfl, hB9⟩; have hF := hT12.trans (hB9.mono hT12.size)))
      go_ret
      exact ⟨rfl, hF⟩
  subst ht0
  have ett : qt.text = st := by have h := hsth.out; rw [if_pos hcth.out] at h; exact h
  have g3 := Lib.hid (fun (u : World) (hu : Tb u) => show Calls Tryd.prog 15 #[.string st] u (GotE u (some qt)) by
    have h := eget_any u st (by rw [← ett, ← ba_len, ← en_text.1 rfl]; have := en_len hcth.out; omega) hu
    rw [← en_text.1 ett, egO_bytes hqwt.out hcth.out] at h
    exact h)
  clear ett
  go_upto_region 8 with (first | (go_at_call 15; (with_reducible refine (g3.out _ (hT.pure hT2)).mono ?_); rintro e w3 hg; obtain ⟨kindu, nameu, nu, xfu, xgu, xbu, pau, pcu, tau, tcu, putsu, takesu, he, hpu, hRu, hB3⟩ := gotE_open hg; clear hg; rw [show enE (some qt) = 0 from rfl] at he; subst he; have hpuh := Lib.hid (show _ = qt from hpu); clear hpu; have Rt3 := Rt2.pure hB3; have At3 := At2.pure hB3; have hT3 := hT2.trans (hB3.mono hT2.size); have hD4 := ((Below.refl w3.heap.size w3).alloc (Nat.le_refl _) (.cells #[.int .u8 kindu, .string nameu, .int .u64 nu, .int .u32 xfu, .string xgu, .string xbu, .slice pau putsu.length pcu, .slice tau takesu.length tcu] 31)); have Rt4 := Rt3.pure hD4; have At4 := At3.pure hD4; have hT4 := hT3.trans (hD4.mono hT3.size); have Ru4 := hRu.pure hD4; have Au4 := Blk.new w3 [.int .u8 kindu, .string nameu, .int .u64 nu, .int .u32 xfu, .string xgu, .string xbu, .slice pau putsu.length pcu, .slice tau takesu.length tcu] 31; have ub0 := Au4.at 0 rfl; have ub1 := Au4.at 1 rfl; have ub2 := Au4.at 2 rfl; have ub3 := Au4.at 3 rfl; have ub4 := Au4.at 4 rfl; have ub5 := Au4.at 5 rfl; have ub6 := Au4.at 6 rfl; have ub7 := Au4.at 7 rfl; have tc0 := At4.at 0 rfl; have tc1 := At4.at 1 rfl; have tc2 := At4.at 2 rfl; have tc3 := At4.at 3 rfl; have tc4 := At4.at 4 rfl; have tc5 := At4.at 5 rfl; have tc6 := At4.at 6 rfl; have tc7 := At4.at 7 rfl) | (go_at_call 11; have hsz := esame_any (EnT.mk kindu nameu nu (xfu, xgu, xbu) (.slice pau putsu.length pcu) (.slice tau takesu.length tcu) putsu takesu) (EnT.mk kindt namet nt (xft, xgt, xbt) (.slice pat putst.length pct) (.slice tat takest.length tct) putst takest) _ _ _ Ru4 Rt4; simp only [EnT.arg_mk] at hsz; refine (hsz.mono (fun e w' h => says_yes h (hpuh.out.trans hqth.out.symm))).mono ?_; rintro e w5 ⟨rfl, hB5⟩; clear hsz; have hT5 := hT4.trans (hB5.mono hT4.size)))
  clear tb0 tb1 tb2 tb3 tb4 tb5 tb6 tb7 tc0 tc1 tc2 tc3 tc4 tc5 tc6 tc7 ub0 ub1 ub2 ub3 ub4 ub5 ub6 ub7
  rcases oo with _ | p2
  · have hE := Lib.hid (show enE none = 130 from rfl)
    go_wp2_with (first | (go_at_call 15; (with_reducible refine (g1.out _ (hT.pure hT5)).mono ?_); rintro e w10 hg; obtain ⟨kindx, namex, nx, xfx, xgx, xbx, pax, pcx, tax, tcx, putsx, takesx, he, hpx, hRx, hB10⟩ := gotE_open hg; clear hg; rw [hE.out] at he; subst he; have hpxh := Lib.hid hpx; clear hpx; have hT10 := hT5.trans (hB10.mono hT5.size); have hD11 := ((Below.refl w10.heap.size w10).alloc (Nat.le_refl _) (.cells #[.int .u8 kindx, .string namex, .int .u64 nx, .int .u32 xfx, .string xgx, .string xbx, .slice pax putsx.length pcx, .slice tax takesx.length tcx] 31)); have hT11 := hT10.trans (hD11.mono hT10.size); have Rx11 := hRx.pure hD11; have Ax11 := Blk.new w10 [.int .u8 kindx, .string namex, .int .u64 nx, .int .u32 xfx, .string xgx, .string xbx, .slice pax putsx.length pcx, .slice tax takesx.length tcx] 31; have xa0 := Ax11.at 0 rfl; have xa1 := Ax11.at 1 rfl; have xa2 := Ax11.at 2 rfl; have xa3 := Ax11.at 3 rfl; have xa4 := Ax11.at 4 rfl; have xa5 := Ax11.at 5 rfl; have xa6 := Ax11.at 6 rfl; have xa7 := Ax11.at 7 rfl) | (go_at_call 11; have hsz := esame_any (EnT.mk kindx namex nx (xfx, xgx, xbx) (.slice pax putsx.length pcx) (.slice tax takesx.length tcx) putsx takesx) (EnT.mk 0 ⟨#[]⟩ 0 (0, ⟨#[]⟩, ⟨#[]⟩) (.slice none 0 0) (.slice none 0 0) [] []) _ (fun _ => True) _ Rx11 zen_rd; simp only [EnT.arg_mk] at hsz; refine (hsz.mono (fun e w' h => says_yes h hpxh.out)).mono ?_; rintro e w12 ⟨rfl, hB12⟩; clear hsz; have hT12 := hT11.trans (hB12.mono hT11.size)) | (go_at_call 9; (with_reducible refine (head13_any _ (hT.pure hT12)).mono ?_); rintro e w9 ⟨rfl, hB9⟩; have hF := hT12.trans (hB9.mono hT12.size)))
    go_ret
    exact ⟨rfl, hF⟩
  · have hE := Lib.hid (show enE (some p2) = 0 from rfl)
    have hg2 := egO_got s.data.toList
    rw [hooh.out] at hg2
    have hg2h := Lib.hid (show p2.Wf ∧ p2.chk = 0 ∧ p2.bytes = s.data.toList from hg2)
    have pP2 := Lib.hid (fun (P : Nat → Prop) (u : World) (t : EnT) (ht : t.e = p2) (hR : EnRd P u t) (hT : Tb u) => show Calls Tryd.prog 14 #[t.arg] u (fun e w' => e = .returned (.tuple #[.string s, .int .i64 0]) ∧ Below u.heap.size u w') by
      have h := eput_any t P u hR hT
      rw [ht, hg2h.out.2.1, if_pos rfl, en_text.2 hg2h.out.2.2] at h; exact h)
    clear hg2
    go_wp2_with (first | (go_at_call 15; (with_reducible refine (g1.out _ (hT.pure hT5)).mono ?_); rintro e w10 hg; obtain ⟨kindx, namex, nx, xfx, xgx, xbx, pax, pcx, tax, tcx, putsx, takesx, he, hpx, hRx, hB10⟩ := gotE_open hg; clear hg; rw [hE.out] at he; subst he; have hpxh := Lib.hid hpx; clear hpx; have hT10 := hT5.trans (hB10.mono hT5.size); have hD11 := ((Below.refl w10.heap.size w10).alloc (Nat.le_refl _) (.cells #[.int .u8 kindx, .string namex, .int .u64 nx, .int .u32 xfx, .string xgx, .string xbx, .slice pax putsx.length pcx, .slice tax takesx.length tcx] 31)); have hT11 := hT10.trans (hD11.mono hT10.size); have Rx11 := hRx.pure hD11; have Ax11 := Blk.new w10 [.int .u8 kindx, .string namex, .int .u64 nx, .int .u32 xfx, .string xgx, .string xbx, .slice pax putsx.length pcx, .slice tax takesx.length tcx] 31; have xa0 := Ax11.at 0 rfl; have xa1 := Ax11.at 1 rfl; have xa2 := Ax11.at 2 rfl; have xa3 := Ax11.at 3 rfl; have xa4 := Ax11.at 4 rfl; have xa5 := Ax11.at 5 rfl; have xa6 := Ax11.at 6 rfl; have xa7 := Ax11.at 7 rfl) | (go_at_call 14; refine (pP2.out _ _ (EnT.mk kindx namex nx (xfx, xgx, xbx) (.slice pax putsx.length pcx) (.slice tax takesx.length tcx) putsx takesx) hpxh.out Rx11 (hT.pure hT11)).mono ?_; rintro e w12 ⟨rfl, hB12⟩; have hT12 := hT11.trans (hB12.mono hT11.size)) | (go_at_call 9; (with_reducible refine (head13_any _ (hT.pure hT12)).mono ?_); rintro e w9 ⟨rfl, hB9⟩; have hF := hT12.trans (hB9.mono hT12.size)))
    go_ret
    exact ⟨rfl, hF⟩
end Go.Proofs.YtflglpbjapgciaaDoor

/- The statement EntryBackCardSaid: whatever its arguments are, the law EntryBack returns true, and leaves its arguments as they were. Conditions: none beyond the statement's own. -/
namespace Go.Proofs.YtflglpbjapgciaaDoor.holdEntryBack
open Go.ChangeShapes Go.WideShapes Go.ChangeAt Go.RowKit
set_option maxRecDepth 100000

theorem ownK : ownKnob Tryd.prog.godebug = none := by kernel_rfl
theorem laidO : laidOutB Tryd.prog = true := by kernel_rfl

theorem laid_met (os : Os) (args : Array Value) : laidMetH Tryd.prog Rows.entryBackRow.laid ((World.laidAll Tryd.prog os LAID).forCall (fun _ _ => 0) ⟨#[], args, []⟩).memory := by
  rw [MakeChecks.laidMetH_plain _ _ _ (by kernel_rfl)]
  exact laidMet_laidAll (laid := LAID) _ (by kernel_rfl) (by kernel_rfl)
theorem reads (os : Os) {H : Type} (enc : TypeId × Value → H) : ∃ places, DataW.whole enc Tryd.prog ((World.laidAll Tryd.prog os LAID).forCall (fun _ _ => 0) ⟨#[], #[.agg #[.int .u8 0, .string ⟨#[]⟩, .int .u64 0, .int .u32 0, .string ⟨#[]⟩, .string ⟨#[]⟩, .slice none 0 0, .slice none 0 0], .string ⟨#[]⟩], []⟩).memory Tryd.f5.params.toList Rows.entryBackSpec.vars false (#[.agg #[.int .u8 0, .string ⟨#[]⟩, .int .u64 0, .int .u32 0, .string ⟨#[]⟩, .string ⟨#[]⟩, .slice none 0 0, .slice none 0 0], .string ⟨#[]⟩] : Array Value).toList 8 = some ([.agg [.lit (.int .u8 0), .lit (.string []), .lit (.int .u64 0), .agg [.lit (.int .u32 0), .lit (.string []), .lit (.string [])], .nil, .nil], .lit (.string [])], [], places) :=
  ⟨[], by kernel_rfl⟩
set_option maxHeartbeats 1000000 in
theorem lifted (os : Os) (started : os.Started) (H : Type) (enc : TypeId × Value → H) (F : Stop.Interp) :
    ReturnsInHanded {} Tryd.checked os 5 .any ((OpenSpec.ofChange Rows.entryBackSpec).preRow enc Tryd.prog Tryd.f5 Rows.entryBackRow.domain false Rows.entryBackRow.laid) (((OpenSpec.ofChange Rows.entryBackSpec).at F).post enc Tryd.prog Tryd.f5 false true false false) := by
  obtain ⟨places, hx⟩ := reads os enc
  refine returnsInHanded_of_row (C := Tryd.checked) (s := OpenSpec.ofChange Rows.entryBackSpec) ownK started (by kernel_rfl) Tryd.func5
    (witness_row_at (enc := enc) (C := Tryd.checked) false (World.laidAll Tryd.prog os LAID) #[.agg #[.int .u8 0, .string ⟨#[]⟩, .int .u64 0, .int .u32 0, .string ⟨#[]⟩, .string ⟨#[]⟩, .slice none 0 0, .slice none 0 0], .string ⟨#[]⟩] (World.laidAll_os _ _ _) (by kernel_rfl) (by kernel_rfl) (by kernel_rfl)
      (OpenSpec.preRow_of_cond 8 hx (by kernel_rfl) (fun k hk => by cases hk) (by kernel_rfl) (laid_met os _))) ?_
  intro W base args ds gs before hval0 hW _ _ _ hL _ _
  rw [MakeChecks.laidMetH_plain _ _ _ (by kernel_rfl)] at hL
  have hT := tb_of_laid hL
  clear hL
  have hval : ∀ (j : Nat) t v, Tryd.f5.params[j]? = some t → args[j]? = some v → Value.okWide Tryd.prog W .any base t v := hval0
  have hW' := hW
  obtain ⟨p, q, hA0, hV, rfl, hfz, hnd⟩ := hW
  have hA : DataW.TrodAll enc Tryd.prog W 0 (fun _ => true) true Tryd.f5.params.toList args.toList ds p := hA0
  rw [Tryd.params5] at hA hval
  obtain ⟨v0, vs0, d0, ds0, p0, q0, hargs, rfl, rfl, h0, r0⟩ := trodAll_cons hA
  obtain ⟨v1, vs1, d1, ds1, p1, q1, rfl, rfl, rfl, h1, r1⟩ := trodAll_cons r0
  obtain ⟨rfl, rfl, rfl⟩ := trodAll_nil r1
  obtain rfl : args = #[v0, v1] := by cases args; simp_all
  obtain ⟨rfl, rfl⟩ := trodVars_none hV
  have k0 := hval 0 31 v0 rfl rfl
  have k1 := hval 1 9 v1 rfl rfl
  clear hA0 hval0 hval
  simp only [List.append_nil] at hW'
  have hlt : ∀ x ∈ p0 ++ p1, x.block < W.heap.size := fun x hx => by simpa using hW'.lt x (by simpa using hx)
  have g0 : ∀ W', Below W.heap.size W W' → DataW.Trod enc Tryd.prog W' 0 (fun b => decide (b < W.heap.size)) true 31 v0 d0 p0 := fun W' hn => Below.trod laidO (by kernel_rfl) (of_decide_eq_true (by kernel_rfl)) h0 hn (fun x hx => hlt x (by simp [hx]))
  have g1 : ∀ W', Below W.heap.size W W' → DataW.Trod enc Tryd.prog W' 0 (fun b => decide (b < W.heap.size)) true 9 v1 d1 p1 := fun W' hn => Below.trod laidO (by kernel_rfl) (of_decide_eq_true (by kernel_rfl)) h1 hn (fun x hx => hlt x (by simp [hx]))
  obtain ⟨t0, rfl, R0⟩ := open_entry k0 h0
  obtain ⟨s1, rfl, rfl, rfl, -⟩ := Go.ChangeMaps.open_string Tryd.underlying9 k1 h1
  refine (entryBack_law W R0 s1 hT).mono fun e W' ⟨he, hb⟩ => ?_
  subst he
  exact ⟨_, rfl, _, _, _, [], _, [], hW', trodAll_cons_mk (shut_bool Tryd.underlying4 _) trodAll_mk0, (trodAll_cons_mk (g0 _ hb) (trodAll_cons_mk (g1 _ hb) trodAll_mk0)), rfl, hb.frame _, fun h => by cases h⟩

theorem said : Rows.EntryBackSaid :=
  OpenClaim.holds_of_cond 5 Tryd.f5 rfl rfl rfl rfl rfl rfl rfl ⟨rfl, rfl, rfl, rfl, rfl⟩ rfl rfl rfl rfl rfl (by kernel_rfl) Tryd.func5 (by kernel_rfl)
    (of_decide_eq_true (by kernel_rfl)) (by unfold Func.isWrapper; first | (rw [if_pos (by decide +kernel)]; kernel_rfl) | (rw [if_neg (by decide +kernel)]; exact ⟨rfl, rfl⟩))
    (fun os started H enc _ F => by rw [OpenClaim.pre_eq_preRow]; exact lifted os started H enc F)
theorem plainP (f : FuncId) (fn : Func) (hf : Tryd.pinned.checked.prog.funcNamed "posthouse/posthouselaw13.EntryBack" = some f) (hfn : Tryd.pinned.checked.prog.funcs[f]? = some fn) :
    true = Tryd.pinned.checked.prog.looks [] ∧ ∀ (j : Nat) t, fn.params[j]? = some t → Tryd.pinned.checked.prog.wantsStandIn t = false := by
  obtain rfl : f = 5 := Option.some.inj ((show Tryd.prog.funcNamed "posthouse/posthouselaw13.EntryBack" = some 5 by kernel_rfl).symm.trans hf) |>.symm
  obtain rfl : fn = Tryd.f5 := (Option.some.inj (Tryd.func5.symm.trans hfn)).symm
  refine ⟨by kernel_rfl, fun j t ht => ?_⟩
  rw [Tryd.params5] at ht
  have hm := Array.mem_of_getElem? ht
  simp only [List.mem_toArray, List.mem_cons, List.not_mem_nil, or_false] at hm
  rcases hm with rfl | rfl <;> exact (show Tryd.prog.wantsStandIn _ = false by kernel_rfl)
/-- The card. -/
theorem card : Rows.EntryBackCardSaid :=
  Claim7.holds_tied_plain_at .later [] _ _ _ _ said (fun _ h => by cases h) (by kernel_rfl) (fun _ h => by cases h) entryBack_row_tie rfl ⟨rfl, rfl⟩ (by kernel_rfl) rfl plainP (by kernel_rfl)
end Go.Proofs.YtflglpbjapgciaaDoor.holdEntryBack
namespace Go.Proofs.YtflglpbjapgciaaDoor
set_option linter.unusedSimpArgs false
set_option linter.unusedVariables false
theorem entryBackCard_holds : Rows.EntryBackCardSaid := holdEntryBack.card
#print axioms entryBackCard_holds
end Go.Proofs.YtflglpbjapgciaaDoor
