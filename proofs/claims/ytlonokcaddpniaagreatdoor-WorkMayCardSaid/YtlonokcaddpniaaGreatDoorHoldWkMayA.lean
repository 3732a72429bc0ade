/- The statement WorkMayCardSaid: whatever its arguments are, the law WorkMay returns true, and leaves its arguments as they were. Conditions: none beyond the statement's own. (Texts joined.) -/
import Derived.Test.YtlonokcaddpniaaGreatDoorWkAdds
import Derived.Test.YtlonokcaddpniaaGreatDoorWO
import Derived.Test.YtlonokcaddpniaaGreatDoorCards
import Derived.Test.YtlonokcaddpniaaGreatDoorTie
import Derived.Test.YtlonokcaddpniaaGreatDoorEX
import Derived.ProofKit
import Derived.OpenShut
import Derived.Deep.DeepHandedRow
import Derived.Lay
import Derived.SevenTiedAt
set_option linter.unusedSimpArgs false
set_option linter.unusedVariables false
namespace Go.Proofs.YtlonokcaddpniaaGreatDoor
open Go.RowKit
theorem may_put {w : Wk} (h : w.okB = true) {k : Nat} (hk : k < w.puts.length) : (Wk.mk (w.puts.take k) []).addPut w.puts[k] = (⟨w.puts.take (k + 1), []⟩, 0) := by
  obtain ⟨a, b, c, d⟩ := (wk_okB w).1 h; have h1 : (Wk.mk (w.puts.take k) []).okB = true := (wk_okB _).2 ⟨by simp; omega, by simp, fun p hp => c p (List.mem_of_mem_take hp), fun r hr => by cases hr⟩; unfold Wk.addPut; rw [if_neg (by rw [h1, c _ (List.getElem_mem hk)]; simp), if_neg (by simp; omega)]; rw [List.take_succ_eq_append_getElem hk]
theorem may_take {w : Wk} (h : w.okB = true) {k : Nat} (hk : k < w.takes.length) : (Wk.mk w.puts (w.takes.take k)).addTake w.takes[k] = (⟨w.puts, w.takes.take (k + 1)⟩, 0) := by
  obtain ⟨a, b, c, d⟩ := (wk_okB w).1 h; have hle : ∀ r, cntR (w.takes.take k) r ≤ cntR w.takes r := fun r => by unfold cntR; exact List.Sublist.countP_le (List.take_sublist _ _)
  have h1 : (Wk.mk w.puts (w.takes.take k)).okB = true := (wk_okB _).2 ⟨a, by simp; omega, c, fun r hr => ⟨(d r (List.mem_of_mem_take hr)).1, Nat.le_trans (hle r) (d r (List.mem_of_mem_take hr)).2⟩⟩; have h0 : onceB w.takes = true := by unfold Wk.okB at h; rw [Bool.and_eq_true] at h; exact h.2
  have h2 := once_take.1 h0 k hk; unfold Wk.addTake; rw [if_neg (by rw [h1, (d _ (List.getElem_mem hk)).1]; simp), if_neg (by show ¬ 0 < cntR (w.takes.take k) w.takes[k]; omega), if_neg (by simp; omega)]; show (Wk.mk w.puts (w.takes.take k ++ [w.takes[k]]), _) = _
  rw [List.take_succ_eq_append_getElem hk]
theorem may_bad {w : Wk} (h : w.chk ≠ 0) (n : Int) (x : Xn) : w.chk = 130 ∧ (w.doE n).2 = 130 ∧ (w.prepE x).2 = 130 ∧ w.emptyB = true := by
  have ho : w.okB = false := by cases hh : w.okB with | false => rfl | true => exact absurd (wk_ok.2 hh) h
  refine ⟨by rcases wk_chk w with e | e; exact absurd e h; exact e, ?_, ?_, ?_⟩
  · unfold Wk.doE; rw [if_pos ho]
  · unfold Wk.prepE; rw [if_pos ho]
  · unfold Wk.emptyB; rw [ho]; rfl
set_option maxRecDepth 100000 in
set_option maxHeartbeats 25600000 in
theorem workMay_law (hCk : CkOk) (hPu : PuOk) (hGe : GeOk) (hXc : XcOk) (hKs : KsOk) (w : World) {t : WkT} {n : Int} {x : Xn} (hR : WkRd (fun i => i < w.heap.size) w t) (hn0 : 0 ≤ n) (hn1 : n < 18446744073709551616) (hx0 : 0 ≤ x.1) (hx1 : x.1 < 4294967296) (hT : Tb w) :
    Calls Tryz.prog 5 #[t.arg, .int .u64 n, .agg #[.int .u32 x.1, .string x.2.1, .string x.2.2]] w fun e w' => e = .returned (.bool true) ∧ Below w.heap.size w w' := by
  obtain ⟨pa, pc, ta, tc, puts, takes, rfl, hpl, htl⟩ := wkrd_open hR; obtain ⟨xf, xg, xb⟩ := x; have hpi : (puts.length : Int) ≤ 9223372036854775807 := by unfold maxLen at hpl; omega
  have hti : (takes.length : Int) ≤ 9223372036854775807 := by unfold maxLen at htl; omega
  rw [WkT.arg_mk]; have hRh := Lib.hid hR; have hsm := fun (u : World) (h : Below w.heap.size w u) => dsmall17_any (WkT.mk (.slice pa puts.length pc) (.slice ta takes.length tc) puts takes) _ u (hR.pure h)
  have hdo := fun (u : World) (h : Below w.heap.size w u) => wdo_any hCk hPu hGe (WkT.mk (.slice pa puts.length pc) (.slice ta takes.length tc) puts takes) _ u (hR.pure h) (hT.pure h) n hn0 hn1
  have hpr := fun (u : World) (h : Below w.heap.size w u) => wprep_any hCk hPu hGe hXc (WkT.mk (.slice pa puts.length pc) (.slice ta takes.length tc) puts takes) _ u (hR.pure h) (hT.pure h) (xf, xg, xb) hx0 hx1
  have hch := fun (u : World) (h : Below w.heap.size w u) => wcheck_any hCk (WkT.mk (.slice pa puts.length pc) (.slice ta takes.length tc) puts takes) _ u (hR.pure h) (hT.pure h)
  have hem := fun (u : World) (h : Below w.heap.size w u) => wempty_any hCk (WkT.mk (.slice pa puts.length pc) (.slice ta takes.length tc) puts takes) _ u (hR.pure h) (hT.pure h)
  obtain ⟨Q1, hQ1⟩ : ∃ Q, SmEn (WkT.mk (.slice pa puts.length pc) (.slice ta takes.length tc) puts takes).en = Q := ⟨_, rfl⟩
  obtain ⟨DE, hDE⟩ : ∃ E, (WkT.mk (.slice pa puts.length pc) (.slice ta takes.length tc) puts takes).w.doE n = E := ⟨_, rfl⟩
  obtain ⟨PE, hPE⟩ : ∃ E, (WkT.mk (.slice pa puts.length pc) (.slice ta takes.length tc) puts takes).w.prepE (xf, xg, xb) = E := ⟨_, rfl⟩
  obtain ⟨CK, hCK⟩ : ∃ E, (WkT.mk (.slice pa puts.length pc) (.slice ta takes.length tc) puts takes).w.chk = E := ⟨_, rfl⟩
  obtain ⟨EM, hEM⟩ : ∃ E, (WkT.mk (.slice pa puts.length pc) (.slice ta takes.length tc) puts takes).w.emptyB = E := ⟨_, rfl⟩
  have hbad := Lib.hid (fun (h : CK ≠ 0) => show CK = 130 ∧ DE.2 = 130 ∧ PE.2 = 130 ∧ EM = true by rw [← hCK, ← hDE, ← hPE, ← hEM]; exact may_bad (by rw [hCK]; exact h) n _); have hgood := Lib.hid (fun (h : CK = 0) => show (WkT.mk (.slice pa puts.length pc) (.slice ta takes.length tc) puts takes).w.okB = true from wk_ok.1 (hCK.trans h)); have hdok := Lib.hid (fun (h : DE.2 = 0) => show DE.1.chk = 0 by rw [← hDE] at h ⊢; exact en_ok.2 (doE_ok hn0 h)); have hpok := Lib.hid (fun (h : PE.2 = 0) => show PE.1.chk = 0 by rw [← hPE] at h ⊢; exact en_ok.2 (prepE_ok h)); rw [WkT.arg_mk, hQ1] at hsm; rw [hDE, WkT.arg_mk] at hdo; rw [hPE, WkT.arg_mk] at hpr; rw [hCK, WkT.arg_mk] at hch; rw [hEM, WkT.arg_mk] at hem; have hsmh := Lib.hid hsm; have hdoh := Lib.hid hdo; have hprh := Lib.hid hpr; have hchh := Lib.hid hch; have hemh := Lib.hid hem; clear hsm hdo hpr hch hem hQ1 hDE hPE hCK hEM hR hpl htl hn0 hn1 hx0 hx1; have zi := w_info; obtain ⟨W1, hW1⟩ : ∃ W1, (w.alloc (.cells #[.slice pa puts.length pc, .slice ta takes.length tc] 25)).alloc (.cells #[.int .u32 xf, .string xg, .string xb] 55) = W1 := ⟨_, rfl⟩
  have hB1 : Below w.heap.size w W1 := by rw [← hW1]; exact ((Below.refl w.heap.size w).alloc (Nat.le_refl _) _).alloc (by simp) _
  have A1 : Blk W1 w.heap.size [.slice pa puts.length pc, .slice ta takes.length tc] := by rw [← hW1]; exact (Blk.new w [.slice pa puts.length pc, .slice ta takes.length tc] 25).alloc _
  have X1 : Blk W1 (w.heap.size + 1) [.int .u32 xf, .string xg, .string xb] := by rw [← hW1]; exact Blk.newE _ [.int .u32 xf, .string xg, .string xb] 55 (w.heap.size + 1) (by simp)
  have hW1h := Lib.hid hW1; clear hW1; go_enter Tryz.func5, Tryz.ntmps5; go_upto_region 1 with fail; rw [hW1h.out]; clear hW1h; have a0 := A1.at 0 rfl; have a1 := A1.at 1 rfl; go_wp2_with fail; refine (hsmh.out _ hB1).mono ?_; rintro e w2 ⟨⟨b, rfl, hb⟩, hB2⟩; have hL := hB1.trans (hB2.mono hB1.size); have A := A1.pure hB2; have X := X1.pure hB2; clear hb a0 a1 hB2 A1 X1 hB1 hsmh; cases b
  · go_wp2_with (go_at_call 9; (with_reducible refine (head17_any hCk hPu hGe hKs _ (hT.pure hL)).mono ?_); rintro e w9 ⟨rfl, hB9⟩; have hF := hL.trans (hB9.mono hL.size)); go_ret; exact ⟨rfl, hF⟩
  have a0 := A.at 0 rfl; have a1 := A.at 1 rfl; go_upto_region 4 with (go_at_call 18; (with_reducible refine (hdoh.out _ hL).mono ?_); rintro e w3 ⟨⟨k1, nm1, n1, ⟨xf1, xg1, xb1⟩, pv1, tv1, puts1, takes1⟩, rfl, ht1, hO, hB3⟩; obtain ⟨pa1, pc1, e1, -⟩ : ∃ a c, pv1 = .slice a puts1.length c ∧ puts1.length ≤ maxLen := hO.rd.p.len; obtain ⟨ta1, tc1, e2, -⟩ : ∃ a c, tv1 = .slice a takes1.length c ∧ takes1.length ≤ maxLen := hO.rd.s.len; subst e1; subst e2; rw [EnT.arg_mk]); have hAl := (Below.refl w3.heap.size w3).alloc (Nat.le_refl _) (.cells #[.int .u8 k1, .string nm1, .int .u64 n1, .int .u32 xf1, .string xg1, .string xb1, .slice pa1 puts1.length pc1, .slice ta1 takes1.length tc1] 57); have R1 := Lib.hid (hO.rd.pure hAl); have N1 := Blk.new w3 [.int .u8 k1, .string nm1, .int .u64 n1, .int .u32 xf1, .string xg1, .string xb1, .slice pa1 puts1.length pc1, .slice ta1 takes1.length tc1] 57; have hU := hB3.trans (hAl.mono hB3.size); have A := A.pure hU; have X := X.pure hU; have hL := hL.trans (hU.mono hL.size); generalize w3.heap.size = B1 at N1 ⊢; generalize w3.alloc (.cells #[.int .u8 k1, .string nm1, .int .u64 n1, .int .u32 xf1, .string xg1, .string xb1, .slice pa1 puts1.length pc1, .slice ta1 takes1.length tc1] 57) = u3 at N1 R1 A X hL ⊢; have ht1 := Lib.hid ht1; clear a0 a1 hAl hO hB3 hU hdoh; have a0 := A.at 0 rfl; have a1 := A.at 1 rfl; have x0 := X.at 0 rfl; have x1 := X.at 1 rfl; have x2 := X.at 2 rfl; go_upto_region 5 with (go_at_call 20; (with_reducible refine (hprh.out _ hL).mono ?_); rintro e w3 ⟨⟨k2, nm2, n2, ⟨xf2, xg2, xb2⟩, pv2, tv2, puts2, takes2⟩, rfl, ht2, hO, hB3⟩; obtain ⟨pa2, pc2, e1, -⟩ : ∃ a c, pv2 = .slice a puts2.length c ∧ puts2.length ≤ maxLen := hO.rd.p.len; obtain ⟨ta2, tc2, e2, -⟩ : ∃ a c, tv2 = .slice a takes2.length c ∧ takes2.length ≤ maxLen := hO.rd.s.len; subst e1; subst e2; rw [EnT.arg_mk]); have hAl := (Below.refl w3.heap.size w3).alloc (Nat.le_refl _) (.cells #[.int .u8 k2, .string nm2, .int .u64 n2, .int .u32 xf2, .string xg2, .string xb2, .slice pa2 puts2.length pc2, .slice ta2 takes2.length tc2] 57); have R2 := Lib.hid (hO.rd.pure hAl); have N2 := Blk.new w3 [.int .u8 k2, .string nm2, .int .u64 n2, .int .u32 xf2, .string xg2, .string xb2, .slice pa2 puts2.length pc2, .slice ta2 takes2.length tc2] 57; have hU := hB3.trans (hAl.mono hB3.size); have A := A.pure hU; have N1 := N1.pure hU; have R1 := Lib.hid (R1.out.pure hU); have hL := hL.trans (hU.mono hL.size); generalize w3.heap.size = B2 at N2 ⊢; generalize w3.alloc (.cells #[.int .u8 k2, .string nm2, .int .u64 n2, .int .u32 xf2, .string xg2, .string xb2, .slice pa2 puts2.length pc2, .slice ta2 takes2.length tc2] 57) = u4 at N1 R1 N2 R2 A hL ⊢; have ht2 := Lib.hid ht2; clear a0 a1 x0 x1 x2 hAl hO hB3 hU hprh X; have hc1 := fun (u : World) (h : Below u4.heap.size u4 u) => hCk (EnT.mk k1 nm1 n1 (xf1, xg1, xb1) (.slice pa1 puts1.length pc1) (.slice ta1 takes1.length tc1) puts1 takes1) _ u (R1.out.pure h) ((hT.pure hL).pure h)
  have hc2 := fun (u : World) (h : Below u4.heap.size u4 u) => hCk (EnT.mk k2 nm2 n2 (xf2, xg2, xb2) (.slice pa2 puts2.length pc2) (.slice ta2 takes2.length tc2) puts2 takes2) _ u (R2.out.pure h) ((hT.pure hL).pure h)
  obtain ⟨de, hde⟩ : ∃ x, DE.2 = x := ⟨_, rfl⟩
  obtain ⟨ce, hce⟩ : ∃ x, PE.2 = x := ⟨_, rfl⟩
  obtain ⟨c1, hcc1⟩ : ∃ x, (EnT.mk k1 nm1 n1 (xf1, xg1, xb1) (.slice pa1 puts1.length pc1) (.slice ta1 takes1.length tc1) puts1 takes1).e.chk = x := ⟨_, rfl⟩
  obtain ⟨c2, hcc2⟩ : ∃ x, (EnT.mk k2 nm2 n2 (xf2, xg2, xb2) (.slice pa2 puts2.length pc2) (.slice ta2 takes2.length tc2) puts2 takes2).e.chk = x := ⟨_, rfl⟩
  rw [EnT.arg_mk, hcc1] at hc1; rw [EnT.arg_mk, hcc2] at hc2; rw [hde, hce]; have hdok := Lib.hid (fun (h : de = 0) => show c1 = 0 by rw [← hcc1, ht1.out]; exact hdok.out (hde.trans h)); have hpok := Lib.hid (fun (h : ce = 0) => show c2 = 0 by rw [← hcc2, ht2.out]; exact hpok.out (hce.trans h)); have hbad := Lib.hid (fun (h : CK ≠ 0) => show CK = 130 ∧ de = 130 ∧ ce = 130 ∧ EM = true by rw [← hde, ← hce]; exact hbad.out h); have hc1h := Lib.hid hc1; have hc2h := Lib.hid hc2; clear hc1 hc2 hde hce hcc1 hcc2 ht1 ht2; go_cut [49] from 34 to 49 (fun s49 wx => s49 = .bool false ∧ Below u4.heap.size u4 wx)
  case first =>
    have p0 := N1.at 0 rfl; have q0 := N2.at 0 rfl; have p1 := N1.at 1 rfl; have q1 := N2.at 1 rfl; have p2 := N1.at 2 rfl; have q2 := N2.at 2 rfl; have p3 := N1.at 3 rfl; have q3 := N2.at 3 rfl; have p4 := N1.at 4 rfl; have q4 := N2.at 4 rfl; have p5 := N1.at 5 rfl; have q5 := N2.at 5 rfl; have p6 := N1.at 6 rfl; have q6 := N2.at 6 rfl; have p7 := N1.at 7 rfl; have q7 := N2.at 7 rfl; by_cases h1 : de = 0
    · have h1b : (de == 0) = true := beq_iff_eq.2 h1; obtain rfl : c1 = 0 := hdok.out h1; have hb := Below.refl u4.heap.size u4; by_cases h2 : ce = 0
      · have h2b : (ce == 0) = true := beq_iff_eq.2 h2; obtain rfl : c2 = 0 := hpok.out h2; clear h1 h2; go_wp2_with (first | (go_at_call 23; (with_reducible refine (hc1h.out _ hb).mono ?_); rintro e w5 ⟨rfl, hB5⟩; have hb5 := hb.trans (hB5.mono hb.size); have N2b := N2.pure hB5; (clear q0 q1 q2 q3 q4 q5 q6 q7); have q0 := N2b.at 0 rfl; have q1 := N2b.at 1 rfl; have q2 := N2b.at 2 rfl; have q3 := N2b.at 3 rfl; have q4 := N2b.at 4 rfl; have q5 := N2b.at 5 rfl; have q6 := N2b.at 6 rfl; have q7 := N2b.at 7 rfl) | (go_at_call 23; (with_reducible refine (hc2h.out _ hb5).mono ?_); rintro e w6 ⟨rfl, hB6⟩; have hb6 := hb5.trans (hB6.mono hb5.size))); go_meet; exact ⟨rfl, hb6⟩
      · have h2b : (ce == 0) = false := beq_eq_false_iff_ne.2 h2; clear h1 h2; go_wp2_with (go_at_call 23; (with_reducible refine (hc1h.out _ hb).mono ?_); rintro e w5 ⟨rfl, hB5⟩; have hb5 := hb.trans (hB5.mono hb.size)); go_meet; exact ⟨rfl, hb5⟩
    · have h1b : (de == 0) = false := beq_eq_false_iff_ne.2 h1; have hb := Below.refl u4.heap.size u4; by_cases h2 : ce = 0
      · have h2b : (ce == 0) = true := beq_iff_eq.2 h2; obtain rfl : c2 = 0 := hpok.out h2; clear h1 h2; go_wp2_with (go_at_call 23; (with_reducible refine (hc2h.out _ hb).mono ?_); rintro e w6 ⟨rfl, hB6⟩; have hb6 := hb.trans (hB6.mono hb.size)); go_meet; exact ⟨rfl, hb6⟩
      · have h2b : (ce == 0) = false := beq_eq_false_iff_ne.2 h2; clear h1 h2; go_wp2_with fail; go_meet; exact ⟨rfl, hb⟩
  case rest =>
  obtain ⟨rfl, hb⟩ := hcut; have A := A.pure hb; have hL := hL.trans (hb.mono hL.size); clear hb N1 N2 R1 R2 hc1h hc2h hdok hpok; have a0 := A.at 0 rfl; have a1 := A.at 1 rfl; by_cases hck : CK = 0
  rotate_left 1
  · have b1 : (CK != 0) = true := bne_iff_ne.2 hck; obtain ⟨rfl, rfl, rfl, rfl⟩ := hbad.out hck; clear hck hbad hgood hRh; go_wp2_with (first | (go_at_call 16; (with_reducible refine (hchh.out _ hL).mono ?_); rintro e w6 ⟨rfl, hB6⟩; have hL6 := hL.trans (hB6.mono hL.size); have A6 := A.pure hB6; clear a0 a1; have a0 := A6.at 0 rfl; have a1 := A6.at 1 rfl) | (go_at_call 24; (with_reducible refine (hemh.out _ hL6).mono ?_); rintro e w7 ⟨rfl, hB7⟩; have hL7 := hL6.trans (hB7.mono hL6.size)) | (go_at_call 9; (with_reducible refine (head17_any hCk hPu hGe hKs _ (hT.pure hL7)).mono ?_); rintro e w9 ⟨rfl, hB9⟩; have hF := hL7.trans (hB9.mono hL7.size))); go_ret; exact ⟨rfl, hF⟩
  subst hck; have hok := Lib.hid (hgood.out rfl); clear hbad hgood hemh; go_wp2_with (go_at_call 16; (with_reducible refine (hchh.out _ hL).mono ?_); rintro e w6 ⟨rfl, hB6⟩; have hL6 := hL.trans (hB6.mono hL.size); have A6 := A.pure hB6; clear a0 a1; have a0 := A6.at 0 rfl; have a1 := A6.at 1 rfl); have N := Blk.new w6 [.slice none 0 0, .slice none 0 0] 25; have hAl := (Below.refl w6.heap.size w6).alloc (Nat.le_refl _) (.cells #[.slice none 0 0, .slice none 0 0] 25); have A := A6.pure hAl; have hL := hL6.alloc hL6.size (.cells #[.slice none 0 0, .slice none 0 0] 25); have hgw := Lib.hid A6.lt; generalize hG : w6.heap.size = G at N hgw ⊢; generalize w6.alloc (.cells #[.slice none 0 0, .slice none 0 0] 25) = u7 at N A hL ⊢; clear hG hAl hL6 A6 a0 a1 hB6; have hRr := Lib.hid (hRh.out.pure hL); clear hRh; go_loopw [12] (fun s12 wr => ∃ (k : Nat) (oa : Option Addr) (oc : Nat) (ya : Option Addr) (yc : Nat) (op : List PtT) (ot : List Rf), k ≤ puts.length ∧ s12 = .int .i64 k ∧ Upd (fun b => b = G) u7 wr ∧ Blk wr G [.slice oa op.length oc, .slice ya ot.length yc] ∧ Hid (WkRd (fun i => i ≠ G) wr ⟨.slice oa op.length oc, .slice ya ot.length yc, op, ot⟩) ∧ Hid ((WkT.mk (.slice oa op.length oc) (.slice ya ot.length yc) op ot).w = ⟨(WkT.mk (.slice pa puts.length pc) (.slice ta takes.length tc) puts takes).w.puts.take k, []⟩)) (fun s12 _ => puts.length - (intOf s12).toNat)
  case atStart => exact ⟨0, none, 0, none, 0, [], [], Nat.zero_le _, rfl, Upd.refl _ _, N, Lib.hid (wkrd_zero _ _), Lib.hid rfl⟩
  case round =>
    obtain ⟨k, oa, oc, ya, yc, op, ot, hk, rfl, hU, O, hOr, hOw⟩ := hrel; clear N; have A2 := A.upd hU (fun e => by have e : w.heap.size = G := e; have := hgw.out; omega); by_cases hkt : k < puts.length
    · skip; have hLr := hL.trans (hU.below hL.size (fun b e => by have e : b = G := e; have := hgw.out; omega)); have hRr2 := hRr.out.upd hU (fun i hi e => by have e : i = G := e; have hi : i < w.heap.size := hi; have := hgw.out; omega); have hGl := Lib.hid O.lt; have hSl : Slc ptEnc 12 wr (.slice pa puts.length pc) puts := hRr2.p; have hRd := hRr2.r puts[k] (List.getElem_mem hkt); obtain ⟨g, off, rfl⟩ := hSl.addrB hkt; obtain ⟨q, id, key, dur, red, mid, uk, un, us, uka, ukc, ula, ulc, uks, ul, body, hx, c0, c1, c2, c3, c4, c5, c6, c7, c8, c9, c10, c11⟩ := pt_elem hSl hkt hRd; have hid := hRr2.wf.p puts[k].p (List.mem_map.2 ⟨_, List.getElem_mem hkt, rfl⟩)
      have hadd : (WkT.mk (.slice oa op.length oc) (.slice ya ot.length yc) op ot).w.addPut puts[k].p = (⟨(WkT.mk (.slice (some ⟨g, off, none⟩) puts.length pc) (.slice ta takes.length tc) puts takes).w.puts.take (k + 1), []⟩, 0) := by
        rw [hOw.out]; have h := may_put hok.out (k := k) (by show k < (puts.map PtT.p).length; simpa using hkt); rwa [show (WkT.mk (.slice (some ⟨g, off, none⟩) puts.length pc) (.slice ta takes.length tc) puts takes).w.puts[k]'(by show k < (puts.map PtT.p).length; simpa using hkt) = puts[k].p from List.getElem_map ..] at h
      have hcal := fun (u : World) (h : Below wr.heap.size wr u) => addput_any hCk hPu hGe (WkT.mk (.slice oa op.length oc) (.slice ya ot.length yc) op ot) _ u (hOr.out.pure h) ((hT.pure hLr).pure h) puts[k] ((hRd.weaken (fun i _ hi => (show i ≠ G by have hi : i < w.heap.size := hi; have := hgw.out; omega))).pure h) ⟨hid.1, hid.2.1⟩
      simp only [hadd] at hcal; simp only [hx, PtT.arg_mk, WkT.arg_mk] at hcal; have hcalh := Lib.hid hcal; clear hcal hadd hx hid hRd hSl hRr2; have b0 := A2.at 0 rfl; have b1 := A2.at 1 rfl; go_upto_region 13 with fail; have hb := (below_refl_drW wr); refine wp_region_held_drew (S := fun u => Below wr.heap.size wr u) (by kernel_rfl) hb (fun hHeld => ?_); refine takeY 0 74 rfl rfl (v := ?_) ?_ hHeld ?_
      rotate_left 1
      · (intro u hSw; (try dsimp only at hSw); have z := O.pure hSw; have z0 := z.at 0 rfl; have z1 := z.at 1 rfl; clear z; clear hSw; go_simp; (try with_reducible rfl))
      (try simp only [Act.put, lsT, lsZ, lsS]); refine takeY 1 75 rfl rfl (v := ?_) ?_ hHeld ?_
      rotate_left 1
      · (intro u hSw; (try dsimp only at hSw); clear hSw; go_simp; (try with_reducible rfl))
      (try simp only [Act.put, lsT, lsZ, lsS]); refine takeY 2 76 rfl rfl (v := ?_) ?_ hHeld ?_
      rotate_left 1
      · (intro u hSw; (try dsimp only at hSw); have z := A2.pure hSw; have z0 := z.at 0 rfl; have z1 := z.at 1 rfl; clear z; clear hSw; go_simp; (try with_reducible rfl))
      (try simp only [Act.put, lsT, lsZ, lsS]); refine takeY 3 77 rfl rfl (v := ?_) ?_ hHeld ?_
      rotate_left 1
      · (intro u hSw; (try dsimp only at hSw); clear hSw; go_simp; (try with_reducible rfl))
      (try simp only [Act.put, lsT, lsZ, lsS]); refine takeY 4 78 rfl rfl (v := ?_) ?_ hHeld ?_
      rotate_left 1
      · (intro u hSw; (try dsimp only at hSw); clear hSw; go_simp; (try with_reducible rfl))
      (try simp only [Act.put, lsT, lsZ, lsS]); refine takeY 5 79 rfl rfl (v := ?_) ?_ hHeld ?_
      rotate_left 1
      · (intro u hSw; (try dsimp only at hSw); have e0 := cell_kept c0 hSw; have e1 := cell_kept c1 hSw; have e2 := cell_kept c2 hSw; have e3 := cell_kept c3 hSw; have e4 := cell_kept c4 hSw; have e5 := cell_kept c5 hSw; have e6 := cell_kept c6 hSw; have e7 := cell_kept c7 hSw; have e8 := cell_kept c8 hSw; have e9 := cell_kept c9 hSw; have e10 := cell_kept c10 hSw; have e11 := cell_kept c11 hSw; clear hSw; go_simp; (try with_reducible rfl))
      (try simp only [Act.put, lsT, lsZ, lsS]); refine wpAnyH_ready (rs := [6, 10]) (by kernel_rfl) (by simp) ?_; refine (AllReadyH.cons rfl (fun K hK => ?_) (AllReadyH.cons rfl (fun K hK => ?_) AllReadyH.nil))
      focus
        go_simp; go_at_call 11
        (with_reducible refine (hcalh.out _ hb).mono ?_)
        rintro e w7 ⟨t2, rfl, ht2, hO2, hB7⟩; obtain ⟨pa2, pc2, ta2, tc2, puts2, takes2, rfl, -, -⟩ := wkrd_open hO2.rd; rw [WkT.arg_mk]; have ht2 := Lib.hid ht2; have hb7 := hb; have hb := hb.trans (hB7.mono hb.size); have hO2 := Lib.hid hO2; refine hK.out _ _ hb (fun hHeld => ?_); clear hK K; (try simp only [Act.put, lsT, lsZ, lsS]); refine takeY 7 73 rfl rfl (v := ?_) ?_ hHeld ?_
        rotate_left 1
        · (intro u hSw; (try dsimp only at hSw); clear hSw; go_simp; (try with_reducible rfl))
        (try simp only [Act.put, lsT, lsZ, lsS]); refine takeY 8 81 rfl rfl (v := ?_) ?_ hHeld ?_
        rotate_left 1
        · (intro u hSw; (try dsimp only at hSw); clear hSw; go_simp; (try with_reducible rfl))
        (try simp only [Act.put, lsT, lsZ, lsS]); refine takeY 9 82 rfl rfl (v := ?_) ?_ hHeld ?_
        rotate_left 1
        · (intro u hSw; (try dsimp only at hSw); clear hSw; go_simp; (try with_reducible rfl))
        (try simp only [Act.put, lsT, lsZ, lsS]); refine wpAnyH_ready (rs := [10]) (by kernel_rfl) (by simp) ?_; refine (AllReadyH.cons rfl (fun K hK => ?_) AllReadyH.nil); go_simp; have hb0 := hb; have hb := hb.alloc hb.size (.cells #[.slice none 0 0, .slice none 0 0] 25); refine hK.out _ _ hb (fun hHeld => ?_); clear hK K; (try simp only [Act.put, lsT, lsZ, lsS]); refine wpAnyH_ready (rs := [11]) (by kernel_rfl) (by simp) ?_; refine (AllReadyH.cons rfl (fun K hK => ?_) AllReadyH.nil); go_simp; have hAl := (Below.refl w7.heap.size w7).alloc (Nat.le_refl _) (.cells #[.slice pa2 puts2.length pc2, .slice ta2 takes2.length tc2] 25); have hb := hb0.alloc hb0.size (.cells #[.slice pa2 puts2.length pc2, .slice ta2 takes2.length tc2] 25); have M2 := Blk.newE w7 [.slice pa2 puts2.length pc2, .slice ta2 takes2.length tc2] 25 w7.heap.size rfl; have hO3 := Lib.hid ((hO2.out.pure hAl).base (C := wr.heap.size) (Nat.le_refl _)); refine hK.out _ _ hb (fun hHeld => ?_); clear hK K; (try simp only [Act.put, lsT, lsZ, lsS]); refine wpAnyH_ready (rs := [12]) (by kernel_rfl) (by simp) ?_; refine (AllReadyH.cons rfl (fun K hK => ?_) AllReadyH.nil); go_simp; refine hK.out _ _ hb (fun hHeld => ?_); clear hK K; (try simp only [Act.put, lsT, lsZ, lsS]); refine wpAnyH_done (by kernel_rfl) ?_ _; clear hHeld; generalize (w7.alloc (.cells #[.slice pa2 puts2.length pc2, .slice ta2 takes2.length tc2] 25)) = wz at hb M2 hO3 ⊢
      rotate_left 1
      focus
        go_simp; have hb : Below wr.heap.size wr (wr.alloc (.cells #[.slice none 0 0, .slice none 0 0] 25)).drew := ((Below.refl wr.heap.size wr).alloc (Nat.le_refl _) (.cells #[.slice none 0 0, .slice none 0 0] 25)).drew; have M : Blk (wr.alloc (.cells #[.slice none 0 0, .slice none 0 0] 25)).drew wr.heap.size [.slice none 0 0, .slice none 0 0] := (Blk.new wr [.slice none 0 0, .slice none 0 0] 25).drew; refine hK.out _ _ hb (fun hHeld => ?_); clear hK K; (try simp only [Act.put, lsT, lsZ, lsS]); refine wpAnyH_ready (rs := [6]) (by kernel_rfl) (by simp) ?_; refine (AllReadyH.cons rfl (fun K hK => ?_) AllReadyH.nil); go_simp; go_at_call 11
        (with_reducible refine (hcalh.out _ hb).mono ?_)
        rintro e w7 ⟨t2, rfl, ht2, hO2, hB7⟩; obtain ⟨pa2, pc2, ta2, tc2, puts2, takes2, rfl, -, -⟩ := wkrd_open hO2.rd; rw [WkT.arg_mk]; have ht2 := Lib.hid ht2; have hb7 := hb; have M := M.pure hB7; have hb := hb.trans (hB7.mono hb.size); have hO2 := Lib.hid hO2; refine hK.out _ _ hb (fun hHeld => ?_); clear hK K; (try simp only [Act.put, lsT, lsZ, lsS]); refine takeY 7 73 rfl rfl (v := ?_) ?_ hHeld ?_
        rotate_left 1
        · (intro u hSw; (try dsimp only at hSw); clear hSw; go_simp; (try with_reducible rfl))
        (try simp only [Act.put, lsT, lsZ, lsS]); refine takeY 8 81 rfl rfl (v := ?_) ?_ hHeld ?_
        rotate_left 1
        · (intro u hSw; (try dsimp only at hSw); clear hSw; go_simp; (try with_reducible rfl))
        (try simp only [Act.put, lsT, lsZ, lsS]); refine takeY 9 82 rfl rfl (v := ?_) ?_ hHeld ?_
        rotate_left 1
        · (intro u hSw; (try dsimp only at hSw); clear hSw; go_simp; (try with_reducible rfl))
        (try simp only [Act.put, lsT, lsZ, lsS]); refine wpAnyH_ready (rs := [11]) (by kernel_rfl) (by simp) ?_; refine (AllReadyH.cons rfl (fun K hK => ?_) AllReadyH.nil); have y0 := M.frozen 0; have y1 := M.frozen 1; have y2 := M.at 0 rfl; have y3 := M.at 1 rfl; go_simp; clear y0 y1 y2 y3; have hW := upd_set _ wr.heap.size 1 (.slice ta2 takes2.length tc2) (Upd.set (S := fun b => b = wr.heap.size) (w := w7) (p := ⟨wr.heap.size, 0, none⟩) rfl (.slice pa2 puts2.length pc2)) rfl; have M2 := (M.set 0 (.slice pa2 puts2.length pc2)).set 1 (.slice ta2 takes2.length tc2); have hb := hb.trans (hW.below hb.size (fun i e => by have e : i = wr.heap.size := e; omega)); have hO3 := Lib.hid ((hO2.out.upd hW (fun i hi e => by have e : i = wr.heap.size := e; simp at hi; omega)).base (C := wr.heap.size) (by simp)); refine hK.out _ _ hb (fun hHeld => ?_); clear hK K; (try simp only [Act.put, lsT, lsZ, lsS]); refine wpAnyH_ready (rs := [12]) (by kernel_rfl) (by simp) ?_; refine (AllReadyH.cons rfl (fun K hK => ?_) AllReadyH.nil); go_simp; refine hK.out _ _ hb (fun hHeld => ?_); clear hK K; (try simp only [Act.put, lsT, lsZ, lsS]); refine wpAnyH_done (by kernel_rfl) ?_ _; clear hHeld; generalize ((w7.setCell ⟨wr.heap.size, 0, none⟩ (.slice pa2 puts2.length pc2)).setCell ⟨wr.heap.size, 1, none⟩ (.slice ta2 takes2.length tc2)) = wz at hb M2 hO3 ⊢
      rotate_left 1
      all_goals
        have O9 := O.pure hb; have o0 := O9.at 0 rfl; have o1 := O9.at 1 rfl; have f0 := O9.frozen 0; have f1 := O9.frozen 1; have m0 := M2.at 0 rfl; have m1 := M2.at 1 rfl; have hU3 := hU.trans (Upd.of_below (S := fun _ => False) hb) (fun _ h _ => h.elim); clear hU hb hcalh A2 b0 b1; go_wp2; have hW2 := upd_set _ G 1 (.slice ta2 takes2.length tc2) (Upd.set (S := fun b => b = G) (w := wz) (p := ⟨G, 0, none⟩) rfl (.slice pa2 puts2.length pc2)) rfl; go_roundw
        case rel => exact ⟨k + 1, pa2, pc2, ta2, tc2, puts2, takes2, by omega, by go_num, hU3.trans hW2 (fun k e _ => e), (O9.set 0 (.slice pa2 puts2.length pc2)).set 1 (.slice ta2 takes2.length tc2), Lib.hid ((hO3.out.rd.upd hW2 (fun i hi e => by have e : i = G := e; have := hGl.out; omega)).weaken (fun i hi e => by have := hGl.out; omega)), ht2⟩
        case measure => simp [intOf]; omega
    · obtain rfl : k = puts.length := by omega
      have hOw := Lib.hid (show (WkT.mk (.slice oa op.length oc) (.slice ya ot.length yc) op ot).w = ⟨(WkT.mk (.slice pa puts.length pc) (.slice ta takes.length tc) puts takes).w.puts, takes.take 0⟩ from hOw.out.trans (by have h : ((WkT.mk (.slice pa puts.length pc) (.slice ta takes.length tc) puts takes).w.puts).take puts.length = (WkT.mk (.slice pa puts.length pc) (.slice ta takes.length tc) puts takes).w.puts := List.take_of_length_le (by show (puts.map PtT.p).length ≤ puts.length; simp); rw [h]; rfl)); clear hk hkt; have b0 := A2.at 0 rfl; have b1 := A2.at 1 rfl; go_wp2; clear b0 b1 A2; have hUs := Lib.hid hU; have Os := Lib.hid O; have hOrs := hOr; have hOws := hOw; clear hU O hOr hOw; obtain ⟨ws, rfl⟩ : ∃ ws, ws = wr := ⟨_, rfl⟩
      go_loopw [15] (fun s15 wr => ∃ (k : Nat) (oa : Option Addr) (oc : Nat) (ya : Option Addr) (yc : Nat) (op : List PtT) (ot : List Rf), k ≤ takes.length ∧ s15 = .int .i64 k ∧ Upd (fun b => b = G) u7 wr ∧ Blk wr G [.slice oa op.length oc, .slice ya ot.length yc] ∧ Hid (WkRd (fun i => i ≠ G) wr ⟨.slice oa op.length oc, .slice ya ot.length yc, op, ot⟩) ∧ Hid ((WkT.mk (.slice oa op.length oc) (.slice ya ot.length yc) op ot).w = ⟨(WkT.mk (.slice pa puts.length pc) (.slice ta takes.length tc) puts takes).w.puts, takes.take k⟩)) (fun s15 _ => takes.length - (intOf s15).toNat)
      case atStart => exact ⟨0, oa, oc, ya, yc, op, ot, Nat.zero_le _, rfl, hUs.out, Os.out, hOrs, hOws⟩
      case round =>
        clear hUs Os hOrs hOws; obtain ⟨k, oa, oc, ya, yc, op, ot, hk, rfl, hU, O, hOr, hOw⟩ := hrel; have A2 := A.upd hU (fun e => by have e : w.heap.size = G := e; have := hgw.out; omega); by_cases hkt : k < takes.length
        · skip; have hLr := hL.trans (hU.below hL.size (fun b e => by have e : b = G := e; have := hgw.out; omega)); have hRr2 := hRr.out.upd hU (fun i hi e => by have e : i = G := e; have hi : i < w.heap.size := hi; have := hgw.out; omega); have hGl := Lib.hid O.lt; have hSl : Slc rfEnc 2 wr (.slice ta takes.length tc) takes := hRr2.s; obtain ⟨g, off, rfl⟩ := hSl.addrB hkt; obtain ⟨q, id, hx, -, -⟩ := rf_elem hSl hkt
          have helem := Lib.hid (fun (v : World) (h : Below wr.heap.size wr v) => show v.cell? ⟨g, off + k * 2, none⟩ = some (.string q) ∧ v.cell? ⟨g, off + k * 2 + 1, none⟩ = some (.int .u64 id) by
            have h2 := hSl.pure h
            exact ⟨h2.get k hkt 0 _ (by rw [hx]; rfl), h2.get k hkt 1 _ (by rw [hx]; rfl)⟩)
          have hid := hRr2.wf.t takes[k] (List.getElem_mem hkt)
          have hadd : (WkT.mk (.slice oa op.length oc) (.slice ya ot.length yc) op ot).w.addTake takes[k] = (⟨(WkT.mk (.slice pa puts.length pc) (.slice (some ⟨g, off, none⟩) takes.length tc) puts takes).w.puts, takes.take (k + 1)⟩, 0) := by
            rw [hOw.out]; exact may_take (w := (WkT.mk (.slice pa puts.length pc) (.slice (some ⟨g, off, none⟩) takes.length tc) puts takes).w) hok.out (k := k) hkt
          have hcal := fun (u : World) (h : Below wr.heap.size wr u) => addtake_any hCk hPu hGe (WkT.mk (.slice oa op.length oc) (.slice ya ot.length yc) op ot) _ u (hOr.out.pure h) ((hT.pure hLr).pure h) takes[k] hid
          simp only [hadd] at hcal; simp only [hx, WkT.arg_mk] at hcal; have hcalh := Lib.hid hcal; clear hcal hadd hx hid hSl hRr2; have b0 := A2.at 0 rfl; have b1 := A2.at 1 rfl; go_upto_region 20 with fail; have hb := (below_refl_drW wr); refine wp_region_held_drew (S := fun u => Below wr.heap.size wr u) (by kernel_rfl) hb (fun hHeld => ?_); refine takeY 0 94 rfl rfl (v := ?_) ?_ hHeld ?_
          rotate_left 1
          · (intro u hSw; (try dsimp only at hSw); have z := O.pure hSw; have z0 := z.at 0 rfl; have z1 := z.at 1 rfl; clear z; clear hSw; go_simp; (try with_reducible rfl))
          (try simp only [Act.put, lsT, lsZ, lsS]); refine takeY 1 95 rfl rfl (v := ?_) ?_ hHeld ?_
          rotate_left 1
          · (intro u hSw; (try dsimp only at hSw); clear hSw; go_simp; (try with_reducible rfl))
          (try simp only [Act.put, lsT, lsZ, lsS]); refine takeY 2 96 rfl rfl (v := ?_) ?_ hHeld ?_
          rotate_left 1
          · (intro u hSw; (try dsimp only at hSw); have z := A2.pure hSw; have z0 := z.at 0 rfl; have z1 := z.at 1 rfl; clear z; clear hSw; go_simp; (try with_reducible rfl))
          (try simp only [Act.put, lsT, lsZ, lsS]); refine takeY 3 97 rfl rfl (v := ?_) ?_ hHeld ?_
          rotate_left 1
          · (intro u hSw; (try dsimp only at hSw); clear hSw; go_simp; (try with_reducible rfl))
          (try simp only [Act.put, lsT, lsZ, lsS]); refine takeY 4 98 rfl rfl (v := ?_) ?_ hHeld ?_
          rotate_left 1
          · (intro u hSw; (try dsimp only at hSw); clear hSw; go_simp; (try with_reducible rfl))
          (try simp only [Act.put, lsT, lsZ, lsS]); refine takeY 5 99 rfl rfl (v := ?_) ?_ hHeld ?_
          rotate_left 1
          · (intro u hSw; (try dsimp only at hSw); have e := helem.out _ hSw; have e0 := e.1; have e1 := e.2; clear e; clear hSw; go_simp; (try with_reducible rfl))
          (try simp only [Act.put, lsT, lsZ, lsS]); refine wpAnyH_ready (rs := [6, 10]) (by kernel_rfl) (by simp) ?_; refine (AllReadyH.cons rfl (fun K hK => ?_) (AllReadyH.cons rfl (fun K hK => ?_) AllReadyH.nil))
          focus
            go_simp; go_at_call 13
            (with_reducible refine (hcalh.out _ hb).mono ?_)
            rintro e w7 ⟨t2, rfl, ht2, hO2, hB7⟩; obtain ⟨pa2, pc2, ta2, tc2, puts2, takes2, rfl, -, -⟩ := wkrd_open hO2.rd; rw [WkT.arg_mk]; have ht2 := Lib.hid ht2; have hb7 := hb; have hb := hb.trans (hB7.mono hb.size); have hO2 := Lib.hid hO2; refine hK.out _ _ hb (fun hHeld => ?_); clear hK K; (try simp only [Act.put, lsT, lsZ, lsS]); refine takeY 7 93 rfl rfl (v := ?_) ?_ hHeld ?_
            rotate_left 1
            · (intro u hSw; (try dsimp only at hSw); clear hSw; go_simp; (try with_reducible rfl))
            (try simp only [Act.put, lsT, lsZ, lsS]); refine takeY 8 101 rfl rfl (v := ?_) ?_ hHeld ?_
            rotate_left 1
            · (intro u hSw; (try dsimp only at hSw); clear hSw; go_simp; (try with_reducible rfl))
            (try simp only [Act.put, lsT, lsZ, lsS]); refine takeY 9 102 rfl rfl (v := ?_) ?_ hHeld ?_
            rotate_left 1
            · (intro u hSw; (try dsimp only at hSw); clear hSw; go_simp; (try with_reducible rfl))
            (try simp only [Act.put, lsT, lsZ, lsS]); refine wpAnyH_ready (rs := [10]) (by kernel_rfl) (by simp) ?_; refine (AllReadyH.cons rfl (fun K hK => ?_) AllReadyH.nil); go_simp; have hb0 := hb; have hb := hb.alloc hb.size (.cells #[.slice none 0 0, .slice none 0 0] 25); refine hK.out _ _ hb (fun hHeld => ?_); clear hK K; (try simp only [Act.put, lsT, lsZ, lsS]); refine wpAnyH_ready (rs := [11]) (by kernel_rfl) (by simp) ?_; refine (AllReadyH.cons rfl (fun K hK => ?_) AllReadyH.nil); go_simp; have hAl := (Below.refl w7.heap.size w7).alloc (Nat.le_refl _) (.cells #[.slice pa2 puts2.length pc2, .slice ta2 takes2.length tc2] 25); have hb := hb0.alloc hb0.size (.cells #[.slice pa2 puts2.length pc2, .slice ta2 takes2.length tc2] 25); have M2 := Blk.newE w7 [.slice pa2 puts2.length pc2, .slice ta2 takes2.length tc2] 25 w7.heap.size rfl; have hO3 := Lib.hid ((hO2.out.pure hAl).base (C := wr.heap.size) (Nat.le_refl _)); refine hK.out _ _ hb (fun hHeld => ?_); clear hK K; (try simp only [Act.put, lsT, lsZ, lsS]); refine wpAnyH_ready (rs := [12]) (by kernel_rfl) (by simp) ?_; refine (AllReadyH.cons rfl (fun K hK => ?_) AllReadyH.nil); go_simp; refine hK.out _ _ hb (fun hHeld => ?_); clear hK K; (try simp only [Act.put, lsT, lsZ, lsS]); refine wpAnyH_done (by kernel_rfl) ?_ _; clear hHeld; generalize (w7.alloc (.cells #[.slice pa2 puts2.length pc2, .slice ta2 takes2.length tc2] 25)) = wz at hb M2 hO3 ⊢
          rotate_left 1
          focus
            go_simp; have hb : Below wr.heap.size wr (wr.alloc (.cells #[.slice none 0 0, .slice none 0 0] 25)).drew := ((Below.refl wr.heap.size wr).alloc (Nat.le_refl _) (.cells #[.slice none 0 0, .slice none 0 0] 25)).drew; have M : Blk (wr.alloc (.cells #[.slice none 0 0, .slice none 0 0] 25)).drew wr.heap.size [.slice none 0 0, .slice none 0 0] := (Blk.new wr [.slice none 0 0, .slice none 0 0] 25).drew; refine hK.out _ _ hb (fun hHeld => ?_); clear hK K; (try simp only [Act.put, lsT, lsZ, lsS]); refine wpAnyH_ready (rs := [6]) (by kernel_rfl) (by simp) ?_; refine (AllReadyH.cons rfl (fun K hK => ?_) AllReadyH.nil); go_simp; go_at_call 13
            (with_reducible refine (hcalh.out _ hb).mono ?_)
            rintro e w7 ⟨t2, rfl, ht2, hO2, hB7⟩; obtain ⟨pa2, pc2, ta2, tc2, puts2, takes2, rfl, -, -⟩ := wkrd_open hO2.rd; rw [WkT.arg_mk]; have ht2 := Lib.hid ht2; have hb7 := hb; have M := M.pure hB7; have hb := hb.trans (hB7.mono hb.size); have hO2 := Lib.hid hO2; refine hK.out _ _ hb (fun hHeld => ?_); clear hK K; (try simp only [Act.put, lsT, lsZ, lsS]); refine takeY 7 93 rfl rfl (v := ?_) ?_ hHeld ?_
            rotate_left 1
            · (intro u hSw; (try dsimp only at hSw); clear hSw; go_simp; (try with_reducible rfl))
            (try simp only [Act.put, lsT, lsZ, lsS]); refine takeY 8 101 rfl rfl (v := ?_) ?_ hHeld ?_
            rotate_left 1
            · (intro u hSw; (try dsimp only at hSw); clear hSw; go_simp; (try with_reducible rfl))
            (try simp only [Act.put, lsT, lsZ, lsS]); refine takeY 9 102 rfl rfl (v := ?_) ?_ hHeld ?_
            rotate_left 1
            · (intro u hSw; (try dsimp only at hSw); clear hSw; go_simp; (try with_reducible rfl))
            (try simp only [Act.put, lsT, lsZ, lsS]); refine wpAnyH_ready (rs := [11]) (by kernel_rfl) (by simp) ?_; refine (AllReadyH.cons rfl (fun K hK => ?_) AllReadyH.nil); have y0 := M.frozen 0; have y1 := M.frozen 1; have y2 := M.at 0 rfl; have y3 := M.at 1 rfl; go_simp; clear y0 y1 y2 y3; have hW := upd_set _ wr.heap.size 1 (.slice ta2 takes2.length tc2) (Upd.set (S := fun b => b = wr.heap.size) (w := w7) (p := ⟨wr.heap.size, 0, none⟩) rfl (.slice pa2 puts2.length pc2)) rfl; have M2 := (M.set 0 (.slice pa2 puts2.length pc2)).set 1 (.slice ta2 takes2.length tc2); have hb := hb.trans (hW.below hb.size (fun i e => by have e : i = wr.heap.size := e; omega)); have hO3 := Lib.hid ((hO2.out.upd hW (fun i hi e => by have e : i = wr.heap.size := e; simp at hi; omega)).base (C := wr.heap.size) (by simp)); refine hK.out _ _ hb (fun hHeld => ?_); clear hK K; (try simp only [Act.put, lsT, lsZ, lsS]); refine wpAnyH_ready (rs := [12]) (by kernel_rfl) (by simp) ?_; refine (AllReadyH.cons rfl (fun K hK => ?_) AllReadyH.nil); go_simp; refine hK.out _ _ hb (fun hHeld => ?_); clear hK K; (try simp only [Act.put, lsT, lsZ, lsS]); refine wpAnyH_done (by kernel_rfl) ?_ _; clear hHeld; generalize ((w7.setCell ⟨wr.heap.size, 0, none⟩ (.slice pa2 puts2.length pc2)).setCell ⟨wr.heap.size, 1, none⟩ (.slice ta2 takes2.length tc2)) = wz at hb M2 hO3 ⊢
          rotate_left 1
          all_goals
            have O9 := O.pure hb; have o0 := O9.at 0 rfl; have o1 := O9.at 1 rfl; have f0 := O9.frozen 0; have f1 := O9.frozen 1; have m0 := M2.at 0 rfl; have m1 := M2.at 1 rfl; have hU3 := hU.trans (Upd.of_below (S := fun _ => False) hb) (fun _ h _ => h.elim); clear hU hb hcalh A2 b0 b1; go_wp2; have hW2 := upd_set _ G 1 (.slice ta2 takes2.length tc2) (Upd.set (S := fun b => b = G) (w := wz) (p := ⟨G, 0, none⟩) rfl (.slice pa2 puts2.length pc2)) rfl; go_roundw
            case rel => exact ⟨k + 1, pa2, pc2, ta2, tc2, puts2, takes2, by omega, by go_num, hU3.trans hW2 (fun k e _ => e), (O9.set 0 (.slice pa2 puts2.length pc2)).set 1 (.slice ta2 takes2.length tc2), Lib.hid ((hO3.out.rd.upd hW2 (fun i hi e => by have e : i = G := e; have := hGl.out; omega)).weaken (fun i hi e => by have := hGl.out; omega)), ht2⟩
            case measure => simp [intOf]; omega
        · obtain rfl : k = takes.length := by omega
          have hw := Lib.hid (show (WkT.mk (.slice oa op.length oc) (.slice ya ot.length yc) op ot).w = (WkT.mk (.slice pa puts.length pc) (.slice ta takes.length tc) puts takes).w by rw [hOw.out, List.take_length]; rfl); clear hk hkt hOw; have hLr := hL.trans (hU.below hL.size (fun b e => by have e : b = G := e; have := hgw.out; omega)); have hRr2 := hRr.out.upd hU (fun i hi e => by have e : i = G := e; have hi : i < w.heap.size := hi; have := hgw.out; omega); have hsa := says_true (dsame17_any (WkT.mk (.slice oa op.length oc) (.slice ya ot.length yc) op ot) (WkT.mk (.slice pa puts.length pc) (.slice ta takes.length tc) puts takes) _ _ wr hOr.out hRr2) hw.out; have hcc := fun (u : World) (h : Below wr.heap.size wr u) => wcheck_any hCk (WkT.mk (.slice oa op.length oc) (.slice ya ot.length yc) op ot) _ u (hOr.out.pure h) ((hT.pure hLr).pure h)
          rw [hw.out, wk_ok.2 hok.out] at hcc; simp only [WkT.arg_mk] at hsa hcc; have hsah := Lib.hid hsa; have hcch := Lib.hid hcc; clear hsa hcc hRr2 hw hOr hU; have b0 := A2.at 0 rfl; have b1 := A2.at 1 rfl; have o0 := O.at 0 rfl; have o1 := O.at 1 rfl; go_wp2_with (first | (go_at_call 15; (with_reducible refine hsah.out.mono ?_); rintro e w8 ⟨rfl, hB8⟩; have hL8 := hLr.trans (hB8.mono hLr.size); have O8 := O.pure hB8; clear o0 o1; have o0 := O8.at 0 rfl; have o1 := O8.at 1 rfl) | (go_at_call 16; (with_reducible refine (hcch.out _ hB8).mono ?_); rintro e w10 ⟨rfl, hB10⟩; have hL10 := hL8.trans (hB10.mono hL8.size)) | (go_at_call 9; (with_reducible refine (head17_any hCk hPu hGe hKs _ (hT.pure hL10)).mono ?_); rintro e w9 ⟨rfl, hB9⟩; have hF := hL10.trans (hB9.mono hL10.size))); go_ret; exact ⟨rfl, hF⟩
theorem workMay_ok (w : World) {t : WkT} {n : Int} {x : Xn} (hR : WkRd (fun i => i < w.heap.size) w t) (hn : 0 ≤ n ∧ n < 18446744073709551616) (hx : 0 ≤ x.1 ∧ x.1 < 4294967296) (hT : Tb w) :
    Calls Tryz.prog 5 #[t.arg, .int .u64 n, .agg #[.int .u32 x.1, .string x.2.1, .string x.2.2]] w fun e w' => e = .returned (.bool true) ∧ Below w.heap.size w w' :=
  workMay_law ck_ok pu_ok ge_ok xn_chk ks_ok w hR hn.1 hn.2 hx.1 hx.2 hT
end Go.Proofs.YtlonokcaddpniaaGreatDoor
namespace Go.Proofs.YtlonokcaddpniaaGreatDoor.holdWorkMay
open Go.ChangeShapes Go.WideShapes Go.ChangeAt Go.RowKit
set_option maxRecDepth 100000
theorem ownK : ownKnob Tryz.prog.godebug = none := by kernel_rfl
theorem laidO : laidOutB Tryz.prog = true := by kernel_rfl
theorem laid_met (os : Os) (args : Array Value) : laidMetH Tryz.prog Rows.workMayRow.laid ((World.laidAll Tryz.prog os LAID).forCall (fun _ _ => 0) ⟨#[], args, []⟩).memory := by
  rw [MakeChecks.laidMetH_plain _ _ _ (by kernel_rfl)]; exact laidMet_laidAll (laid := LAID) _ (by kernel_rfl) (by kernel_rfl)
theorem reads (os : Os) {H : Type} (enc : TypeId × Value → H) : ∃ places, DataW.whole enc Tryz.prog ((World.laidAll Tryz.prog os LAID).forCall (fun _ _ => 0) ⟨#[], #[.agg #[.slice none 0 0, .slice none 0 0], .int .u64 0, .agg #[.int .u32 0, .string ⟨#[]⟩, .string ⟨#[]⟩]], []⟩).memory Tryz.f5.params.toList Rows.workMaySpec.vars false (#[.agg #[.slice none 0 0, .slice none 0 0], .int .u64 0, .agg #[.int .u32 0, .string ⟨#[]⟩, .string ⟨#[]⟩]] : Array Value).toList 8 = some ([.agg [.nil, .nil], .lit (.int .u64 0), .agg [.lit (.int .u32 0), .lit (.string []), .lit (.string [])]], [], places) :=
  ⟨[], by kernel_rfl⟩
set_option maxHeartbeats 1000000 in
theorem lifted (os : Os) (started : os.Started) (H : Type) (enc : TypeId × Value → H) (F : Stop.Interp) :
    ReturnsInHanded {} Tryz.checked os 5 .any ((OpenSpec.ofChange Rows.workMaySpec).preRow enc Tryz.prog Tryz.f5 Rows.workMayRow.domain false Rows.workMayRow.laid) (((OpenSpec.ofChange Rows.workMaySpec).at F).post enc Tryz.prog Tryz.f5 false true false false) := by
  obtain ⟨places, hx⟩ := reads os enc
  refine returnsInHanded_of_row (C := Tryz.checked) (s := OpenSpec.ofChange Rows.workMaySpec) ownK started (by kernel_rfl) Tryz.func5
    (witness_row_at (enc := enc) (C := Tryz.checked) false (World.laidAll Tryz.prog os LAID) #[.agg #[.slice none 0 0, .slice none 0 0], .int .u64 0, .agg #[.int .u32 0, .string ⟨#[]⟩, .string ⟨#[]⟩]] (World.laidAll_os _ _ _) (by kernel_rfl) (by kernel_rfl) (by kernel_rfl)
      (OpenSpec.preRow_of_cond 8 hx (by kernel_rfl) (fun k hk => by cases hk) (by kernel_rfl) (laid_met os _))) ?_
  intro W base args ds gs before hval0 hW _ _ _ hL _ _; rw [MakeChecks.laidMetH_plain _ _ _ (by kernel_rfl)] at hL; have hT := tb_of_laid hL; clear hL; have hval : ∀ (j : Nat) t v, Tryz.f5.params[j]? = some t → args[j]? = some v → Value.okWide Tryz.prog W .any base t v := hval0
  have hW' := hW; obtain ⟨p, q, hA0, hV, rfl, hfz, hnd⟩ := hW; have hA : DataW.TrodAll enc Tryz.prog W 0 (fun _ => true) true Tryz.f5.params.toList args.toList ds p := hA0; rw [Tryz.params5] at hA hval; obtain ⟨v0, vs0, d0, ds0, p0, q0, hargs, rfl, rfl, h0, r0⟩ := trodAll_cons hA; obtain ⟨v1, vs1, d1, ds1, p1, q1, rfl, rfl, rfl, h1, r1⟩ := trodAll_cons r0; obtain ⟨v2, vs2, d2, ds2, p2, q2, rfl, rfl, rfl, h2, r2⟩ := trodAll_cons r1; obtain ⟨rfl, rfl, rfl⟩ := trodAll_nil r2; obtain rfl : args = #[v0, v1, v2] := by cases args; simp_all
  obtain ⟨rfl, rfl⟩ := trodVars_none hV; have k0 := hval 0 25 v0 rfl rfl; have k1 := hval 1 26 v1 rfl rfl; have k2 := hval 2 55 v2 rfl rfl; clear hA0 hval0 hval; simp only [List.append_nil] at hW'; have hlt : ∀ x ∈ p0 ++ p1 ++ p2, x.block < W.heap.size := fun x hx => by simpa using hW'.lt x (by simpa using hx)
  have g0 : ∀ W', Below W.heap.size W W' → DataW.Trod enc Tryz.prog W' 0 (fun b => decide (b < W.heap.size)) true 25 v0 d0 p0 := fun W' hn => Below.trod laidO (by kernel_rfl) (of_decide_eq_true (by kernel_rfl)) h0 hn (fun x hx => hlt x (by simp [hx]))
  have g1 : ∀ W', Below W.heap.size W W' → DataW.Trod enc Tryz.prog W' 0 (fun b => decide (b < W.heap.size)) true 26 v1 d1 p1 := fun W' hn => Below.trod laidO (by kernel_rfl) (of_decide_eq_true (by kernel_rfl)) h1 hn (fun x hx => hlt x (by simp [hx]))
  have g2 : ∀ W', Below W.heap.size W W' → DataW.Trod enc Tryz.prog W' 0 (fun b => decide (b < W.heap.size)) true 55 v2 d2 p2 := fun W' hn => Below.trod laidO (by kernel_rfl) (of_decide_eq_true (by kernel_rfl)) h2 hn (fun x hx => hlt x (by simp [hx]))
  obtain ⟨t0, rfl, R0⟩ := open_work k0 h0; obtain ⟨z1, rfl, rfl, rfl, w1⟩ := open_int Tryz.underlying26 k1 h1; obtain ⟨t2, rfl, w2⟩ := open_xidA k2 h2; refine (workMay_ok W R0 (bounds_u64 w1) w2 hT).mono fun e W' ⟨he, hb⟩ => ?_
  subst he; exact ⟨_, rfl, _, _, _, [], _, [], hW', trodAll_cons_mk (shut_bool Tryz.underlying4 _) trodAll_mk0, (trodAll_cons_mk (g0 _ hb) (trodAll_cons_mk (g1 _ hb) (trodAll_cons_mk (g2 _ hb) trodAll_mk0))), rfl, hb.frame _, fun h => by cases h⟩
theorem said : Rows.WorkMaySaid :=
  OpenClaim.holds_of_cond 5 Tryz.f5 rfl rfl rfl rfl rfl rfl rfl ⟨rfl, rfl, rfl, rfl, rfl⟩ rfl rfl rfl rfl rfl (by kernel_rfl) Tryz.func5 (by kernel_rfl)
    (of_decide_eq_true (by kernel_rfl)) (by unfold Func.isWrapper; first | (rw [if_pos (by decide +kernel)]; kernel_rfl) | (rw [if_neg (by decide +kernel)]; exact ⟨rfl, rfl⟩))
    (fun os started H enc _ F => by rw [OpenClaim.pre_eq_preRow]; exact lifted os started H enc F)
theorem plainP (f : FuncId) (fn : Func) (hf : Tryz.pinned.checked.prog.funcNamed "posthouse/posthouselaw17.WorkMay" = some f) (hfn : Tryz.pinned.checked.prog.funcs[f]? = some fn) :
    true = Tryz.pinned.checked.prog.looks [] ∧ ∀ (j : Nat) t, fn.params[j]? = some t → Tryz.pinned.checked.prog.wantsStandIn t = false := by
  obtain rfl : f = 5 := Option.some.inj ((show Tryz.prog.funcNamed "posthouse/posthouselaw17.WorkMay" = some 5 by kernel_rfl).symm.trans hf) |>.symm
  obtain rfl : fn = Tryz.f5 := (Option.some.inj (Tryz.func5.symm.trans hfn)).symm; refine ⟨by kernel_rfl, fun j t ht => ?_⟩; rw [Tryz.params5] at ht; have hm := Array.mem_of_getElem? ht; simp only [List.mem_toArray, List.mem_cons, List.not_mem_nil, or_false] at hm; rcases hm with rfl | rfl | rfl <;> exact (show Tryz.prog.wantsStandIn _ = false by kernel_rfl)
/-- The card. -/
theorem card : Rows.WorkMayCardSaid :=
  Claim7.holds_tied_plain_at .later [] _ _ _ _ said (fun _ h => by cases h) (by kernel_rfl) (fun _ h => by cases h) workMay_row_tie rfl ⟨rfl, rfl⟩ (by kernel_rfl) rfl plainP (by kernel_rfl)
end Go.Proofs.YtlonokcaddpniaaGreatDoor.holdWorkMay
namespace Go.Proofs.YtlonokcaddpniaaGreatDoor
theorem workMayCard_holds : Rows.WorkMayCardSaid := holdWorkMay.card
#print axioms workMayCard_holds
end Go.Proofs.YtlonokcaddpniaaGreatDoor
