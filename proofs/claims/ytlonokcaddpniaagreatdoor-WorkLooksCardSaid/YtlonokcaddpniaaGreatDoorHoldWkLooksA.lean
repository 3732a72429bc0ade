/- The statement WorkLooksCardSaid: whatever its arguments are, the law WorkLooks returns true, and leaves its arguments as they were. Conditions: none beyond the statement's own. (Texts joined.) -/
import Derived.Test.YtlonokcaddpniaaGreatDoorWkAdds
import Derived.Test.YtlonokcaddpniaaGreatDoorWN
import Derived.Test.YtlonokcaddpniaaGreatDoorWO
import Derived.Test.YtlonokcaddpniaaGreatDoorCards
import Derived.Test.YtlonokcaddpniaaGreatDoorTie
import Derived.Test.YtlonokcaddpniaaGreatDoorEX
import Derived.ProofKit
import Derived.OpenShut
import Derived.Deep.DeepHandedRow
import Derived.Lay
import Derived.SevenTiedAt
import Derived.ChangeMaps5
set_option linter.unusedSimpArgs false
set_option linter.unusedVariables false
namespace Go.Proofs.YtlonokcaddpniaaGreatDoor
open Go.RowKit
theorem empty_queues (w : Wk) : w.emptyB = decide (w.queues.length = 0) := by
  unfold Wk.emptyB Wk.queues; cases h : w.okB
  · rfl
  · rw [if_neg (by simp)]; simp only [Bool.not_true, Bool.false_or]; refine decide_eq_decide.2 ⟨fun e => ?_, fun e => ?_⟩
    · have : w.names = [] := List.eq_nil_of_length_eq_zero (by unfold Wk.names; simpa using e); rw [this]; rfl
    · have h0 : sortN w.names = [] := List.eq_nil_of_length_eq_zero e; have h1 : w.names = [] := List.eq_nil_iff_forall_not_mem.2 (fun y hy => by have := mem_sortN.2 hy; rw [h0] at this; cases this); unfold Wk.names at h1; have := congrArg List.length h1
      simpa using this
set_option maxRecDepth 100000 in
set_option maxHeartbeats 25600000 in
theorem workLooks_law (hCk : CkOk) (hPu : PuOk) (hGe : GeOk) (hKs : KsOk) (hMp : MpOk) (hDq : DqOk) (hDi : DiOk) (w : World) {t : WkT} {x : ByteArray} (hR : WkRd (fun i => i < w.heap.size) w t) (hT : Tb w) :
    Calls Tryz.prog 6 #[t.arg, .string x] w fun e w' => e = .returned (.bool true) ∧ Below w.heap.size w w' := by
  obtain ⟨pa, pc, ta, tc, puts, takes, rfl, hpl, htl⟩ := wkrd_open hR; rw [WkT.arg_mk]; have hsm := fun (u : World) (h : Below w.heap.size w u) => dsmall17_any (WkT.mk (.slice pa puts.length pc) (.slice ta takes.length tc) puts takes) _ u (hR.pure h)
  have hq := fun (u : World) (h : Below w.heap.size w u) => wqueues_any hCk hKs (WkT.mk (.slice pa puts.length pc) (.slice ta takes.length tc) puts takes) _ u (hR.pure h) (hT.pure h)
  have hem := fun (u : World) (h : Below w.heap.size w u) => wempty_any hCk (WkT.mk (.slice pa puts.length pc) (.slice ta takes.length tc) puts takes) _ u (hR.pure h) (hT.pure h)
  have hin := fun (u : World) (h : Below w.heap.size w u) => winto_any hCk (WkT.mk (.slice pa puts.length pc) (.slice ta takes.length tc) puts takes) _ u (hR.pure h) (hT.pure h)
  have hfr := fun (u : World) (h : Below w.heap.size w u) => wfrom_any hCk (WkT.mk (.slice pa puts.length pc) (.slice ta takes.length tc) puts takes) _ u (hR.pure h) (hT.pure h)
  have hdq := fun (hs : SmEn (WkT.mk (.slice pa puts.length pc) (.slice ta takes.length tc) puts takes).en) (u : World) (h : Below w.heap.size w u) => dqueues_any hMp hDq hDi (WkT.mk (.slice pa puts.length pc) (.slice ta takes.length tc) puts takes) _ u (hR.pure h) hs
  have hdi := fun (hs : SmEn (WkT.mk (.slice pa puts.length pc) (.slice ta takes.length tc) puts takes).en) (u : World) (h : Below w.heap.size w u) => dinto_any hMp hDq hDi (WkT.mk (.slice pa puts.length pc) (.slice ta takes.length tc) puts takes) _ u (hR.pure h) hs
  have hdf := fun (hs : SmEn (WkT.mk (.slice pa puts.length pc) (.slice ta takes.length tc) puts takes).en) (u : World) (h : Below w.heap.size w u) => dfrom_any hMp hDq hDi (WkT.mk (.slice pa puts.length pc) (.slice ta takes.length tc) puts takes) _ u (hR.pure h) hs
  have hee := empty_queues (WkT.mk (.slice pa puts.length pc) (.slice ta takes.length tc) puts takes).w; obtain ⟨Q1, hQ1⟩ : ∃ Q, SmEn (WkT.mk (.slice pa puts.length pc) (.slice ta takes.length tc) puts takes).en = Q := ⟨_, rfl⟩
  obtain ⟨Q, hQ⟩ : ∃ Q, (WkT.mk (.slice pa puts.length pc) (.slice ta takes.length tc) puts takes).w.queues = Q := ⟨_, rfl⟩
  obtain ⟨fI, hfI⟩ : ∃ f, (WkT.mk (.slice pa puts.length pc) (.slice ta takes.length tc) puts takes).w.into = f := ⟨_, rfl⟩
  obtain ⟨fF, hfF⟩ : ∃ f, (WkT.mk (.slice pa puts.length pc) (.slice ta takes.length tc) puts takes).w.fromL = f := ⟨_, rfl⟩
  rw [hQ] at hee; rw [WkT.arg_mk, hQ1] at hsm; rw [WkT.arg_mk, hQ] at hq; rw [WkT.arg_mk, hee] at hem; rw [WkT.arg_mk, hfI] at hin; rw [WkT.arg_mk, hfF] at hfr; rw [WkT.arg_mk, hQ1, hQ] at hdq; rw [WkT.arg_mk, hQ1, hfI] at hdi; rw [WkT.arg_mk, hQ1, hfF] at hdf; have hsmh := Lib.hid hsm; have hqh := Lib.hid hq; have hemh := Lib.hid hem; have hinh := Lib.hid hin; have hfrh := Lib.hid hfr; have hdqh := Lib.hid hdq; have hdih := Lib.hid hdi; have hdfh := Lib.hid hdf; clear hsm hq hem hin hfr hdq hdi hdf hQ1 hQ hfI hfF hee hR hpl htl; have zi := w_info; have hB1 : Below w.heap.size w (w.alloc (.cells #[.slice pa puts.length pc, .slice ta takes.length tc] 25)) := (Below.refl w.heap.size w).alloc (Nat.le_refl _) _; have A1 := Blk.new w [.slice pa puts.length pc, .slice ta takes.length tc] 25; have a0 := A1.at 0 rfl; have a1 := A1.at 1 rfl; go_enter Tryz.func6, Tryz.ntmps6; go_wp2_with fail; refine (hsmh.out _ hB1).mono ?_; rintro e w2 ⟨⟨b, rfl, hb⟩, hB2⟩; have hL := hB1.trans (hB2.mono hB1.size); have A := A1.pure hB2; have hbh := Lib.hid hb; clear hb a0 a1 hB2 A1 hB1 hsmh; cases b
  · go_wp2_with (go_at_call 9; (with_reducible refine (head17_any hCk hPu hGe hKs _ (hT.pure hL)).mono ?_); rintro e w9 ⟨rfl, hB9⟩; have hF := hL.trans (hB9.mono hL.size)); go_ret; exact ⟨rfl, hF⟩
  have hdqh := Lib.hid (hdqh.out (hbh.out rfl)); have hdih := Lib.hid (hdih.out (hbh.out rfl)); have hdfh := Lib.hid (hdfh.out (hbh.out rfl)); clear hbh; have hLh := Lib.hid hL; go_upto_region 3 with fail; have hb := below_refl_drW w2; refine wp_region_held_drew (S := fun u => Below w2.heap.size w2 u) (by kernel_rfl) hb (fun hHeld => ?_); refine takeY 0 12 rfl rfl (v := ?_) ?_ hHeld ?_
  rotate_left 1
  · (intro u hSw; (try dsimp only at hSw); have q := A.pure hSw; have q0 := q.at 0 rfl; have q1 := q.at 1 rfl; clear q; clear hSw; go_simp; (try with_reducible rfl))
  (try simp only [Act.put, lsT, lsZ, lsS]); refine takeY 2 14 rfl rfl (v := ?_) ?_ hHeld ?_
  rotate_left 1
  · (intro u hSw; (try dsimp only at hSw); have q := A.pure hSw; have q0 := q.at 0 rfl; have q1 := q.at 1 rfl; clear q; clear hSw; go_simp; (try with_reducible rfl))
  (try simp only [Act.put, lsT, lsZ, lsS]); refine wpAnyH_ready (rs := [1]) (by kernel_rfl) (by simp) ?_; refine AllReadyH.cons rfl (fun K hK => ?_) AllReadyH.nil; go_simp; go_at_call 25
  (with_reducible refine (hqh.out _ (hLh.out.trans (hb.mono hLh.out.size))).mono ?_)
  rintro e v3 ⟨l1, rfl, hO1, hB3⟩; have hb : Below w2.heap.size w2 v3 := hb.trans (hB3.mono hb.size); refine hK.out _ _ hb (fun hHeld => ?_); clear hK K; (try simp only [Act.put, lsT, lsZ, lsS]); refine wpAnyH_ready (rs := [3]) (by kernel_rfl) (by simp) ?_; refine AllReadyH.cons rfl (fun K hK => ?_) AllReadyH.nil; go_simp; go_at_call 26
  (with_reducible refine (hdqh.out _ (hLh.out.trans (hb.mono hLh.out.size))).mono ?_)
  rintro e v4 ⟨l2, rfl, hO2, hB4⟩; have hb : Below w2.heap.size w2 v4 := hb.trans (hB4.mono hb.size); refine hK.out _ _ hb (fun hHeld => ?_); clear hK K; (try simp only [Act.put, lsT, lsZ, lsS]); refine wpAnyH_ready (rs := [4]) (by kernel_rfl) (by simp) ?_; refine AllReadyH.cons rfl (fun K hK => ?_) AllReadyH.nil; go_simp; refine hK.out _ _ hb (fun hHeld => ?_); clear hK K; (try simp only [Act.put, lsT, lsZ, lsS]); refine wpAnyH_ready (rs := [5]) (by kernel_rfl) (by simp) ?_; refine AllReadyH.cons rfl (fun K hK => ?_) AllReadyH.nil; go_simp; refine hK.out _ _ hb (fun hHeld => ?_); clear hK K; (try simp only [Act.put, lsT, lsZ, lsS]); refine wpAnyH_done (by kernel_rfl) ?_ _; clear hHeld; have hO1 := hO1.pure hB4; have A := A.pure hb; have hL := hL.trans (hb.mono hL.size); clear hb hB3 hB4 hqh hdqh hLh; have hS1 := hO1.slc strEnc_len; have hS2 := hO2.slc strEnc_len; clear hO1 hO2; obtain ⟨la, lc, rfl, hQm⟩ := hS1.len; obtain ⟨ma, mc, rfl, -⟩ := hS2.len; have hQi : (Q.length : Int) ≤ 9223372036854775807 := by unfold maxLen at hQm; omega
  have hS1 := Lib.hid hS1; have hS2 := Lib.hid hS2; generalize v4 = u4 at A hL hS1 hS2 ⊢; clear hQm; obtain ⟨z, hz⟩ : ∃ z, decide (Q.length = 0) = z := ⟨_, rfl⟩
  have hzi : ((Q.length : Int) == 0) = z := by rw [← hz]; by_cases h : Q.length = 0 <;> simp [h]
  have hemh2 := hemh.out; rw [hz] at hemh2; have hemh := Lib.hid hemh2; clear hemh2 hz; have a0 := A.at 0 rfl; have a1 := A.at 1 rfl; have hzz : (z != z) = false := by cases z <;> rfl
  go_upto_region 6 with (go_at_call 24; (with_reducible refine (hemh.out _ hL).mono ?_); rintro e u5 ⟨rfl, hB5⟩; have hL5 := hL.trans (hB5.mono hL.size)); have A := A.pure hB5; have hS1 := Lib.hid (hS1.out.pure hB5); have hS2 := Lib.hid (hS2.out.pure hB5); clear hemh hzi hzz a0 a1 hL hB5; go_wp2; go_loopw [7] (fun s7 wr => ∃ k : Nat, k ≤ Q.length ∧ s7 = .int .i64 k ∧ Below u5.heap.size u5 wr) (fun s7 _ => Q.length - (intOf s7).toNat)
  case atStart => exact ⟨0, Nat.zero_le _, rfl, Below.refl _ _⟩
  case round =>
    obtain ⟨k, hk, rfl, hB⟩ := hrel; have hLh := Lib.hid (hL5.trans (hB.mono hL5.size)); have Ar := A.pure hB; by_cases hkt : k < Q.length
    · have hki : (k : Int) < (Q.length : Int) := by omega
      have hS1r := hS1.out.pure hB; have hS2r := hS2.out.pure hB; obtain ⟨g1, f1, rfl⟩ := hS1r.addrB hkt; obtain ⟨g2, f2, rfl⟩ := hS2r.addrB hkt; have e1 := Lib.hid (fun (v : World) (h : Below wr.heap.size wr v) => by have q := (hS1r.pure h).get k hkt 0 _ rfl; exact (show v.cell? ⟨g1, f1 + k, none⟩ = some (.string Q[k]) by simpa using q)); have e2 := Lib.hid (fun (v : World) (h : Below wr.heap.size wr v) => by have q := (hS2r.pure h).get k hkt 0 _ rfl; exact (show v.cell? ⟨g2, f2 + k, none⟩ = some (.string Q[k]) by simpa using q)); generalize Q[k] = y at e1 e2; clear hS1r hS2r; go_upto_region 9 with fail; have hb := below_refl_drW wr; refine wp_region_held_drew (S := fun u => Below wr.heap.size wr u) (by kernel_rfl) hb (fun hHeld => ?_); refine takeY 0 35 rfl rfl (v := ?_) ?_ hHeld ?_
      rotate_left 1
      · (intro u hSw; (try dsimp only at hSw); clear hSw; go_simp; (try with_reducible rfl))
      (try simp only [Act.put, lsT, lsZ, lsS]); refine takeY 1 36 rfl rfl (v := ?_) ?_ hHeld ?_
      rotate_left 1
      · (intro u hSw; (try dsimp only at hSw); clear hSw; go_simp; (try with_reducible rfl))
      (try simp only [Act.put, lsT, lsZ, lsS]); refine takeY 2 37 rfl rfl (v := ?_) ?_ hHeld ?_
      rotate_left 1
      · (intro u hSw; (try dsimp only at hSw); clear hSw; go_simp; (try with_reducible rfl))
      (try simp only [Act.put, lsT, lsZ, lsS]); refine takeY 3 38 rfl rfl (v := ?_) ?_ hHeld ?_
      rotate_left 1
      · (intro u hSw; (try dsimp only at hSw); have q := e1.out _ hSw; clear hSw; go_simp; (try with_reducible rfl))
      (try simp only [Act.put, lsT, lsZ, lsS]); refine takeY 4 39 rfl rfl (v := ?_) ?_ hHeld ?_
      rotate_left 1
      · (intro u hSw; (try dsimp only at hSw); clear hSw; go_simp; (try with_reducible rfl))
      (try simp only [Act.put, lsT, lsZ, lsS]); refine takeY 5 40 rfl rfl (v := ?_) ?_ hHeld ?_
      rotate_left 1
      · (intro u hSw; (try dsimp only at hSw); clear hSw; go_simp; (try with_reducible rfl))
      (try simp only [Act.put, lsT, lsZ, lsS]); refine takeY 6 41 rfl rfl (v := ?_) ?_ hHeld ?_
      rotate_left 1
      · (intro u hSw; (try dsimp only at hSw); clear hSw; go_simp; (try with_reducible rfl))
      (try simp only [Act.put, lsT, lsZ, lsS]); refine takeY 7 42 rfl rfl (v := ?_) ?_ hHeld ?_
      rotate_left 1
      · (intro u hSw; (try dsimp only at hSw); have q := e2.out _ hSw; clear hSw; go_simp; (try with_reducible rfl))
      (try simp only [Act.put, lsT, lsZ, lsS]); refine takeY 8 43 rfl rfl (v := ?_) ?_ hHeld ?_
      rotate_left 1
      · (intro u hSw; (try dsimp only at hSw); clear hSw; go_simp; (try with_reducible rfl))
      (try simp only [Act.put, lsT, lsZ, lsS]); refine takeY 9 44 rfl rfl (v := ?_) ?_ hHeld ?_
      rotate_left 1
      · (intro u hSw; (try dsimp only at hSw); clear hSw; go_simp; (try with_reducible rfl))
      (try simp only [Act.put, lsT, lsZ, lsS]); refine takeY 10 45 rfl rfl (v := ?_) ?_ hHeld ?_
      rotate_left 1
      · (intro u hSw; (try dsimp only at hSw); have q := Ar.pure hSw; have q0 := q.at 0 rfl; have q1 := q.at 1 rfl; clear q; clear hSw; go_simp; (try with_reducible rfl))
      (try simp only [Act.put, lsT, lsZ, lsS]); refine takeY 11 46 rfl rfl (v := ?_) ?_ hHeld ?_
      rotate_left 1
      · (intro u hSw; (try dsimp only at hSw); clear hSw; go_simp; (try with_reducible rfl))
      (try simp only [Act.put, lsT, lsZ, lsS]); refine takeY 12 47 rfl rfl (v := ?_) ?_ hHeld ?_
      rotate_left 1
      · (intro u hSw; (try dsimp only at hSw); clear hSw; go_simp; (try with_reducible rfl))
      (try simp only [Act.put, lsT, lsZ, lsS]); refine takeY 13 48 rfl rfl (v := ?_) ?_ hHeld ?_
      rotate_left 1
      · (intro u hSw; (try dsimp only at hSw); clear hSw; go_simp; (try with_reducible rfl))
      (try simp only [Act.put, lsT, lsZ, lsS]); refine takeY 14 49 rfl rfl (v := ?_) ?_ hHeld ?_
      rotate_left 1
      · (intro u hSw; (try dsimp only at hSw); have q := e1.out _ hSw; clear hSw; go_simp; (try with_reducible rfl))
      (try simp only [Act.put, lsT, lsZ, lsS]); refine takeY 16 51 rfl rfl (v := ?_) ?_ hHeld ?_
      rotate_left 1
      · (intro u hSw; (try dsimp only at hSw); have q := Ar.pure hSw; have q0 := q.at 0 rfl; have q1 := q.at 1 rfl; clear q; clear hSw; go_simp; (try with_reducible rfl))
      (try simp only [Act.put, lsT, lsZ, lsS]); refine takeY 17 52 rfl rfl (v := ?_) ?_ hHeld ?_
      rotate_left 1
      · (intro u hSw; (try dsimp only at hSw); clear hSw; go_simp; (try with_reducible rfl))
      (try simp only [Act.put, lsT, lsZ, lsS]); refine takeY 18 53 rfl rfl (v := ?_) ?_ hHeld ?_
      rotate_left 1
      · (intro u hSw; (try dsimp only at hSw); clear hSw; go_simp; (try with_reducible rfl))
      (try simp only [Act.put, lsT, lsZ, lsS]); refine takeY 19 54 rfl rfl (v := ?_) ?_ hHeld ?_
      rotate_left 1
      · (intro u hSw; (try dsimp only at hSw); clear hSw; go_simp; (try with_reducible rfl))
      (try simp only [Act.put, lsT, lsZ, lsS]); refine takeY 20 55 rfl rfl (v := ?_) ?_ hHeld ?_
      rotate_left 1
      · (intro u hSw; (try dsimp only at hSw); have q := e1.out _ hSw; clear hSw; go_simp; (try with_reducible rfl))
      (try simp only [Act.put, lsT, lsZ, lsS]); refine wpAnyH_ready (rs := [15]) (by kernel_rfl) (by simp) ?_; refine AllReadyH.cons rfl (fun K hK => ?_) AllReadyH.nil; go_simp; go_at_call 27
      (with_reducible refine (hinh.out _ (hLh.out.trans (hb.mono hLh.out.size)) _).mono ?_)
      rintro e v3 ⟨rfl, hB3⟩; have hb : Below wr.heap.size wr v3 := hb.trans (hB3.mono hb.size); refine hK.out _ _ hb (fun hHeld => ?_); clear hK K; (try simp only [Act.put, lsT, lsZ, lsS]); refine wpAnyH_ready (rs := [21]) (by kernel_rfl) (by simp) ?_; refine AllReadyH.cons rfl (fun K hK => ?_) AllReadyH.nil; go_simp; go_at_call 28
      (with_reducible refine (hdih.out _ (hLh.out.trans (hb.mono hLh.out.size)) _).mono ?_)
      rintro e v4 ⟨rfl, hB4⟩; have hb : Below wr.heap.size wr v4 := hb.trans (hB4.mono hb.size); refine hK.out _ _ hb (fun hHeld => ?_); clear hK K; (try simp only [Act.put, lsT, lsZ, lsS]); refine takeY 22 57 rfl rfl (v := ?_) ?_ hHeld ?_
      rotate_left 1
      · (intro u hSw; (try dsimp only at hSw); clear hSw; go_simp; (try with_reducible rfl))
      (try simp only [Act.put, lsT, lsZ, lsS]); refine takeY 23 58 rfl rfl (v := ?_) ?_ hHeld ?_
      rotate_left 1
      · (intro u hSw; (try dsimp only at hSw); clear hSw; go_simp; (try with_reducible rfl))
      (try simp only [Act.put, lsT, lsZ, lsS]); refine takeY 24 59 rfl rfl (v := ?_) ?_ hHeld ?_
      rotate_left 1
      · (intro u hSw; (try dsimp only at hSw); clear hSw; go_simp; (try with_reducible rfl))
      (try simp only [Act.put, lsT, lsZ, lsS]); refine takeY 25 60 rfl rfl (v := ?_) ?_ hHeld ?_
      rotate_left 1
      · (intro u hSw; (try dsimp only at hSw); have q := Ar.pure hSw; have q0 := q.at 0 rfl; have q1 := q.at 1 rfl; clear q; clear hSw; go_simp; (try with_reducible rfl))
      (try simp only [Act.put, lsT, lsZ, lsS]); refine takeY 26 61 rfl rfl (v := ?_) ?_ hHeld ?_
      rotate_left 1
      · (intro u hSw; (try dsimp only at hSw); clear hSw; go_simp; (try with_reducible rfl))
      (try simp only [Act.put, lsT, lsZ, lsS]); refine takeY 27 62 rfl rfl (v := ?_) ?_ hHeld ?_
      rotate_left 1
      · (intro u hSw; (try dsimp only at hSw); clear hSw; go_simp; (try with_reducible rfl))
      (try simp only [Act.put, lsT, lsZ, lsS]); refine takeY 28 63 rfl rfl (v := ?_) ?_ hHeld ?_
      rotate_left 1
      · (intro u hSw; (try dsimp only at hSw); clear hSw; go_simp; (try with_reducible rfl))
      (try simp only [Act.put, lsT, lsZ, lsS]); refine takeY 29 64 rfl rfl (v := ?_) ?_ hHeld ?_
      rotate_left 1
      · (intro u hSw; (try dsimp only at hSw); have q := e1.out _ hSw; clear hSw; go_simp; (try with_reducible rfl))
      (try simp only [Act.put, lsT, lsZ, lsS]); refine takeY 31 66 rfl rfl (v := ?_) ?_ hHeld ?_
      rotate_left 1
      · (intro u hSw; (try dsimp only at hSw); have q := Ar.pure hSw; have q0 := q.at 0 rfl; have q1 := q.at 1 rfl; clear q; clear hSw; go_simp; (try with_reducible rfl))
      (try simp only [Act.put, lsT, lsZ, lsS]); refine takeY 32 67 rfl rfl (v := ?_) ?_ hHeld ?_
      rotate_left 1
      · (intro u hSw; (try dsimp only at hSw); clear hSw; go_simp; (try with_reducible rfl))
      (try simp only [Act.put, lsT, lsZ, lsS]); refine takeY 33 68 rfl rfl (v := ?_) ?_ hHeld ?_
      rotate_left 1
      · (intro u hSw; (try dsimp only at hSw); clear hSw; go_simp; (try with_reducible rfl))
      (try simp only [Act.put, lsT, lsZ, lsS]); refine takeY 34 69 rfl rfl (v := ?_) ?_ hHeld ?_
      rotate_left 1
      · (intro u hSw; (try dsimp only at hSw); clear hSw; go_simp; (try with_reducible rfl))
      (try simp only [Act.put, lsT, lsZ, lsS]); refine takeY 35 70 rfl rfl (v := ?_) ?_ hHeld ?_
      rotate_left 1
      · (intro u hSw; (try dsimp only at hSw); have q := e1.out _ hSw; clear hSw; go_simp; (try with_reducible rfl))
      (try simp only [Act.put, lsT, lsZ, lsS]); refine wpAnyH_ready (rs := [30]) (by kernel_rfl) (by simp) ?_; refine AllReadyH.cons rfl (fun K hK => ?_) AllReadyH.nil; go_simp; go_at_call 30
      (with_reducible refine (hfrh.out _ (hLh.out.trans (hb.mono hLh.out.size)) _).mono ?_)
      rintro e v5 ⟨la5, rfl, hOa, hB5⟩; have hb : Below wr.heap.size wr v5 := hb.trans (hB5.mono hb.size); refine hK.out _ _ hb (fun hHeld => ?_); clear hK K; (try simp only [Act.put, lsT, lsZ, lsS]); refine wpAnyH_ready (rs := [36]) (by kernel_rfl) (by simp) ?_; refine AllReadyH.cons rfl (fun K hK => ?_) AllReadyH.nil; go_simp; go_at_call 31
      (with_reducible refine (hdfh.out _ (hLh.out.trans (hb.mono hLh.out.size)) _).mono ?_)
      rintro e v6 ⟨la6, rfl, hOb, hB6⟩; have hb : Below wr.heap.size wr v6 := hb.trans (hB6.mono hb.size); have hOa := hOa.pure hB6; refine hK.out _ _ hb (fun hHeld => ?_); clear hK K; (try simp only [Act.put, lsT, lsZ, lsS]); refine wpAnyH_ready (rs := [37]) (by kernel_rfl) (by simp) ?_; refine AllReadyH.cons rfl (fun K hK => ?_) AllReadyH.nil; go_simp; go_at_call 29
      (with_reducible refine (same15_any _ _ _ _ _ (hOa.slc u64Enc_len) (hOb.slc u64Enc_len)).mono ?_)
      rintro e v7 ⟨rfl, hB7⟩; rw [decide_eq_true rfl]; have hb : Below wr.heap.size wr v7 := hb.trans (hB7.mono hb.size); refine hK.out _ _ hb (fun hHeld => ?_); clear hK K; (try simp only [Act.put, lsT, lsZ, lsS]); refine takeY 38 73 rfl rfl (v := ?_) ?_ hHeld ?_
      rotate_left 1
      · (intro u hSw; (try dsimp only at hSw); clear hSw; go_simp; (try with_reducible rfl))
      (try simp only [Act.put, lsT, lsZ, lsS]); refine takeY 39 74 rfl rfl (v := ?_) ?_ hHeld ?_
      rotate_left 1
      · (intro u hSw; (try dsimp only at hSw); clear hSw; go_simp; (try with_reducible rfl))
      (try simp only [Act.put, lsT, lsZ, lsS]); refine wpAnyH_done (by kernel_rfl) ?_ _; clear hHeld; go_wp2; go_roundw
      case rel => exact ⟨k + 1, by omega, by go_num, hB.trans (hb.mono hB.size)⟩
      case measure => simp [intOf]; omega
    · obtain rfl : k = Q.length := by omega
      clear hkt hk; go_upto_region 11 with fail; have hb := below_refl_drW wr; refine wp_region_held_drew (S := fun u => Below wr.heap.size wr u) (by kernel_rfl) hb (fun hHeld => ?_); refine takeY 0 75 rfl rfl (v := ?_) ?_ hHeld ?_
      rotate_left 1
      · (intro u hSw; (try dsimp only at hSw); have q := Ar.pure hSw; have q0 := q.at 0 rfl; have q1 := q.at 1 rfl; clear q; clear hSw; go_simp; (try with_reducible rfl))
      (try simp only [Act.put, lsT, lsZ, lsS]); refine takeY 1 76 rfl rfl (v := ?_) ?_ hHeld ?_
      rotate_left 1
      · (intro u hSw; (try dsimp only at hSw); clear hSw; go_simp; (try with_reducible rfl))
      (try simp only [Act.put, lsT, lsZ, lsS]); refine takeY 3 78 rfl rfl (v := ?_) ?_ hHeld ?_
      rotate_left 1
      · (intro u hSw; (try dsimp only at hSw); have q := Ar.pure hSw; have q0 := q.at 0 rfl; have q1 := q.at 1 rfl; clear q; clear hSw; go_simp; (try with_reducible rfl))
      (try simp only [Act.put, lsT, lsZ, lsS]); refine takeY 4 79 rfl rfl (v := ?_) ?_ hHeld ?_
      rotate_left 1
      · (intro u hSw; (try dsimp only at hSw); clear hSw; go_simp; (try with_reducible rfl))
      (try simp only [Act.put, lsT, lsZ, lsS]); refine wpAnyH_ready (rs := [2]) (by kernel_rfl) (by simp) ?_; refine AllReadyH.cons rfl (fun K hK => ?_) AllReadyH.nil; go_simp; go_at_call 27
      (with_reducible refine (hinh.out _ (hLh.out.trans (hb.mono hLh.out.size)) _).mono ?_)
      rintro e v3 ⟨rfl, hB3⟩; have hb : Below wr.heap.size wr v3 := hb.trans (hB3.mono hb.size); refine hK.out _ _ hb (fun hHeld => ?_); clear hK K; (try simp only [Act.put, lsT, lsZ, lsS]); refine wpAnyH_ready (rs := [5]) (by kernel_rfl) (by simp) ?_; refine AllReadyH.cons rfl (fun K hK => ?_) AllReadyH.nil; go_simp; go_at_call 28
      (with_reducible refine (hdih.out _ (hLh.out.trans (hb.mono hLh.out.size)) _).mono ?_)
      rintro e v4 ⟨rfl, hB4⟩; have hb : Below wr.heap.size wr v4 := hb.trans (hB4.mono hb.size); refine hK.out _ _ hb (fun hHeld => ?_); clear hK K; (try simp only [Act.put, lsT, lsZ, lsS]); refine takeY 6 81 rfl rfl (v := ?_) ?_ hHeld ?_
      rotate_left 1
      · (intro u hSw; (try dsimp only at hSw); clear hSw; go_simp; (try with_reducible rfl))
      (try simp only [Act.put, lsT, lsZ, lsS]); refine takeY 7 82 rfl rfl (v := ?_) ?_ hHeld ?_
      rotate_left 1
      · (intro u hSw; (try dsimp only at hSw); clear hSw; go_simp; (try with_reducible rfl))
      (try simp only [Act.put, lsT, lsZ, lsS]); refine takeY 8 83 rfl rfl (v := ?_) ?_ hHeld ?_
      rotate_left 1
      · (intro u hSw; (try dsimp only at hSw); have q := Ar.pure hSw; have q0 := q.at 0 rfl; have q1 := q.at 1 rfl; clear q; clear hSw; go_simp; (try with_reducible rfl))
      (try simp only [Act.put, lsT, lsZ, lsS]); refine takeY 9 84 rfl rfl (v := ?_) ?_ hHeld ?_
      rotate_left 1
      · (intro u hSw; (try dsimp only at hSw); clear hSw; go_simp; (try with_reducible rfl))
      (try simp only [Act.put, lsT, lsZ, lsS]); refine takeY 11 86 rfl rfl (v := ?_) ?_ hHeld ?_
      rotate_left 1
      · (intro u hSw; (try dsimp only at hSw); have q := Ar.pure hSw; have q0 := q.at 0 rfl; have q1 := q.at 1 rfl; clear q; clear hSw; go_simp; (try with_reducible rfl))
      (try simp only [Act.put, lsT, lsZ, lsS]); refine takeY 12 87 rfl rfl (v := ?_) ?_ hHeld ?_
      rotate_left 1
      · (intro u hSw; (try dsimp only at hSw); clear hSw; go_simp; (try with_reducible rfl))
      (try simp only [Act.put, lsT, lsZ, lsS]); refine wpAnyH_ready (rs := [10]) (by kernel_rfl) (by simp) ?_; refine AllReadyH.cons rfl (fun K hK => ?_) AllReadyH.nil; go_simp; go_at_call 30
      (with_reducible refine (hfrh.out _ (hLh.out.trans (hb.mono hLh.out.size)) _).mono ?_)
      rintro e v5 ⟨la5, rfl, hOa, hB5⟩; have hb : Below wr.heap.size wr v5 := hb.trans (hB5.mono hb.size); refine hK.out _ _ hb (fun hHeld => ?_); clear hK K; (try simp only [Act.put, lsT, lsZ, lsS]); refine wpAnyH_ready (rs := [13]) (by kernel_rfl) (by simp) ?_; refine AllReadyH.cons rfl (fun K hK => ?_) AllReadyH.nil; go_simp; go_at_call 31
      (with_reducible refine (hdfh.out _ (hLh.out.trans (hb.mono hLh.out.size)) _).mono ?_)
      rintro e v6 ⟨la6, rfl, hOb, hB6⟩; have hb : Below wr.heap.size wr v6 := hb.trans (hB6.mono hb.size); have hOa := hOa.pure hB6; refine hK.out _ _ hb (fun hHeld => ?_); clear hK K; (try simp only [Act.put, lsT, lsZ, lsS]); refine wpAnyH_ready (rs := [14]) (by kernel_rfl) (by simp) ?_; refine AllReadyH.cons rfl (fun K hK => ?_) AllReadyH.nil; go_simp; go_at_call 29
      (with_reducible refine (same15_any _ _ _ _ _ (hOa.slc u64Enc_len) (hOb.slc u64Enc_len)).mono ?_)
      rintro e v7 ⟨rfl, hB7⟩; rw [decide_eq_true rfl]; have hb : Below wr.heap.size wr v7 := hb.trans (hB7.mono hb.size); refine hK.out _ _ hb (fun hHeld => ?_); clear hK K; (try simp only [Act.put, lsT, lsZ, lsS]); refine takeY 15 90 rfl rfl (v := ?_) ?_ hHeld ?_
      rotate_left 1
      · (intro u hSw; (try dsimp only at hSw); clear hSw; go_simp; (try with_reducible rfl))
      (try simp only [Act.put, lsT, lsZ, lsS]); refine takeY 16 91 rfl rfl (v := ?_) ?_ hHeld ?_
      rotate_left 1
      · (intro u hSw; (try dsimp only at hSw); clear hSw; go_simp; (try with_reducible rfl))
      (try simp only [Act.put, lsT, lsZ, lsS]); refine wpAnyH_ready (rs := [17]) (by kernel_rfl) (by simp) ?_; refine AllReadyH.cons rfl (fun K hK => ?_) AllReadyH.nil; go_simp; go_at_call 9; have hLb := hLh.out.trans (hb.mono hLh.out.size)
      (with_reducible refine (head17_any hCk hPu hGe hKs _ (hT.pure hLb)).mono ?_)
      rintro e v8 ⟨rfl, hB8⟩; have hb : Below wr.heap.size wr v8 := hb.trans (hB8.mono hb.size); refine hK.out _ _ hb (fun hHeld => ?_); clear hK K; (try simp only [Act.put, lsT, lsZ, lsS]); refine takeY 18 93 rfl rfl (v := ?_) ?_ hHeld ?_
      rotate_left 1
      · (intro u hSw; (try dsimp only at hSw); clear hSw; go_simp; (try with_reducible rfl))
      (try simp only [Act.put, lsT, lsZ, lsS]); refine wpAnyH_ready (rs := [19]) (by kernel_rfl) (by simp) ?_; refine AllReadyH.cons rfl (fun K hK => ?_) AllReadyH.nil; go_simp; refine hK.out _ _ hb (fun hHeld => ?_); clear hK K; (try simp only [Act.put, lsT, lsZ, lsS]); refine wpAnyH_done (by kernel_rfl) ?_ _; clear hHeld; go_wp2; go_ret; exact ⟨rfl, hLh.out.trans (hb.mono hLh.out.size)⟩
theorem workLooks_ok (w : World) {t : WkT} (hR : WkRd (fun i => i < w.heap.size) w t) (x : ByteArray) (hT : Tb w) :
    Calls Tryz.prog 6 #[t.arg, .string x] w fun e w' => e = .returned (.bool true) ∧ Below w.heap.size w w' :=
  workLooks_law ck_ok pu_ok ge_ok ks_ok mp_ok dq_ok di_ok w hR hT
end Go.Proofs.YtlonokcaddpniaaGreatDoor
namespace Go.Proofs.YtlonokcaddpniaaGreatDoor.holdWorkLooks
open Go.ChangeShapes Go.WideShapes Go.ChangeAt Go.RowKit
set_option maxRecDepth 100000
theorem ownK : ownKnob Tryz.prog.godebug = none := by kernel_rfl
theorem laidO : laidOutB Tryz.prog = true := by kernel_rfl
theorem laid_met (os : Os) (args : Array Value) : laidMetH Tryz.prog Rows.workLooksRow.laid ((World.laidAll Tryz.prog os LAID).forCall (fun _ _ => 0) ⟨#[], args, []⟩).memory := by
  rw [MakeChecks.laidMetH_plain _ _ _ (by kernel_rfl)]; exact laidMet_laidAll (laid := LAID) _ (by kernel_rfl) (by kernel_rfl)
theorem reads (os : Os) {H : Type} (enc : TypeId × Value → H) : ∃ places, DataW.whole enc Tryz.prog ((World.laidAll Tryz.prog os LAID).forCall (fun _ _ => 0) ⟨#[], #[.agg #[.slice none 0 0, .slice none 0 0], .string ⟨#[]⟩], []⟩).memory Tryz.f6.params.toList Rows.workLooksSpec.vars false (#[.agg #[.slice none 0 0, .slice none 0 0], .string ⟨#[]⟩] : Array Value).toList 8 = some ([.agg [.nil, .nil], .lit (.string [])], [], places) :=
  ⟨[], by kernel_rfl⟩
set_option maxHeartbeats 1000000 in
theorem lifted (os : Os) (started : os.Started) (H : Type) (enc : TypeId × Value → H) (F : Stop.Interp) :
    ReturnsInHanded {} Tryz.checked os 6 .any ((OpenSpec.ofChange Rows.workLooksSpec).preRow enc Tryz.prog Tryz.f6 Rows.workLooksRow.domain false Rows.workLooksRow.laid) (((OpenSpec.ofChange Rows.workLooksSpec).at F).post enc Tryz.prog Tryz.f6 false true false false) := by
  obtain ⟨places, hx⟩ := reads os enc
  refine returnsInHanded_of_row (C := Tryz.checked) (s := OpenSpec.ofChange Rows.workLooksSpec) ownK started (by kernel_rfl) Tryz.func6
    (witness_row_at (enc := enc) (C := Tryz.checked) false (World.laidAll Tryz.prog os LAID) #[.agg #[.slice none 0 0, .slice none 0 0], .string ⟨#[]⟩] (World.laidAll_os _ _ _) (by kernel_rfl) (by kernel_rfl) (by kernel_rfl)
      (OpenSpec.preRow_of_cond 8 hx (by kernel_rfl) (fun k hk => by cases hk) (by kernel_rfl) (laid_met os _))) ?_
  intro W base args ds gs before hval0 hW _ _ _ hL _ _; rw [MakeChecks.laidMetH_plain _ _ _ (by kernel_rfl)] at hL; have hT := tb_of_laid hL; clear hL; have hval : ∀ (j : Nat) t v, Tryz.f6.params[j]? = some t → args[j]? = some v → Value.okWide Tryz.prog W .any base t v := hval0
  have hW' := hW; obtain ⟨p, q, hA0, hV, rfl, hfz, hnd⟩ := hW; have hA : DataW.TrodAll enc Tryz.prog W 0 (fun _ => true) true Tryz.f6.params.toList args.toList ds p := hA0; rw [Tryz.params6] at hA hval; obtain ⟨v0, vs0, d0, ds0, p0, q0, hargs, rfl, rfl, h0, r0⟩ := trodAll_cons hA; obtain ⟨v1, vs1, d1, ds1, p1, q1, rfl, rfl, rfl, h1, r1⟩ := trodAll_cons r0; obtain ⟨rfl, rfl, rfl⟩ := trodAll_nil r1; obtain rfl : args = #[v0, v1] := by cases args; simp_all
  obtain ⟨rfl, rfl⟩ := trodVars_none hV; have k0 := hval 0 25 v0 rfl rfl; have k1 := hval 1 9 v1 rfl rfl; clear hA0 hval0 hval; simp only [List.append_nil] at hW'; have hlt : ∀ x ∈ p0 ++ p1, x.block < W.heap.size := fun x hx => by simpa using hW'.lt x (by simpa using hx)
  have g0 : ∀ W', Below W.heap.size W W' → DataW.Trod enc Tryz.prog W' 0 (fun b => decide (b < W.heap.size)) true 25 v0 d0 p0 := fun W' hn => Below.trod laidO (by kernel_rfl) (of_decide_eq_true (by kernel_rfl)) h0 hn (fun x hx => hlt x (by simp [hx]))
  have g1 : ∀ W', Below W.heap.size W W' → DataW.Trod enc Tryz.prog W' 0 (fun b => decide (b < W.heap.size)) true 9 v1 d1 p1 := fun W' hn => Below.trod laidO (by kernel_rfl) (of_decide_eq_true (by kernel_rfl)) h1 hn (fun x hx => hlt x (by simp [hx]))
  obtain ⟨t0, rfl, R0⟩ := open_work k0 h0; obtain ⟨s1, rfl, rfl, rfl, -⟩ := Go.ChangeMaps.open_string Tryz.underlying9 k1 h1; refine (workLooks_ok W R0 s1 hT).mono fun e W' ⟨he, hb⟩ => ?_
  subst he; exact ⟨_, rfl, _, _, _, [], _, [], hW', trodAll_cons_mk (shut_bool Tryz.underlying4 _) trodAll_mk0, (trodAll_cons_mk (g0 _ hb) (trodAll_cons_mk (g1 _ hb) trodAll_mk0)), rfl, hb.frame _, fun h => by cases h⟩
theorem said : Rows.WorkLooksSaid :=
  OpenClaim.holds_of_cond 6 Tryz.f6 rfl rfl rfl rfl rfl rfl rfl ⟨rfl, rfl, rfl, rfl, rfl⟩ rfl rfl rfl rfl rfl (by kernel_rfl) Tryz.func6 (by kernel_rfl)
    (of_decide_eq_true (by kernel_rfl)) (by unfold Func.isWrapper; first | (rw [if_pos (by decide +kernel)]; kernel_rfl) | (rw [if_neg (by decide +kernel)]; exact ⟨rfl, rfl⟩))
    (fun os started H enc _ F => by rw [OpenClaim.pre_eq_preRow]; exact lifted os started H enc F)
theorem plainP (f : FuncId) (fn : Func) (hf : Tryz.pinned.checked.prog.funcNamed "posthouse/posthouselaw17.WorkLooks" = some f) (hfn : Tryz.pinned.checked.prog.funcs[f]? = some fn) :
    true = Tryz.pinned.checked.prog.looks [] ∧ ∀ (j : Nat) t, fn.params[j]? = some t → Tryz.pinned.checked.prog.wantsStandIn t = false := by
  obtain rfl : f = 6 := Option.some.inj ((show Tryz.prog.funcNamed "posthouse/posthouselaw17.WorkLooks" = some 6 by kernel_rfl).symm.trans hf) |>.symm
  obtain rfl : fn = Tryz.f6 := (Option.some.inj (Tryz.func6.symm.trans hfn)).symm; refine ⟨by kernel_rfl, fun j t ht => ?_⟩; rw [Tryz.params6] at ht; have hm := Array.mem_of_getElem? ht; simp only [List.mem_toArray, List.mem_cons, List.not_mem_nil, or_false] at hm; rcases hm with rfl | rfl <;> exact (show Tryz.prog.wantsStandIn _ = false by kernel_rfl)
/-- The card. -/
theorem card : Rows.WorkLooksCardSaid :=
  Claim7.holds_tied_plain_at .later [] _ _ _ _ said (fun _ h => by cases h) (by kernel_rfl) (fun _ h => by cases h) workLooks_row_tie rfl ⟨rfl, rfl⟩ (by kernel_rfl) rfl plainP (by kernel_rfl)
end Go.Proofs.YtlonokcaddpniaaGreatDoor.holdWorkLooks
namespace Go.Proofs.YtlonokcaddpniaaGreatDoor
theorem workLooksCard_holds : Rows.WorkLooksCardSaid := holdWorkLooks.card
#print axioms workLooksCard_holds
end Go.Proofs.YtlonokcaddpniaaGreatDoor
