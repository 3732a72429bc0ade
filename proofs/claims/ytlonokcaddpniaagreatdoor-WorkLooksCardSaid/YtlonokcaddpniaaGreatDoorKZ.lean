/- The program's reader of values, where it does not fail: 'many', where what read does is given; both, at all depths. Conditions: at most 200 values are left. Written by gen_getZ.py. -/
import Derived.Test.YtlonokcaddpniaaGreatDoorKY
import Derived.Test.YtlonokcaddpniaaGreatDoorKM
set_option linter.unusedSimpArgs false
set_option linter.unusedVariables false
namespace Go.Proofs.YtlonokcaddpniaaGreatDoor
open Go.RowKit
theorem glue_inv {f : Int → List UInt8 → Option (V × Int × List UInt8)} {m : Bool} {q : Nat} {left : Int} {b : List UInt8} {ks : List ByteArray} {l : List V} {z : List ByteArray × List V × Int × List UInt8} (h : glue ks l (rdMany f m (q + 1) left b) = some z) :
    ∃ s b' x l1 b2, (if m then gT 1 255 b = some (s, b') else b = b') ∧ f left b' = some (x, l1, b2) ∧ glue (if m then ks ++ [s] else ks) (l ++ [x]) (rdMany f m q l1 b2) = some z := by
  cases hz : rdMany f m (q + 1) left b with
  | none => rw [hz] at h; cases h
  | some y =>
    unfold rdMany at hz; obtain ⟨⟨s, b'⟩, h1, h2⟩ := bind_inv hz; obtain ⟨⟨x, l1, b2⟩, h3, -⟩ := bind_inv h2; refine ⟨s, b', x, l1, b2, ?_, h3, ?_⟩
    · cases m
      · simp only [Bool.false_eq_true, if_false, Option.some.injEq, Prod.mk.injEq] at h1 ⊢; exact h1.2
      · simpa using h1
    · cases m
      · simp only [Bool.false_eq_true, if_false, Option.some.injEq, Prod.mk.injEq] at h1 ⊢; obtain ⟨-, rfl⟩ := h1; rw [← glue_plain h3]; exact h
      · simp only [if_true] at h1 ⊢; rw [← glue_key h1 h3]; exact h
set_option maxRecDepth 100000 in
set_option maxHeartbeats 12800000 in
theorem pmany_yes (d : Nat) (hR : ReadYes d) : ManyYes d := by
  intro w qb rb vb xb left dp b k ks0 l0 le2 r0 h hqx hx hk hd hd5 hl0 hl1 hL hz; unfold rdM at hz; obtain ⟨⟨size, b2⟩, hg1', hz⟩ := bind_inv hz; dsimp only at hz; obtain ⟨⟨n, b3⟩, hg2', hz⟩ := bind_inv hz; dsimp only at hz; by_cases hc : size ≤ b2.length ∧ n < 200
  rotate_left 1
  · rw [if_neg hc] at hz; cases hz
  rw [if_pos hc] at hz; obtain ⟨⟨ks1, l1, le1, b4⟩, hT0, hz⟩ := bind_inv hz; dsimp only at hz; by_cases hse : b2.length - b4.length = size
  rotate_left 1
  · rw [if_neg hse] at hz; cases hz
  rw [if_pos hse] at hz; simp only [Option.some.injEq, Prod.mk.injEq] at hz; obtain ⟨rfl, rfl, rfl, rfl⟩ := hz; have hdp0 : 0 ≤ dp := by omega
  have hdp1 : dp ≤ 6 := by omega
  have c0 := h.q.at 0 rfl; have ut : ∀ a b : World, Upd (Only vb) a b → Upd (Three qb vb xb) a b := fun a b h => h.mono (fun k hk _ => Or.inr (Or.inl hk))
  have uth := Lib.hid ut; clear ut; obtain ⟨hs32, hL2', -⟩ := gN_lt hg1'; have hL2 : Big b2.length := hL.mono hL2'; have wz : IntKind.u64.wrap (b2.length : Int) = (b2.length : Int) := wrap_u64 _ (by omega) (by have := hL2.le; omega); have hg1 := Lib.hid hg1'; obtain ⟨hn32, hL3', -⟩ := gN_lt hg2'; have hL3 : Big b3.length := hL2.mono hL3'; have hg2 := Lib.hid hg2'; obtain ⟨hsz, hn2⟩ := hc; have hn3 : decide ((n : Int) < 200) = true := decide_eq_true (by omega); have hL32 := Lib.hid hL3'; have hxl := hx.lt; have hwp : IntKind.i64.wrap (dp + 1) = dp + 1 := wrap_i64 _ (by omega) (by omega); have hRh := Lib.hid hR; have hT0h := Lib.hid hT0; have hseh := Lib.hid hse; have hkh := Lib.hid hk; clear hg1' hg2' hR hL3' hL2' hs32 hT0 hse hk; go_enter Tryz.func153, Tryz.ntmps153; go_wp2_with (first | (go_at_call 87; (with_reducible refine (pnum_yes _ qb rb vb left b 4 size 4 b2 h rfl (by unfold Wd; omega) hg1.out hL).mono ?_); rintro e w1 ⟨rfl, p1, hu1⟩; have e1 := p1.q.at 0 rfl) | (go_at_call 87; (with_reducible refine (pnum_yes _ qb rb vb left b2 4 n 4 b3 p1 rfl (by unfold Wd; omega) hg2.out hL2).mono ?_); rintro e w2 ⟨rfl, p2, hu2⟩; have e2 := p2.q.at 0 rfl) | (go_at_call 117; (with_reducible refine (pleft _ qb rb vb left b2 false p1).mono ?_); rintro e _ ⟨rfl, rfl⟩) | (go_at_call 140; (with_reducible refine (vmust_ok _ qb rb vb left b3 p2).mono ?_); rintro e _ ⟨rfl, rfl⟩)); have hM2 := Lib.hid (MSt.start (w0 := w) p2 ((hx.upd hu1 (fun e => by have := h.vq; unfold Only at e; omega)).upd hu2 (fun e => by have := h.vq; unfold Only at e; omega)) ((uth.out _ _ hu1).trans (uth.out _ _ hu2) (fun _ h _ => h)) hqx hxl); clear hx h p1 p2 hu1 hu2 e1 e2 c0; go_loopw [35] (fun s35 wr => ∃ (j : Nat) (kv lv : Value) (ks : List ByteArray) (L : List VT) (lj : Int) (bj : List UInt8), j ≤ n ∧ s35 = .int .u64 j ∧ Hid (MSt w qb rb vb xb k wr lj bj false kv lv ks L) ∧ Hid (L.length = j ∧ ks.length ≤ j) ∧ 0 ≤ lj ∧ lj ≤ 200 ∧ Hid (bj.length ≤ b3.length) ∧ Hid (glue ks (L.map VT.v) (rdMany (rdP d) (k == 168) (n - j) lj bj) = some (ks1, l1, le1, b4))) (fun s35 _ => n - (intOf s35).toNat)
  case atStart => exact ⟨0, _, _, [], [], left, b3, by omega, rfl, hM2, Lib.hid ⟨rfl, Nat.le_refl _⟩, hl0, hl1, Lib.hid (Nat.le_refl _), Lib.hid (by rw [List.map_nil, glue_nil]; exact hT0h.out)⟩
  case round =>
    clear hM2; obtain ⟨j, kv, lv, ks, L, lj, bj, hj, rfl, hMh, hlen, hl0j, hl1j, hbj, hT⟩ := hrel; have hM := hMh.out; obtain ⟨ka, kc, rfl⟩ := own_lenB hM.ko; obtain ⟨la, lc, rfl⟩ := own_lenB hM.lo; have hLj : Big bj.length := hL3.mono hbj.out; have x0 := hM.x.at 0 rfl; by_cases hlt : j < n
    · have h1 : (j : Int) < (n : Int) := by omega
      have hkl := Lib.hid (show ks.length < 200 by have := hlen.out.2; omega); have hLl := Lib.hid (show L.length < 200 by have := hlen.out.1; omega); have hnj : n - j = (n - (j + 1)) + 1 := by omega
      have hT' := hT.out; rw [hnj] at hT'; obtain ⟨s, b', x, le3, b2', hgk, hxx, hT2'⟩ := glue_inv hT'; obtain ⟨ksn, hksn⟩ : ∃ q, (if (k == 168) = true then ks ++ [s] else ks) = q := ⟨_, rfl⟩
      rw [hksn] at hT2'
      have hbl' : b'.length ≤ bj.length := by
        cases hm : (k == 168)
        · rw [hm] at hgk; simp at hgk; rw [hgk]; exact Nat.le_refl _
        · rw [hm] at hgk; exact gT_lt hgk
      have hLb : Big b'.length := hLj.mono hbl'; have hkl2 := Lib.hid (show ksn.length ≤ j + 1 by rw [← hksn]; have := hlen.out.2; split <;> simp <;> omega); have hll := rdP_left _ _ _ _ _ _ hxx; have hlb := Lib.hid (show b2'.length ≤ b3.length by have h1 := rdP_len hxx; have h2 := hbj.out; omega); have hl1' : le3 ≤ 200 := by omega
      have hl0' : 0 ≤ le3 := hll.1; have hrd := Lib.hid (fun (u : World) (p : PR u qb rb vb lj b' false) => hRh.out u qb rb vb lj (dp + 1) b' x le3 b2' p (by omega) (by omega) hl0j hl1j hLb hxx); have hT2 := Lib.hid hT2'; have hgkh := Lib.hid hgk; have hksh := Lib.hid hksn; clear hT' hT2' hgk hksn hxx hll hbl' hnj hT; go_upto_if 41 with fail; go_cut [] from 42 to 55 (fun wc => AfterKey w qb rb vb xb k lj b' false (.slice la L.length lc) ksn L wc)
      case first =>
        have hg := hgkh.out; have hks := hksh.out; rcases hkh.out with rfl | rfl
        · have hg : gT 1 255 bj = some (s, b') := hg; have hks : ks ++ [s] = ksn := hks; subst hks; have htx := Lib.hid (fun (u : World) (p : PR u qb rb vb lj bj false) => ptext_yes u qb rb vb lj bj 1 255 1 255 s b' p rfl rfl (by omega) (by omega) hg hLj); clear hg; go_upto_region 7 with fail; have hM0 := hM.drew; have mx0 := hM.x.at 3 rfl; have mq0 := hM.pr.q.at 0 rfl; have nx0 := hM0.x.at 3 rfl; have nq0 := hM0.pr.q.at 0 rfl; refine wp_region_held_drew (S := fun _ => True) (by kernel_rfl) trivial (fun hHeld => ?_); refine takeY 0 42 rfl rfl (v := ?_) ?_ hHeld ?_
          rotate_left 1
          · (intro w hSw; clear hSw; go_simp; (try with_reducible rfl))
          (try simp only [Act.put, lsT, lsZ, lsS]); refine takeY 1 43 rfl rfl (v := ?_) ?_ hHeld ?_
          rotate_left 1
          · (intro w hSw; clear hSw; go_simp; (try with_reducible rfl))
          (try simp only [Act.put, lsT, lsZ, lsS]); refine takeY 2 44 rfl rfl (v := ?_) ?_ hHeld ?_
          rotate_left 1
          · (intro w hSw; clear hSw; go_simp; (try with_reducible rfl))
          (try simp only [Act.put, lsT, lsZ, lsS]); refine takeY 3 45 rfl rfl (v := ?_) ?_ hHeld ?_
          rotate_left 1
          · (intro w hSw; clear hSw; go_simp; (try with_reducible rfl))
          (try simp only [Act.put, lsT, lsZ, lsS]); refine takeY 5 47 rfl rfl (v := ?_) ?_ hHeld ?_
          rotate_left 1
          · (intro w hSw; clear hSw; go_simp; (try with_reducible rfl))
          (try simp only [Act.put, lsT, lsZ, lsS]); refine takeY 6 48 rfl rfl (v := ?_) ?_ hHeld ?_
          rotate_left 1
          · (intro w hSw; clear hSw; go_simp; (try with_reducible rfl))
          (try simp only [Act.put, lsT, lsZ, lsS]); refine takeY 7 49 rfl rfl (v := ?_) ?_ hHeld ?_
          rotate_left 1
          · (intro w hSw; clear hSw; go_simp; (try with_reducible rfl))
          (try simp only [Act.put, lsT, lsZ, lsS]); refine wpAnyH_ready (rs := [4, 8]) (by kernel_rfl) (by simp) ?_; refine (AllReadyH.cons rfl (fun K hK => ?_) (AllReadyH.cons rfl (fun K hK => ?_) AllReadyH.nil))
          · go_simp; refine hK.out _ _ trivial (fun hHeld => ?_); clear hK K; (try simp only [Act.put, lsT, lsZ, lsS]); refine wpAnyH_ready (rs := [8]) (by kernel_rfl) (by simp) ?_; refine (AllReadyH.cons rfl (fun K hK => ?_) AllReadyH.nil); go_simp; refine hK.out _ _ trivial (fun hHeld => ?_); clear hK K; (try simp only [Act.put, lsT, lsZ, lsS]); refine wpAnyH_ready (rs := [9]) (by kernel_rfl) (by simp) ?_; refine (AllReadyH.cons rfl (fun K hK => ?_) AllReadyH.nil); go_simp; go_at_call 88; refine (htx.out _ hM0.pr).mono ?_; rintro e w1 ⟨rfl, p1, hu1⟩; have hM1 := hM0.moved p1 hu1 (fun i e => Or.inr e); have mx1 := hM1.x.at 3 rfl; have mq1 := hM1.pr.q.at 0 rfl; refine hK.out _ _ trivial (fun hHeld => ?_); clear hK K; (try simp only [Act.put, lsT, lsZ, lsS]); refine wpAnyH_ready (rs := [10]) (by kernel_rfl) (by simp) ?_; refine (AllReadyH.cons rfl (fun K hK => ?_) AllReadyH.nil); go_simp; have hM2 := hM1.alloc (.cells #[.string s] 9); have bs := Blk.new w1 [.string s] 9; have mx2 := hM2.x.at 3 rfl; have mq2 := hM2.pr.q.at 0 rfl; refine hK.out _ _ trivial (fun hHeld => ?_); clear hK K; (try simp only [Act.put, lsT, lsZ, lsS]); refine wpAnyH_ready (rs := [11]) (by kernel_rfl) (by simp) ?_; refine (AllReadyH.cons rfl (fun K hK => ?_) AllReadyH.nil); refine step_of_list rfl (wpList_app1 (base := w.heap.size) rfl (.tmp 46) (.tmp 52) 28 9 rfl elem_strs strEnc_len strEnc_one _ ks rfl hM2.ko w1.heap.size 1 s rfl (fun j u hu => (bs.cell j).trans hu) (by have := hkl.out; omega) (by have := hkl.out; unfold maxLen; omega) (Nat.le_trans hM1.up.size (by simp)) ?_); intro g cap w3 hO3 hgr3 hf3; refine ⟨rfl, ?_⟩; obtain ⟨hx3, hM3⟩ := hM2.key hO3 hgr3 hf3; have my := hx3.at 3 rfl; have mz := hx3.frozen 3; refine hK.out _ _ trivial (fun hHeld => ?_); clear hK K; (try simp only [Act.put, lsT, lsZ, lsS]); refine takeY 12 54 rfl rfl (v := ?_) ?_ hHeld ?_
            rotate_left 1
            · (intro w hSw; clear hSw; go_simp; (try with_reducible rfl))
            (try simp only [Act.put, lsT, lsZ, lsS]); refine takeY 13 55 rfl rfl (v := ?_) ?_ hHeld ?_
            rotate_left 1
            · (intro w hSw; clear hSw; go_simp; (try with_reducible rfl))
            (try simp only [Act.put, lsT, lsZ, lsS]); refine wpAnyH_ready (rs := [14]) (by kernel_rfl) (by simp) ?_; refine (AllReadyH.cons rfl (fun K hK => ?_) AllReadyH.nil); go_simp; refine hK.out _ _ trivial (fun hHeld => ?_); clear hK K; (try simp only [Act.put, lsT, lsZ, lsS]); refine wpAnyH_done (by kernel_rfl) ?_ _; go_wp2_with fail; go_meet; exact ⟨_, hM3⟩
          · go_simp; refine hK.out _ _ trivial (fun hHeld => ?_); clear hK K; (try simp only [Act.put, lsT, lsZ, lsS]); refine wpAnyH_ready (rs := [4, 9]) (by kernel_rfl) (by simp) ?_; refine (AllReadyH.cons rfl (fun K hK => ?_) (AllReadyH.cons rfl (fun K hK => ?_) AllReadyH.nil))
            · go_simp; refine hK.out _ _ trivial (fun hHeld => ?_); clear hK K; (try simp only [Act.put, lsT, lsZ, lsS]); refine wpAnyH_ready (rs := [9]) (by kernel_rfl) (by simp) ?_; refine (AllReadyH.cons rfl (fun K hK => ?_) AllReadyH.nil); go_simp; go_at_call 88; refine (htx.out _ hM0.pr).mono ?_; rintro e w1 ⟨rfl, p1, hu1⟩; have hM1 := hM0.moved p1 hu1 (fun i e => Or.inr e); have mx1 := hM1.x.at 3 rfl; have mq1 := hM1.pr.q.at 0 rfl; refine hK.out _ _ trivial (fun hHeld => ?_); clear hK K; (try simp only [Act.put, lsT, lsZ, lsS]); refine wpAnyH_ready (rs := [10]) (by kernel_rfl) (by simp) ?_; refine (AllReadyH.cons rfl (fun K hK => ?_) AllReadyH.nil); go_simp; have hM2 := hM1.alloc (.cells #[.string s] 9); have bs := Blk.new w1 [.string s] 9; have mx2 := hM2.x.at 3 rfl; have mq2 := hM2.pr.q.at 0 rfl; refine hK.out _ _ trivial (fun hHeld => ?_); clear hK K; (try simp only [Act.put, lsT, lsZ, lsS]); refine wpAnyH_ready (rs := [11]) (by kernel_rfl) (by simp) ?_; refine (AllReadyH.cons rfl (fun K hK => ?_) AllReadyH.nil); refine step_of_list rfl (wpList_app1 (base := w.heap.size) rfl (.tmp 46) (.tmp 52) 28 9 rfl elem_strs strEnc_len strEnc_one _ ks rfl hM2.ko w1.heap.size 1 s rfl (fun j u hu => (bs.cell j).trans hu) (by have := hkl.out; omega) (by have := hkl.out; unfold maxLen; omega) (Nat.le_trans hM1.up.size (by simp)) ?_); intro g cap w3 hO3 hgr3 hf3; refine ⟨rfl, ?_⟩; obtain ⟨hx3, hM3⟩ := hM2.key hO3 hgr3 hf3; have my := hx3.at 3 rfl; have mz := hx3.frozen 3; refine hK.out _ _ trivial (fun hHeld => ?_); clear hK K; (try simp only [Act.put, lsT, lsZ, lsS]); refine takeY 12 54 rfl rfl (v := ?_) ?_ hHeld ?_
              rotate_left 1
              · (intro w hSw; clear hSw; go_simp; (try with_reducible rfl))
              (try simp only [Act.put, lsT, lsZ, lsS]); refine takeY 13 55 rfl rfl (v := ?_) ?_ hHeld ?_
              rotate_left 1
              · (intro w hSw; clear hSw; go_simp; (try with_reducible rfl))
              (try simp only [Act.put, lsT, lsZ, lsS]); refine wpAnyH_ready (rs := [14]) (by kernel_rfl) (by simp) ?_; refine (AllReadyH.cons rfl (fun K hK => ?_) AllReadyH.nil); go_simp; refine hK.out _ _ trivial (fun hHeld => ?_); clear hK K; (try simp only [Act.put, lsT, lsZ, lsS]); refine wpAnyH_done (by kernel_rfl) ?_ _; go_wp2_with fail; go_meet; exact ⟨_, hM3⟩
            · go_simp; go_at_call 88; refine (htx.out _ hM0.pr).mono ?_; rintro e w1 ⟨rfl, p1, hu1⟩; have hM1 := hM0.moved p1 hu1 (fun i e => Or.inr e); have mx1 := hM1.x.at 3 rfl; have mq1 := hM1.pr.q.at 0 rfl; refine hK.out _ _ trivial (fun hHeld => ?_); clear hK K; (try simp only [Act.put, lsT, lsZ, lsS]); refine wpAnyH_ready (rs := [4, 10]) (by kernel_rfl) (by simp) ?_; refine (AllReadyH.cons rfl (fun K hK => ?_) (AllReadyH.cons rfl (fun K hK => ?_) AllReadyH.nil))
              focus
                go_simp; refine hK.out _ _ trivial (fun hHeld => ?_); clear hK K; (try simp only [Act.put, lsT, lsZ, lsS]); refine wpAnyH_ready (rs := [10]) (by kernel_rfl) (by simp) ?_; refine (AllReadyH.cons rfl (fun K hK => ?_) AllReadyH.nil); go_simp; have hM2 := hM1.alloc (.cells #[.string s] 9); have bs := Blk.new w1 [.string s] 9; have mx2 := hM2.x.at 3 rfl; have mq2 := hM2.pr.q.at 0 rfl
              rotate_left 1
              focus
                go_simp; have hM2 := hM1.alloc (.cells #[.string s] 9); have bs := Blk.new w1 [.string s] 9; have mx2 := hM2.x.at 3 rfl; have mq2 := hM2.pr.q.at 0 rfl; refine hK.out _ _ trivial (fun hHeld => ?_); clear hK K; (try simp only [Act.put, lsT, lsZ, lsS]); refine wpAnyH_ready (rs := [4]) (by kernel_rfl) (by simp) ?_; refine (AllReadyH.cons rfl (fun K hK => ?_) AllReadyH.nil); go_simp
              rotate_left 1
              all_goals
                refine hK.out _ _ trivial (fun hHeld => ?_); clear hK K; (try simp only [Act.put, lsT, lsZ, lsS]); refine wpAnyH_ready (rs := [11]) (by kernel_rfl) (by simp) ?_; refine (AllReadyH.cons rfl (fun K hK => ?_) AllReadyH.nil); refine step_of_list rfl (wpList_app1 (base := w.heap.size) rfl (.tmp 46) (.tmp 52) 28 9 rfl elem_strs strEnc_len strEnc_one _ ks rfl hM2.ko w1.heap.size 1 s rfl (fun j u hu => (bs.cell j).trans hu) (by have := hkl.out; omega) (by have := hkl.out; unfold maxLen; omega) (Nat.le_trans hM1.up.size (by simp)) ?_); intro g cap w3 hO3 hgr3 hf3; refine ⟨rfl, ?_⟩; obtain ⟨hx3, hM3⟩ := hM2.key hO3 hgr3 hf3; have my := hx3.at 3 rfl; have mz := hx3.frozen 3; refine hK.out _ _ trivial (fun hHeld => ?_); clear hK K; (try simp only [Act.put, lsT, lsZ, lsS]); refine takeY 12 54 rfl rfl (v := ?_) ?_ hHeld ?_
                rotate_left 1
                · (intro w hSw; clear hSw; go_simp; (try with_reducible rfl))
                (try simp only [Act.put, lsT, lsZ, lsS]); refine takeY 13 55 rfl rfl (v := ?_) ?_ hHeld ?_
                rotate_left 1
                · (intro w hSw; clear hSw; go_simp; (try with_reducible rfl))
                (try simp only [Act.put, lsT, lsZ, lsS]); refine wpAnyH_ready (rs := [14]) (by kernel_rfl) (by simp) ?_; refine (AllReadyH.cons rfl (fun K hK => ?_) AllReadyH.nil); go_simp; refine hK.out _ _ trivial (fun hHeld => ?_); clear hK K; (try simp only [Act.put, lsT, lsZ, lsS]); refine wpAnyH_done (by kernel_rfl) ?_ _; go_wp2_with fail; go_meet; exact ⟨_, hM3⟩
        · have hg : bj = b' := hg; have hks : ks = ksn := hks; subst hg; subst hks; go_wp2_with fail; go_meet; exact ⟨_, hM⟩
      case rest =>
      obtain ⟨kv', hMc⟩ := hcut; clear hM hMh x0; obtain ⟨ka', kc', rfl⟩ := own_lenB hMc.ko; go_upto_region 8 with fail; have hM0 := hMc.drew; have mx0 := hMc.x.at 4 rfl; have mq0 := hMc.pr.q.at 0 rfl; have nx0 := hM0.x.at 4 rfl; have nq0 := hM0.pr.q.at 0 rfl; refine wp_region_held_drew (S := fun _ => True) (by kernel_rfl) trivial (fun hHeld => ?_); refine takeY 0 56 rfl rfl (v := ?_) ?_ hHeld ?_
      rotate_left 1
      · (intro w hSw; clear hSw; go_simp; (try with_reducible rfl))
      (try simp only [Act.put, lsT, lsZ, lsS]); refine takeY 1 57 rfl rfl (v := ?_) ?_ hHeld ?_
      rotate_left 1
      · (intro w hSw; clear hSw; go_simp; (try with_reducible rfl))
      (try simp only [Act.put, lsT, lsZ, lsS]); refine takeY 2 58 rfl rfl (v := ?_) ?_ hHeld ?_
      rotate_left 1
      · (intro w hSw; clear hSw; go_simp; (try with_reducible rfl))
      (try simp only [Act.put, lsT, lsZ, lsS]); refine takeY 4 60 rfl rfl (v := ?_) ?_ hHeld ?_
      rotate_left 1
      · (intro w hSw; clear hSw; go_simp; (try with_reducible rfl))
      (try simp only [Act.put, lsT, lsZ, lsS]); refine takeY 5 61 rfl rfl (v := ?_) ?_ hHeld ?_
      rotate_left 1
      · (intro w hSw; clear hSw; go_simp; (try with_reducible rfl))
      (try simp only [Act.put, lsT, lsZ, lsS]); refine takeY 6 62 rfl rfl (v := ?_) ?_ hHeld ?_
      rotate_left 1
      · (intro w hSw; clear hSw; go_simp; (try with_reducible rfl))
      (try simp only [Act.put, lsT, lsZ, lsS]); refine wpAnyH_ready (rs := [3, 7, 9]) (by kernel_rfl) (by simp) ?_; refine (AllReadyH.cons rfl (fun K hK => ?_) (AllReadyH.cons rfl (fun K hK => ?_) (AllReadyH.cons rfl (fun K hK => ?_) AllReadyH.nil)))
      · go_simp; refine hK.out _ _ trivial (fun hHeld => ?_); clear hK K; (try simp only [Act.put, lsT, lsZ, lsS]); refine takeY 8 64 rfl rfl (v := ?_) ?_ hHeld ?_
        rotate_left 1
        · (intro w hSw; clear hSw; go_simp; (try with_reducible rfl))
        (try simp only [Act.put, lsT, lsZ, lsS]); refine wpAnyH_ready (rs := [7, 9]) (by kernel_rfl) (by simp) ?_; refine (AllReadyH.cons rfl (fun K hK => ?_) (AllReadyH.cons rfl (fun K hK => ?_) AllReadyH.nil))
        focus
          go_simp; go_at_call 139; refine (hrd.out _ hM0.pr).mono ?_; rintro e w1 ⟨t, he, htv, htR, p1, hu1⟩; have hM1 := hM0.moved p1 hu1 (fun i e => e); have ht1 := hM0.tree htR; obtain ⟨tk, tn, ts, ka, kc, la, lc, tks, tl, rfl, -, -, -, -⟩ := htR.open; rw [VT.arg_mk] at he; subst he; have htvh := Lib.hid htv; clear htv; have mx1 := hM1.x.at 4 rfl; have mq1 := hM1.pr.q.at 0 rfl; refine hK.out _ _ trivial (fun hHeld => ?_); clear hK K; (try simp only [Act.put, lsT, lsZ, lsS]); refine wpAnyH_ready (rs := [9]) (by kernel_rfl) (by simp) ?_; refine (AllReadyH.cons rfl (fun K hK => ?_) AllReadyH.nil); go_simp; have hM2 := hM1.alloc (.cells #[.int .u8 0, .int .u64 0, .string ⟨#[]⟩, .slice none 0 0, .slice none 0 0] 31); have bs := Blk.new w1 [.int .u8 0, .int .u64 0, .string ⟨#[]⟩, .slice none 0 0, .slice none 0 0] 31; have ht2 := ht1.pure ((Below.refl w1.heap.size w1).alloc (Nat.le_refl _) (.cells #[.int .u8 0, .int .u64 0, .string ⟨#[]⟩, .slice none 0 0, .slice none 0 0] 31)); have mx2 := hM2.x.at 4 rfl; have mq2 := hM2.pr.q.at 0 rfl; refine hK.out _ _ trivial (fun hHeld => ?_); clear hK K; (try simp only [Act.put, lsT, lsZ, lsS]); refine wpAnyH_ready (rs := [10]) (by kernel_rfl) (by simp) ?_; refine (AllReadyH.cons rfl (fun K hK => ?_) AllReadyH.nil); refine step_of_list rfl (wpList_appOne (base := w.heap.size) rfl (.tmp 59) (.tmp 65) 29 31 rfl elem_val vEnc_len _ L rfl hM2.lo _ 1 VT.zero (by simp [vEnc, VT.zero, VT.k, VT.n, VT.s, VT.kv, VT.lv, Value.oneCell']) rfl (fun j u hu => (bs.cell j).trans hu) (by have := hLl.out; omega) (by have := hLl.out; unfold maxLen; omega) hM2.up.size ?_); intro g cap w3 hO3 hgr3 hf3; refine ⟨rfl, ?_⟩; obtain ⟨hx3, hx4, hM5⟩ := hM2.elem hO3 hgr3 hf3 ht2; obtain ⟨hO4, hM6⟩ := hM2.elem2 hO3 hgr3 hf3 ht2
        rotate_left 1
        focus
          go_simp; have hM1 := hM0.alloc (.cells #[.int .u8 0, .int .u64 0, .string ⟨#[]⟩, .slice none 0 0, .slice none 0 0] 31); have bs := Blk.new wc.drew [.int .u8 0, .int .u64 0, .string ⟨#[]⟩, .slice none 0 0, .slice none 0 0] 31; have hMa := hMc.alloc (.cells #[.int .u8 0, .int .u64 0, .string ⟨#[]⟩, .slice none 0 0, .slice none 0 0] 31); have ma := hMa.x.at 4 rfl; have mb := hMa.pr.q.at 0 rfl; have mx1 := hM1.x.at 4 rfl; have mq1 := hM1.pr.q.at 0 rfl; refine hK.out _ _ trivial (fun hHeld => ?_); clear hK K; (try simp only [Act.put, lsT, lsZ, lsS]); refine wpAnyH_ready (rs := [7]) (by kernel_rfl) (by simp) ?_; refine (AllReadyH.cons rfl (fun K hK => ?_) AllReadyH.nil); go_simp; go_at_call 139; refine (hrd.out _ hM1.pr).mono ?_; rintro e w1 ⟨t, he, htv, htR, p1, hu1⟩; have hM2 := hM1.moved p1 hu1 (fun i e => e); have ht1 := hM1.tree htR; obtain ⟨tk, tn, ts, ka, kc, la, lc, tks, tl, rfl, -, -, -, -⟩ := htR.open; rw [VT.arg_mk] at he; subst he; have htvh := Lib.hid htv; clear htv; have mx2 := hM2.x.at 4 rfl; have mq2 := hM2.pr.q.at 0 rfl; refine hK.out _ _ trivial (fun hHeld => ?_); clear hK K; (try simp only [Act.put, lsT, lsZ, lsS]); refine wpAnyH_ready (rs := [10]) (by kernel_rfl) (by simp) ?_; refine (AllReadyH.cons rfl (fun K hK => ?_) AllReadyH.nil); have bs1 := bs.upd hu1 (fun e => by have h1 := hM0.lt; have h2 := hM0.xl; have h3 := hM0.up.size; have h4 := hM0.pr.vq; unfold Two at e; omega); refine step_of_list rfl (wpList_appOne (base := w.heap.size) rfl (.tmp 59) (.tmp 65) 29 31 rfl elem_val vEnc_len _ L rfl hM2.lo _ 1 VT.zero (by simp [vEnc, VT.zero, VT.k, VT.n, VT.s, VT.kv, VT.lv, Value.oneCell']) rfl (fun j u hu => (bs1.cell j).trans hu) (by have := hLl.out; omega) (by have := hLl.out; unfold maxLen; omega) hM2.up.size ?_); intro g cap w3 hO3 hgr3 hf3; refine ⟨rfl, ?_⟩; obtain ⟨hx3, hx4, hM5⟩ := hM2.elem hO3 hgr3 hf3 ht1; obtain ⟨hO4, hM6⟩ := hM2.elem2 hO3 hgr3 hf3 ht1
        rotate_left 1
        all_goals
          have r0 := hO3.cell vEnc_len L.length (by simp) 0 _ (by rw [List.getElem_append_right (Nat.le_refl _)]; simp [vEnc]; rfl); have r1 := hO3.cell vEnc_len L.length (by simp) 1 _ (by rw [List.getElem_append_right (Nat.le_refl _)]; simp [vEnc]; rfl); have r2 := hO3.cell vEnc_len L.length (by simp) 2 _ (by rw [List.getElem_append_right (Nat.le_refl _)]; simp [vEnc]; rfl); have r3 := hO3.cell vEnc_len L.length (by simp) 3 _ (by rw [List.getElem_append_right (Nat.le_refl _)]; simp [vEnc]; rfl); have r4 := hO3.cell vEnc_len L.length (by simp) 4 _ (by rw [List.getElem_append_right (Nat.le_refl _)]; simp [vEnc]; rfl); have rr0 := hO4.cell vEnc_len L.length (by simp) 0 _ (by rw [List.getElem_append_right (Nat.le_refl _)]; simp [vEnc]; rfl); have rr1 := hO4.cell vEnc_len L.length (by simp) 1 _ (by rw [List.getElem_append_right (Nat.le_refl _)]; simp [vEnc]; rfl); have rr2 := hO4.cell vEnc_len L.length (by simp) 2 _ (by rw [List.getElem_append_right (Nat.le_refl _)]; simp [vEnc]; rfl); have rr3 := hO4.cell vEnc_len L.length (by simp) 3 _ (by rw [List.getElem_append_right (Nat.le_refl _)]; simp [vEnc]; rfl); have rr4 := hO4.cell vEnc_len L.length (by simp) 4 _ (by rw [List.getElem_append_right (Nat.le_refl _)]; simp [vEnc]; rfl); rw [Nat.add_zero] at r0 rr0; have z0 := hO3.frozen (L.length * 5); have z1 := hO3.frozen (L.length * 5 + 1); have z2 := hO3.frozen (L.length * 5 + 2); have z3 := hO3.frozen (L.length * 5 + 3); have z4 := hO3.frozen (L.length * 5 + 4); have zz0 := hO4.frozen (L.length * 5); have zz1 := hO4.frozen (L.length * 5 + 1); have zz2 := hO4.frozen (L.length * 5 + 2); have zz3 := hO4.frozen (L.length * 5 + 3); have zz4 := hO4.frozen (L.length * 5 + 4); have my0 := hx3.at 4 rfl; have mz0 := hx3.frozen 4; have hl1x : (L.length : Int) < (L.length : Int) + 1 := by omega
          have my := hx4.at 4 rfl; have mz := hx4.frozen 4; simp only [VT.k, VT.n, VT.s, VT.kv, VT.lv] at my mz; refine hK.out _ _ trivial (fun hHeld => ?_); clear hK K; (try simp only [Act.put, lsT, lsZ, lsS]); refine takeY 11 67 rfl rfl (v := ?_) ?_ hHeld ?_
          rotate_left 1
          · (intro w hSw; clear hSw; go_simp; (try with_reducible rfl))
          (try simp only [Act.put, lsT, lsZ, lsS]); refine takeY 13 68 rfl rfl (v := ?_) ?_ hHeld ?_
          rotate_left 1
          · (intro w hSw; clear hSw; go_simp; (try with_reducible rfl))
          (try simp only [Act.put, lsT, lsZ, lsS]); refine takeY 14 69 rfl rfl (v := ?_) ?_ hHeld ?_
          rotate_left 1
          · (intro w hSw; clear hSw; go_simp; (try with_reducible rfl))
          (try simp only [Act.put, lsT, lsZ, lsS]); refine wpAnyH_ready (rs := [12, 15]) (by kernel_rfl) (by simp) ?_; refine (AllReadyH.cons rfl (fun K hK => ?_) (AllReadyH.cons rfl (fun K hK => ?_) AllReadyH.nil))
          · go_simp; refine hK.out _ _ trivial (fun hHeld => ?_); clear hK K; (try simp only [Act.put, lsT, lsZ, lsS]); refine wpAnyH_ready (rs := [15]) (by kernel_rfl) (by simp) ?_; refine (AllReadyH.cons rfl (fun K hK => ?_) AllReadyH.nil); go_simp; refine hK.out _ _ trivial (fun hHeld => ?_); clear hK K; (try simp only [Act.put, lsT, lsZ, lsS]); refine wpAnyH_done (by kernel_rfl) ?_ _; go_wp2; go_roundw
            case rel => exact ⟨j + 1, _, _, _, _, le3, b2', by omega, by go_num, Lib.hid hM5, Lib.hid ⟨by have := hlen.out.1; simp; omega, by have := hkl2.out; omega⟩, hl0', hl1', hlb, Lib.hid (by rw [List.map_append, ← hT2.out, ← htvh.out]; rfl)⟩
            case measure => simp [intOf]; omega
          · go_simp; refine hK.out _ _ trivial (fun hHeld => ?_); clear hK K; (try simp only [Act.put, lsT, lsZ, lsS]); refine wpAnyH_ready (rs := [12]) (by kernel_rfl) (by simp) ?_; refine (AllReadyH.cons rfl (fun K hK => ?_) AllReadyH.nil); go_simp; refine hK.out _ _ trivial (fun hHeld => ?_); clear hK K; (try simp only [Act.put, lsT, lsZ, lsS]); refine wpAnyH_done (by kernel_rfl) ?_ _; go_wp2; go_roundw
            case rel => exact ⟨j + 1, _, _, _, _, le3, b2', by omega, by go_num, Lib.hid hM6, Lib.hid ⟨by have := hlen.out.1; simp; omega, by have := hkl2.out; omega⟩, hl0', hl1', hlb, Lib.hid (by rw [List.map_append, ← hT2.out, ← htvh.out]; rfl)⟩
            case measure => simp [intOf]; omega
      · go_simp; go_at_call 139; refine (hrd.out _ hM0.pr).mono ?_; rintro e w1 ⟨t, he, htv, htR, p1, hu1⟩; have hM1 := hM0.moved p1 hu1 (fun i e => e); have ht1 := hM0.tree htR; obtain ⟨tk, tn, ts, ka, kc, la, lc, tks, tl, rfl, -, -, -, -⟩ := htR.open; rw [VT.arg_mk] at he; subst he; have htvh := Lib.hid htv; clear htv; have mx1 := hM1.x.at 4 rfl; have mq1 := hM1.pr.q.at 0 rfl; refine hK.out _ _ trivial (fun hHeld => ?_); clear hK K; (try simp only [Act.put, lsT, lsZ, lsS]); refine wpAnyH_ready (rs := [3, 9]) (by kernel_rfl) (by simp) ?_; refine (AllReadyH.cons rfl (fun K hK => ?_) (AllReadyH.cons rfl (fun K hK => ?_) AllReadyH.nil))
        focus
          go_simp; refine hK.out _ _ trivial (fun hHeld => ?_); clear hK K; (try simp only [Act.put, lsT, lsZ, lsS]); refine takeY 8 64 rfl rfl (v := ?_) ?_ hHeld ?_
          rotate_left 1
          · (intro w hSw; clear hSw; go_simp; (try with_reducible rfl))
          (try simp only [Act.put, lsT, lsZ, lsS]); refine wpAnyH_ready (rs := [9]) (by kernel_rfl) (by simp) ?_; refine (AllReadyH.cons rfl (fun K hK => ?_) AllReadyH.nil); go_simp; have hM2 := hM1.alloc (.cells #[.int .u8 0, .int .u64 0, .string ⟨#[]⟩, .slice none 0 0, .slice none 0 0] 31); have bs := Blk.new w1 [.int .u8 0, .int .u64 0, .string ⟨#[]⟩, .slice none 0 0, .slice none 0 0] 31; have ht2 := ht1.pure ((Below.refl w1.heap.size w1).alloc (Nat.le_refl _) (.cells #[.int .u8 0, .int .u64 0, .string ⟨#[]⟩, .slice none 0 0, .slice none 0 0] 31)); have mx2 := hM2.x.at 4 rfl; have mq2 := hM2.pr.q.at 0 rfl; refine hK.out _ _ trivial (fun hHeld => ?_); clear hK K
        rotate_left 1
        focus
          go_simp; have hM2 := hM1.alloc (.cells #[.int .u8 0, .int .u64 0, .string ⟨#[]⟩, .slice none 0 0, .slice none 0 0] 31); have bs := Blk.new w1 [.int .u8 0, .int .u64 0, .string ⟨#[]⟩, .slice none 0 0, .slice none 0 0] 31; have ht2 := ht1.pure ((Below.refl w1.heap.size w1).alloc (Nat.le_refl _) (.cells #[.int .u8 0, .int .u64 0, .string ⟨#[]⟩, .slice none 0 0, .slice none 0 0] 31)); have mx2 := hM2.x.at 4 rfl; have mq2 := hM2.pr.q.at 0 rfl; refine hK.out _ _ trivial (fun hHeld => ?_); clear hK K; (try simp only [Act.put, lsT, lsZ, lsS]); refine wpAnyH_ready (rs := [3]) (by kernel_rfl) (by simp) ?_; refine (AllReadyH.cons rfl (fun K hK => ?_) AllReadyH.nil); go_simp; refine hK.out _ _ trivial (fun hHeld => ?_); clear hK K; (try simp only [Act.put, lsT, lsZ, lsS]); refine takeY 8 64 rfl rfl (v := ?_) ?_ hHeld ?_
          rotate_left 1
          · (intro w hSw; clear hSw; go_simp; (try with_reducible rfl))
        rotate_left 1
        all_goals
          (try simp only [Act.put, lsT, lsZ, lsS]); refine wpAnyH_ready (rs := [10]) (by kernel_rfl) (by simp) ?_; refine (AllReadyH.cons rfl (fun K hK => ?_) AllReadyH.nil); refine step_of_list rfl (wpList_appOne (base := w.heap.size) rfl (.tmp 59) (.tmp 65) 29 31 rfl elem_val vEnc_len _ L rfl hM2.lo _ 1 VT.zero (by simp [vEnc, VT.zero, VT.k, VT.n, VT.s, VT.kv, VT.lv, Value.oneCell']) rfl (fun j u hu => (bs.cell j).trans hu) (by have := hLl.out; omega) (by have := hLl.out; unfold maxLen; omega) hM2.up.size ?_); intro g cap w3 hO3 hgr3 hf3; refine ⟨rfl, ?_⟩; obtain ⟨hx3, hx4, hM5⟩ := hM2.elem hO3 hgr3 hf3 ht2; obtain ⟨hO4, hM6⟩ := hM2.elem2 hO3 hgr3 hf3 ht2; have r0 := hO3.cell vEnc_len L.length (by simp) 0 _ (by rw [List.getElem_append_right (Nat.le_refl _)]; simp [vEnc]; rfl); have r1 := hO3.cell vEnc_len L.length (by simp) 1 _ (by rw [List.getElem_append_right (Nat.le_refl _)]; simp [vEnc]; rfl); have r2 := hO3.cell vEnc_len L.length (by simp) 2 _ (by rw [List.getElem_append_right (Nat.le_refl _)]; simp [vEnc]; rfl); have r3 := hO3.cell vEnc_len L.length (by simp) 3 _ (by rw [List.getElem_append_right (Nat.le_refl _)]; simp [vEnc]; rfl); have r4 := hO3.cell vEnc_len L.length (by simp) 4 _ (by rw [List.getElem_append_right (Nat.le_refl _)]; simp [vEnc]; rfl); have rr0 := hO4.cell vEnc_len L.length (by simp) 0 _ (by rw [List.getElem_append_right (Nat.le_refl _)]; simp [vEnc]; rfl); have rr1 := hO4.cell vEnc_len L.length (by simp) 1 _ (by rw [List.getElem_append_right (Nat.le_refl _)]; simp [vEnc]; rfl); have rr2 := hO4.cell vEnc_len L.length (by simp) 2 _ (by rw [List.getElem_append_right (Nat.le_refl _)]; simp [vEnc]; rfl); have rr3 := hO4.cell vEnc_len L.length (by simp) 3 _ (by rw [List.getElem_append_right (Nat.le_refl _)]; simp [vEnc]; rfl); have rr4 := hO4.cell vEnc_len L.length (by simp) 4 _ (by rw [List.getElem_append_right (Nat.le_refl _)]; simp [vEnc]; rfl); rw [Nat.add_zero] at r0 rr0; have z0 := hO3.frozen (L.length * 5); have z1 := hO3.frozen (L.length * 5 + 1); have z2 := hO3.frozen (L.length * 5 + 2); have z3 := hO3.frozen (L.length * 5 + 3); have z4 := hO3.frozen (L.length * 5 + 4); have zz0 := hO4.frozen (L.length * 5); have zz1 := hO4.frozen (L.length * 5 + 1); have zz2 := hO4.frozen (L.length * 5 + 2); have zz3 := hO4.frozen (L.length * 5 + 3); have zz4 := hO4.frozen (L.length * 5 + 4); have my0 := hx3.at 4 rfl; have mz0 := hx3.frozen 4; have hl1x : (L.length : Int) < (L.length : Int) + 1 := by omega
          have my := hx4.at 4 rfl; have mz := hx4.frozen 4; simp only [VT.k, VT.n, VT.s, VT.kv, VT.lv] at my mz; refine hK.out _ _ trivial (fun hHeld => ?_); clear hK K; (try simp only [Act.put, lsT, lsZ, lsS]); refine takeY 11 67 rfl rfl (v := ?_) ?_ hHeld ?_
          rotate_left 1
          · (intro w hSw; clear hSw; go_simp; (try with_reducible rfl))
          (try simp only [Act.put, lsT, lsZ, lsS]); refine takeY 13 68 rfl rfl (v := ?_) ?_ hHeld ?_
          rotate_left 1
          · (intro w hSw; clear hSw; go_simp; (try with_reducible rfl))
          (try simp only [Act.put, lsT, lsZ, lsS]); refine takeY 14 69 rfl rfl (v := ?_) ?_ hHeld ?_
          rotate_left 1
          · (intro w hSw; clear hSw; go_simp; (try with_reducible rfl))
          (try simp only [Act.put, lsT, lsZ, lsS]); refine wpAnyH_ready (rs := [12, 15]) (by kernel_rfl) (by simp) ?_; refine (AllReadyH.cons rfl (fun K hK => ?_) (AllReadyH.cons rfl (fun K hK => ?_) AllReadyH.nil))
          · go_simp; refine hK.out _ _ trivial (fun hHeld => ?_); clear hK K; (try simp only [Act.put, lsT, lsZ, lsS]); refine wpAnyH_ready (rs := [15]) (by kernel_rfl) (by simp) ?_; refine (AllReadyH.cons rfl (fun K hK => ?_) AllReadyH.nil); go_simp; refine hK.out _ _ trivial (fun hHeld => ?_); clear hK K; (try simp only [Act.put, lsT, lsZ, lsS]); refine wpAnyH_done (by kernel_rfl) ?_ _; go_wp2; go_roundw
            case rel => exact ⟨j + 1, _, _, _, _, le3, b2', by omega, by go_num, Lib.hid hM5, Lib.hid ⟨by have := hlen.out.1; simp; omega, by have := hkl2.out; omega⟩, hl0', hl1', hlb, Lib.hid (by rw [List.map_append, ← hT2.out, ← htvh.out]; rfl)⟩
            case measure => simp [intOf]; omega
          · go_simp; refine hK.out _ _ trivial (fun hHeld => ?_); clear hK K; (try simp only [Act.put, lsT, lsZ, lsS]); refine wpAnyH_ready (rs := [12]) (by kernel_rfl) (by simp) ?_; refine (AllReadyH.cons rfl (fun K hK => ?_) AllReadyH.nil); go_simp; refine hK.out _ _ trivial (fun hHeld => ?_); clear hK K; (try simp only [Act.put, lsT, lsZ, lsS]); refine wpAnyH_done (by kernel_rfl) ?_ _; go_wp2; go_roundw
            case rel => exact ⟨j + 1, _, _, _, _, le3, b2', by omega, by go_num, Lib.hid hM6, Lib.hid ⟨by have := hlen.out.1; simp; omega, by have := hkl2.out; omega⟩, hl0', hl1', hlb, Lib.hid (by rw [List.map_append, ← hT2.out, ← htvh.out]; rfl)⟩
            case measure => simp [intOf]; omega
      · go_simp; have hM1 := hM0.alloc (.cells #[.int .u8 0, .int .u64 0, .string ⟨#[]⟩, .slice none 0 0, .slice none 0 0] 31); have bs := Blk.new wc.drew [.int .u8 0, .int .u64 0, .string ⟨#[]⟩, .slice none 0 0, .slice none 0 0] 31; have hMa := hMc.alloc (.cells #[.int .u8 0, .int .u64 0, .string ⟨#[]⟩, .slice none 0 0, .slice none 0 0] 31); have ma := hMa.x.at 4 rfl; have mb := hMa.pr.q.at 0 rfl; have mx1 := hM1.x.at 4 rfl; have mq1 := hM1.pr.q.at 0 rfl; refine hK.out _ _ trivial (fun hHeld => ?_); clear hK K; (try simp only [Act.put, lsT, lsZ, lsS]); refine wpAnyH_ready (rs := [3, 7]) (by kernel_rfl) (by simp) ?_; refine (AllReadyH.cons rfl (fun K hK => ?_) (AllReadyH.cons rfl (fun K hK => ?_) AllReadyH.nil))
        focus
          go_simp; refine hK.out _ _ trivial (fun hHeld => ?_); clear hK K; (try simp only [Act.put, lsT, lsZ, lsS]); refine takeY 8 64 rfl rfl (v := ?_) ?_ hHeld ?_
          rotate_left 1
          · (intro w hSw; clear hSw; go_simp; (try with_reducible rfl))
          (try simp only [Act.put, lsT, lsZ, lsS]); refine wpAnyH_ready (rs := [7]) (by kernel_rfl) (by simp) ?_; refine (AllReadyH.cons rfl (fun K hK => ?_) AllReadyH.nil); go_simp; go_at_call 139; refine (hrd.out _ hM1.pr).mono ?_; rintro e w1 ⟨t, he, htv, htR, p1, hu1⟩; have hM2 := hM1.moved p1 hu1 (fun i e => e); have ht1 := hM1.tree htR; obtain ⟨tk, tn, ts, ka, kc, la, lc, tks, tl, rfl, -, -, -, -⟩ := htR.open; rw [VT.arg_mk] at he; subst he; have htvh := Lib.hid htv; clear htv; have mx2 := hM2.x.at 4 rfl; have mq2 := hM2.pr.q.at 0 rfl; refine hK.out _ _ trivial (fun hHeld => ?_); clear hK K
        rotate_left 1
        focus
          go_simp; go_at_call 139; refine (hrd.out _ hM1.pr).mono ?_; rintro e w1 ⟨t, he, htv, htR, p1, hu1⟩; have hM2 := hM1.moved p1 hu1 (fun i e => e); have ht1 := hM1.tree htR; obtain ⟨tk, tn, ts, ka, kc, la, lc, tks, tl, rfl, -, -, -, -⟩ := htR.open; rw [VT.arg_mk] at he; subst he; have htvh := Lib.hid htv; clear htv; have mx2 := hM2.x.at 4 rfl; have mq2 := hM2.pr.q.at 0 rfl; refine hK.out _ _ trivial (fun hHeld => ?_); clear hK K; (try simp only [Act.put, lsT, lsZ, lsS]); refine wpAnyH_ready (rs := [3]) (by kernel_rfl) (by simp) ?_; refine (AllReadyH.cons rfl (fun K hK => ?_) AllReadyH.nil); go_simp; refine hK.out _ _ trivial (fun hHeld => ?_); clear hK K; (try simp only [Act.put, lsT, lsZ, lsS]); refine takeY 8 64 rfl rfl (v := ?_) ?_ hHeld ?_
          rotate_left 1
          · (intro w hSw; clear hSw; go_simp; (try with_reducible rfl))
        rotate_left 1
        all_goals
          (try simp only [Act.put, lsT, lsZ, lsS]); refine wpAnyH_ready (rs := [10]) (by kernel_rfl) (by simp) ?_; refine (AllReadyH.cons rfl (fun K hK => ?_) AllReadyH.nil); have bs1 := bs.upd hu1 (fun e => by have h1 := hM0.lt; have h2 := hM0.xl; have h3 := hM0.up.size; have h4 := hM0.pr.vq; unfold Two at e; omega); refine step_of_list rfl (wpList_appOne (base := w.heap.size) rfl (.tmp 59) (.tmp 65) 29 31 rfl elem_val vEnc_len _ L rfl hM2.lo _ 1 VT.zero (by simp [vEnc, VT.zero, VT.k, VT.n, VT.s, VT.kv, VT.lv, Value.oneCell']) rfl (fun j u hu => (bs1.cell j).trans hu) (by have := hLl.out; omega) (by have := hLl.out; unfold maxLen; omega) hM2.up.size ?_); intro g cap w3 hO3 hgr3 hf3; refine ⟨rfl, ?_⟩; obtain ⟨hx3, hx4, hM5⟩ := hM2.elem hO3 hgr3 hf3 ht1; obtain ⟨hO4, hM6⟩ := hM2.elem2 hO3 hgr3 hf3 ht1; have r0 := hO3.cell vEnc_len L.length (by simp) 0 _ (by rw [List.getElem_append_right (Nat.le_refl _)]; simp [vEnc]; rfl); have r1 := hO3.cell vEnc_len L.length (by simp) 1 _ (by rw [List.getElem_append_right (Nat.le_refl _)]; simp [vEnc]; rfl); have r2 := hO3.cell vEnc_len L.length (by simp) 2 _ (by rw [List.getElem_append_right (Nat.le_refl _)]; simp [vEnc]; rfl); have r3 := hO3.cell vEnc_len L.length (by simp) 3 _ (by rw [List.getElem_append_right (Nat.le_refl _)]; simp [vEnc]; rfl); have r4 := hO3.cell vEnc_len L.length (by simp) 4 _ (by rw [List.getElem_append_right (Nat.le_refl _)]; simp [vEnc]; rfl); have rr0 := hO4.cell vEnc_len L.length (by simp) 0 _ (by rw [List.getElem_append_right (Nat.le_refl _)]; simp [vEnc]; rfl); have rr1 := hO4.cell vEnc_len L.length (by simp) 1 _ (by rw [List.getElem_append_right (Nat.le_refl _)]; simp [vEnc]; rfl); have rr2 := hO4.cell vEnc_len L.length (by simp) 2 _ (by rw [List.getElem_append_right (Nat.le_refl _)]; simp [vEnc]; rfl); have rr3 := hO4.cell vEnc_len L.length (by simp) 3 _ (by rw [List.getElem_append_right (Nat.le_refl _)]; simp [vEnc]; rfl); have rr4 := hO4.cell vEnc_len L.length (by simp) 4 _ (by rw [List.getElem_append_right (Nat.le_refl _)]; simp [vEnc]; rfl); rw [Nat.add_zero] at r0 rr0; have z0 := hO3.frozen (L.length * 5); have z1 := hO3.frozen (L.length * 5 + 1); have z2 := hO3.frozen (L.length * 5 + 2); have z3 := hO3.frozen (L.length * 5 + 3); have z4 := hO3.frozen (L.length * 5 + 4); have zz0 := hO4.frozen (L.length * 5); have zz1 := hO4.frozen (L.length * 5 + 1); have zz2 := hO4.frozen (L.length * 5 + 2); have zz3 := hO4.frozen (L.length * 5 + 3); have zz4 := hO4.frozen (L.length * 5 + 4); have my0 := hx3.at 4 rfl; have mz0 := hx3.frozen 4; have hl1x : (L.length : Int) < (L.length : Int) + 1 := by omega
          have my := hx4.at 4 rfl; have mz := hx4.frozen 4; simp only [VT.k, VT.n, VT.s, VT.kv, VT.lv] at my mz; refine hK.out _ _ trivial (fun hHeld => ?_); clear hK K; (try simp only [Act.put, lsT, lsZ, lsS]); refine takeY 11 67 rfl rfl (v := ?_) ?_ hHeld ?_
          rotate_left 1
          · (intro w hSw; clear hSw; go_simp; (try with_reducible rfl))
          (try simp only [Act.put, lsT, lsZ, lsS]); refine takeY 13 68 rfl rfl (v := ?_) ?_ hHeld ?_
          rotate_left 1
          · (intro w hSw; clear hSw; go_simp; (try with_reducible rfl))
          (try simp only [Act.put, lsT, lsZ, lsS]); refine takeY 14 69 rfl rfl (v := ?_) ?_ hHeld ?_
          rotate_left 1
          · (intro w hSw; clear hSw; go_simp; (try with_reducible rfl))
          (try simp only [Act.put, lsT, lsZ, lsS]); refine wpAnyH_ready (rs := [12, 15]) (by kernel_rfl) (by simp) ?_; refine (AllReadyH.cons rfl (fun K hK => ?_) (AllReadyH.cons rfl (fun K hK => ?_) AllReadyH.nil))
          · go_simp; refine hK.out _ _ trivial (fun hHeld => ?_); clear hK K; (try simp only [Act.put, lsT, lsZ, lsS]); refine wpAnyH_ready (rs := [15]) (by kernel_rfl) (by simp) ?_; refine (AllReadyH.cons rfl (fun K hK => ?_) AllReadyH.nil); go_simp; refine hK.out _ _ trivial (fun hHeld => ?_); clear hK K; (try simp only [Act.put, lsT, lsZ, lsS]); refine wpAnyH_done (by kernel_rfl) ?_ _; go_wp2; go_roundw
            case rel => exact ⟨j + 1, _, _, _, _, le3, b2', by omega, by go_num, Lib.hid hM5, Lib.hid ⟨by have := hlen.out.1; simp; omega, by have := hkl2.out; omega⟩, hl0', hl1', hlb, Lib.hid (by rw [List.map_append, ← hT2.out, ← htvh.out]; rfl)⟩
            case measure => simp [intOf]; omega
          · go_simp; refine hK.out _ _ trivial (fun hHeld => ?_); clear hK K; (try simp only [Act.put, lsT, lsZ, lsS]); refine wpAnyH_ready (rs := [12]) (by kernel_rfl) (by simp) ?_; refine (AllReadyH.cons rfl (fun K hK => ?_) AllReadyH.nil); go_simp; refine hK.out _ _ trivial (fun hHeld => ?_); clear hK K; (try simp only [Act.put, lsT, lsZ, lsS]); refine wpAnyH_done (by kernel_rfl) ?_ _; go_wp2; go_roundw
            case rel => exact ⟨j + 1, _, _, _, _, le3, b2', by omega, by go_num, Lib.hid hM6, Lib.hid ⟨by have := hlen.out.1; simp; omega, by have := hkl2.out; omega⟩, hl0', hl1', hlb, Lib.hid (by rw [List.map_append, ← hT2.out, ← htvh.out]; rfl)⟩
            case measure => simp [intOf]; omega
    · obtain rfl : j = n := by omega
      have hfin := hT.out; rw [Nat.sub_self, glue_end] at hfin; simp only [Option.some.injEq, Prod.mk.injEq] at hfin; obtain ⟨rfl, rfl, rfl, rfl⟩ := hfin; have q0 := hM.pr.q.at 0 rfl; have hb1 := hbj.out; have hb2 := hL32.out; have wy : IntKind.u64.wrap ((b2.length : Int) - (bj.length : Int)) = (b2.length : Int) - (bj.length : Int) := wrap_u64 _ (by omega) (by have := hL2.le; omega); have hpr := Lib.hid hM.pr; have hMz := Lib.hid hM; have hb2L := Lib.hid hL2.le; clear hM hMh hbj hT hT0h hL2 hL3 hLj; have hs1 : ((b2.length : Int) - (bj.length : Int) == (size : Int)) = true := by rw [beq_iff_eq]; have := hseh.out; omega
      have hb3 : (bj.length : Int) ≤ (b2.length : Int) := by omega
      have hb4 : (b2.length : Int) ≤ 70368744177664 := by have := hb2L.out; omega
      go_wp2_with (first | (go_at_call 117; (with_reducible refine (pleft _ qb rb vb lj bj false hpr.out).mono ?_); rintro e _ ⟨rfl, rfl⟩) | (go_at_call 140; (with_reducible refine (vmust_ok _ qb rb vb lj bj hpr.out).mono ?_); rintro e _ ⟨rfl, rfl⟩)); go_end0; have hM := hMz.out; exact ⟨_, _, L, rfl, hM.x, hM.ko, hM.lo, rfl, fun x hx => (hM.rd x hx).weaken (fun i _ hi => hi.1), hM.pr, hM.up⟩
theorem pread_yall : ∀ d, ReadYes d
  | 0 => pread_yes 0 (fun d' h => by omega)
  | d + 1 => pread_yes (d + 1) (fun d' h => by obtain rfl : d = d' := by omega
                                               exact pmany_yes d (pread_yall d))
end Go.Proofs.YtlonokcaddpniaaGreatDoor
