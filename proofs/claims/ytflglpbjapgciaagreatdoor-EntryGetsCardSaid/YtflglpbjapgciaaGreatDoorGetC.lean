/- The program's reader of values: 'many', where what read does is given. Conditions: at most 200 values are left. Written by gen_getC.py. -/
import Derived.Test.YtflglpbjapgciaaGreatDoorKM
import Derived.Deep.CutRange
set_option linter.unusedSimpArgs false
set_option linter.unusedVariables false
namespace Go.Proofs.YtflglpbjapgciaaGreatDoor
open Go.RowKit
/-- What the whole reading is, by what the rows' reading is. -/
def fin (b2 : List UInt8) (size : Nat) (o : Option (List ByteArray × List V × Int × List UInt8)) : Option (List ByteArray × List V × Int × List UInt8) := o.bind fun z => if b2.length - z.2.2.2.length = size then some z else none
theorem rdM_fin {f : Int → List UInt8 → Option (V × Int × List UInt8)} {m : Bool} {left : Int} {b1 b2 b3 : List UInt8} {size n : Nat} (h1 : gN 4 b1 = some (size, b2)) (h2 : gN 4 b2 = some (n, b3)) (h3 : size ≤ b2.length) (h4 : n < 200) : rdM f m left b1 = fin b2 size (rdMany f m n left b3) := by
  unfold rdM; rw [h1, Option.bind_some]; dsimp only; rw [h2, Option.bind_some]; dsimp only; rw [if_pos ⟨h3, h4⟩]; rfl
theorem MSt.tree {w0 w w' : World} {qb rb vb xb : Nat} {k left : Int} {b : List UInt8} {bad : Bool} {kv lv : Value} {ks : List ByteArray} {L : List VT} {t : VT} (h : MSt w0 qb rb vb xb k w left b bad kv lv ks L) (ht : Rd (fun i => w.heap.size ≤ i) w' t) : Rd (MP w0.heap.size kv lv) w' t :=
  ht.weaken (fun i _ hi => ⟨Nat.le_trans h.up.size hi, fun e => by have := h.ko.lt e; omega, fun e => by have := h.lo.lt e; omega⟩)
/-- Behind the keys' append. -/
def AfterKey (w0 : World) (qb rb vb xb : Nat) (k left : Int) (b : List UInt8) (bad : Bool) (lv : Value) (ks : List ByteArray) (L : List VT) (w : World) : Prop := ∃ kv : Value, MSt w0 qb rb vb xb k w left b bad kv lv ks L
set_option maxRecDepth 100000 in
set_option maxHeartbeats 12800000 in
theorem pmany168 (d : Nat) (hR : ReadOk d) (hBad : ReadBad) (w : World) (qb rb vb xb : Nat) (left dp : Int) (b : List UInt8) (h : PR w qb rb vb left b false) (hqx : qb < xb) (hx : Blk w xb [.int .u8 168, .int .u64 0, .string ⟨#[]⟩, .slice none 0 0, .slice none 0 0]) (hd : dp + d = 6) (hd5 : d ≤ 5) (hl0 : 0 ≤ left) (hl1 : left ≤ 200) (hL : Big b.length) :
    Calls Tryz.prog 113 #[.pointer (some ⟨qb, 0, none⟩), .pointer (some ⟨xb, 0, none⟩), .int .i64 dp] w (ManyPost w qb rb vb xb 168 (rdM (rdP d) true left b)) := by
  have hdp0 : 0 ≤ dp := by omega
  have hdp1 : dp ≤ 6 := by omega
  have c0 := h.q.at 0 rfl; have ut : ∀ a b : World, Upd (Only vb) a b → Upd (Three qb vb xb) a b := fun a b h => h.mono (fun k hk _ => Or.inr (Or.inl hk))
  have uth := Lib.hid ut; clear ut; rcases gN_or 4 b with hno' | ⟨size, b2, hg1'⟩
  · have hno := Lib.hid hno'; have hr := Lib.hid (show rdM (rdP d) true left b = none by unfold rdM; rw [gN_none hno']; rfl); clear hno' ; go_enter Tryz.func113, Tryz.ntmps113; go_wp2_with (first | (go_at_call 39; (with_reducible refine (pnum_no _ qb rb vb left b false 4 4 h rfl (by unfold Wd; omega) (Or.inr hno.out)).mono ?_); rintro e w1 ⟨rfl, p1, hu1⟩; have e1 := p1.q.at 0 rfl) | (go_at_call 39; (with_reducible refine (pnum_no _ qb rb vb left [] true 4 4 p1 rfl (by unfold Wd; omega) (Or.inl rfl)).mono ?_); rintro e w2 ⟨rfl, p2, hu2⟩; have e2 := p2.q.at 0 rfl) | (go_at_call 81; (with_reducible refine (pleft _ qb rb vb left [] true p1).mono ?_); rintro e _ ⟨rfl, rfl⟩) | (go_at_call 102; (with_reducible refine (vmust_no _ qb rb vb left _ _ true p2 (Or.inr rfl)).mono ?_); rintro e _ ⟨rfl, rfl⟩)); rw [hr.out]; exact ⟨rfl, rfl, (uth.out _ _ hu1).trans (uth.out _ _ hu2) (fun _ h _ => h)⟩
  obtain ⟨hs32, hL2', -⟩ := gN_lt hg1'; have hL2 : Big b2.length := hL.mono hL2'; have wz : IntKind.u64.wrap (b2.length : Int) = (b2.length : Int) := wrap_u64 _ (by omega) (by have := hL2.le; omega); have hg1 := Lib.hid hg1'; have cm : ∀ (u : World) (hs : Nat) , hs = hs := fun _ _ => rfl
  clear cm; rcases gN_or 4 b2 with hno' | ⟨n, b3, hg2'⟩
  · have hno := Lib.hid hno'; have hr := Lib.hid (show rdM (rdP d) true left b = none by unfold rdM; rw [hg1', Option.bind_some]; dsimp only; rw [gN_none hno']; rfl); clear hno' hg1'; by_cases hsz : size ≤ b2.length
    all_goals
      go_enter Tryz.func113, Tryz.ntmps113; go_wp2_with (first | (go_at_call 39; (with_reducible refine (pnum_yes _ qb rb vb left b 4 size 4 b2 h rfl (by unfold Wd; omega) hg1.out hL).mono ?_); rintro e w1 ⟨rfl, p1, hu1⟩; have e1 := p1.q.at 0 rfl) | (go_at_call 39; (with_reducible refine (pnum_no _ qb rb vb left b2 false 4 4 p1 rfl (by unfold Wd; omega) (Or.inr hno.out)).mono ?_); rintro e w2 ⟨rfl, p2, hu2⟩; have e2 := p2.q.at 0 rfl) | (go_at_call 81; (with_reducible refine (pleft _ qb rb vb left b2 false p1).mono ?_); rintro e _ ⟨rfl, rfl⟩) | (go_at_call 102; (with_reducible refine (vmust_no _ qb rb vb left _ _ true p2 (Or.inr rfl)).mono ?_); rintro e _ ⟨rfl, rfl⟩)); rw [hr.out]; exact ⟨rfl, rfl, (uth.out _ _ hu1).trans (uth.out _ _ hu2) (fun _ h _ => h)⟩
  obtain ⟨hn32, hL3', -⟩ := gN_lt hg2'; have hL3 : Big b3.length := hL2.mono hL3'; have hg2 := Lib.hid hg2'; by_cases hc : size ≤ b2.length ∧ n < 200
  rotate_left 1
  · have hr := Lib.hid (show rdM (rdP d) true left b = none by unfold rdM; rw [hg1', Option.bind_some]; dsimp only; rw [hg2', Option.bind_some]; dsimp only; rw [if_neg hc]); clear hg1' hg2'; by_cases hsz : size ≤ b2.length
    focus
      have hn2 : ¬ n < 200 := fun e => hc ⟨hsz, e⟩
      have hn3 : decide ((n : Int) < 200) = false := decide_eq_false (by omega)
    rotate_left 1
    rotate_left 1
    all_goals
      clear hc; go_enter Tryz.func113, Tryz.ntmps113; go_wp2_with (first | (go_at_call 39; (with_reducible refine (pnum_yes _ qb rb vb left b 4 size 4 b2 h rfl (by unfold Wd; omega) hg1.out hL).mono ?_); rintro e w1 ⟨rfl, p1, hu1⟩; have e1 := p1.q.at 0 rfl) | (go_at_call 39; (with_reducible refine (pnum_yes _ qb rb vb left b2 4 n 4 b3 p1 rfl (by unfold Wd; omega) hg2.out hL2).mono ?_); rintro e w2 ⟨rfl, p2, hu2⟩; have e2 := p2.q.at 0 rfl) | (go_at_call 81; (with_reducible refine (pleft _ qb rb vb left b2 false p1).mono ?_); rintro e _ ⟨rfl, rfl⟩) | (go_at_call 102; (with_reducible refine (vmust_no _ qb rb vb left _ _ false p2 (Or.inl rfl)).mono ?_); rintro e _ ⟨rfl, rfl⟩)); rw [hr.out]; exact ⟨rfl, rfl, (uth.out _ _ hu1).trans (uth.out _ _ hu2) (fun _ h _ => h)⟩
  obtain ⟨hsz, hn2⟩ := hc; have hn3 : decide ((n : Int) < 200) = true := decide_eq_true (by omega); have hr := Lib.hid (rdM_fin (f := rdP d) (m := true) (left := left) hg1' hg2' hsz hn2); have hL32 := Lib.hid hL3'; have hxl := hx.lt; have hwp : IntKind.i64.wrap (dp + 1) = dp + 1 := wrap_i64 _ (by omega) (by omega); have hRh := Lib.hid hR; have hBh := Lib.hid hBad; clear hg1' hg2' hR hBad hL3' hL2' hs32; go_enter Tryz.func113, Tryz.ntmps113; go_wp2_with (first | (go_at_call 39; (with_reducible refine (pnum_yes _ qb rb vb left b 4 size 4 b2 h rfl (by unfold Wd; omega) hg1.out hL).mono ?_); rintro e w1 ⟨rfl, p1, hu1⟩; have e1 := p1.q.at 0 rfl) | (go_at_call 39; (with_reducible refine (pnum_yes _ qb rb vb left b2 4 n 4 b3 p1 rfl (by unfold Wd; omega) hg2.out hL2).mono ?_); rintro e w2 ⟨rfl, p2, hu2⟩; have e2 := p2.q.at 0 rfl) | (go_at_call 81; (with_reducible refine (pleft _ qb rb vb left b2 false p1).mono ?_); rintro e _ ⟨rfl, rfl⟩) | (go_at_call 102; (with_reducible refine (vmust_ok _ qb rb vb left b3 p2).mono ?_); rintro e _ ⟨rfl, rfl⟩)); have hM2 := Lib.hid (MSt.start (w0 := w) p2 ((hx.upd hu1 (fun e => by have := h.vq; unfold Only at e; omega)).upd hu2 (fun e => by have := h.vq; unfold Only at e; omega)) ((uth.out _ _ hu1).trans (uth.out _ _ hu2) (fun _ h _ => h)) hqx hxl); clear hx h p1 p2 hu1 hu2 e1 e2 c0; go_loopw [35] (fun s35 wr => ∃ (j : Nat) (kv lv : Value) (ks : List ByteArray) (L : List VT) (lj : Int) (bj : List UInt8), j ≤ n ∧ s35 = .int .u64 j ∧ Hid (MSt w qb rb vb xb 168 wr lj bj false kv lv ks L) ∧ Hid (L.length = j ∧ ks.length ≤ j) ∧ 0 ≤ lj ∧ lj ≤ 200 ∧ Hid (bj.length ≤ b3.length) ∧ Hid (rdMany (rdP d) true n left b3 = glue ks (L.map VT.v) (rdMany (rdP d) true (n - j) lj bj))) (fun s35 _ => n - (intOf s35).toNat)
  case atStart => exact ⟨0, _, _, [], [], left, b3, by omega, rfl, hM2, Lib.hid ⟨rfl, Nat.le_refl _⟩, hl0, hl1, Lib.hid (Nat.le_refl _), Lib.hid (by rw [List.map_nil, glue_nil]; rfl)⟩
  case round =>
    clear hM2; obtain ⟨j, kv, lv, ks, L, lj, bj, hj, rfl, hMh, hlen, hl0j, hl1j, hbj, hT⟩ := hrel; have hM := hMh.out; obtain ⟨ka, kc, rfl⟩ := own_lenB hM.ko; obtain ⟨la, lc, rfl⟩ := own_lenB hM.lo; have hLj : Big bj.length := hL3.mono hbj.out; have x0 := hM.x.at 0 rfl; by_cases hlt : j < n
    · have h1 : (j : Int) < (n : Int) := by omega
      have hkl := Lib.hid (show ks.length < 200 by have := hlen.out.2; omega); have hLl := Lib.hid (show L.length < 200 by have := hlen.out.1; omega); have hnj := Lib.hid (show n - j = (n - (j + 1)) + 1 by omega)
      have htx' : ∃ s b' bad', (bad' = true ∧ gT 1 255 bj = none ∧ b' = [] ∨ bad' = false ∧ gT 1 255 bj = some (s, b')) ∧ ∀ u : World, PR u qb rb vb lj bj false → Calls Tryz.prog 40 #[.pointer (some ⟨rb, 0, none⟩), .int .i64 1, .int .i64 255] u (fun e w' => e = .returned (.string s) ∧ PR w' qb rb vb lj b' bad' ∧ Upd (Only vb) u w') := by
        rcases hg : gT 1 255 bj with _ | ⟨s, b'⟩
        · exact ⟨_, _, true, .inl ⟨rfl, rfl, rfl⟩, fun u p => ptext_no u qb rb vb lj bj false 1 255 1 255 p rfl rfl (by omega) (by omega) (.inr hg) hLj⟩
        · exact ⟨s, b', false, .inr ⟨rfl, rfl⟩, fun u p => ptext_yes u qb rb vb lj bj 1 255 1 255 s b' p rfl rfl (by omega) (by omega) hg hLj⟩
      obtain ⟨s, b', bad', hcase, htx'⟩ := htx'; have htx := Lib.hid htx'; have hcs := Lib.hid hcase; clear htx' hcase; go_upto_region 7 with fail; go_cut [] from 42 to 55 (fun wc => AfterKey w qb rb vb xb 168 lj b' bad' (.slice la L.length lc) (ks ++ [s]) L wc)
      case first =>
        have hM0 := hM.drew; have mx0 := hM.x.at 3 rfl; have mq0 := hM.pr.q.at 0 rfl; have nx0 := hM0.x.at 3 rfl; have nq0 := hM0.pr.q.at 0 rfl; refine wp_region_held_drew (S := fun _ => True) (by kernel_rfl) trivial (fun hHeld => ?_); refine takeY 0 42 rfl rfl (v := ?_) ?_ hHeld ?_
        rotate_left 1
        · (intro w hSw; clear hSw; go_simp; (try with_reducible rfl))
        (try simp only [Act.put, lsT, lsZ, lsS]); refine takeY 1 43 rfl rfl (v := ?_) ?_ hHeld ?_
        rotate_left 1
        · (intro w hSw; clear hSw; go_simp; (try with_reducible rfl))
        (try simp only [Act.put, lsT, lsZ, lsS]); refine takeY 2 44 rfl rfl (v := ?_) ?_ hHeld ?_
        rotate_left 1
        · (intro w hSw; clear hSw; go_simp; (try with_reducible rfl))
        (try simp only [Act.put, lsT, lsZ, lsS]); refine takeY 3 45 rfl rfl (v := ?_) ?_ hHeld ?_
        rotate_left 1
        · (intro w hSw; clear hSw; go_simp; (try with_reducible rfl))
        (try simp only [Act.put, lsT, lsZ, lsS]); refine takeY 5 47 rfl rfl (v := ?_) ?_ hHeld ?_
        rotate_left 1
        · (intro w hSw; clear hSw; go_simp; (try with_reducible rfl))
        (try simp only [Act.put, lsT, lsZ, lsS]); refine takeY 6 48 rfl rfl (v := ?_) ?_ hHeld ?_
        rotate_left 1
        · (intro w hSw; clear hSw; go_simp; (try with_reducible rfl))
        (try simp only [Act.put, lsT, lsZ, lsS]); refine takeY 7 49 rfl rfl (v := ?_) ?_ hHeld ?_
        rotate_left 1
        · (intro w hSw; clear hSw; go_simp; (try with_reducible rfl))
        (try simp only [Act.put, lsT, lsZ, lsS]); refine wpAnyH_ready (rs := [4, 8]) (by kernel_rfl) (by simp) ?_; refine (AllReadyH.cons rfl (fun K hK => ?_) (AllReadyH.cons rfl (fun K hK => ?_) AllReadyH.nil))
        · go_simp; refine hK.out _ _ trivial (fun hHeld => ?_); clear hK K; (try simp only [Act.put, lsT, lsZ, lsS]); refine wpAnyH_ready (rs := [8]) (by kernel_rfl) (by simp) ?_; refine (AllReadyH.cons rfl (fun K hK => ?_) AllReadyH.nil); go_simp; refine hK.out _ _ trivial (fun hHeld => ?_); clear hK K; (try simp only [Act.put, lsT, lsZ, lsS]); refine wpAnyH_ready (rs := [9]) (by kernel_rfl) (by simp) ?_; refine (AllReadyH.cons rfl (fun K hK => ?_) AllReadyH.nil); go_simp; go_at_call 40; refine (htx.out _ hM0.pr).mono ?_; rintro e w1 ⟨rfl, p1, hu1⟩; have hM1 := hM0.moved p1 hu1 (fun i e => Or.inr e); have mx1 := hM1.x.at 3 rfl; have mq1 := hM1.pr.q.at 0 rfl; refine hK.out _ _ trivial (fun hHeld => ?_); clear hK K; (try simp only [Act.put, lsT, lsZ, lsS]); refine wpAnyH_ready (rs := [10]) (by kernel_rfl) (by simp) ?_; refine (AllReadyH.cons rfl (fun K hK => ?_) AllReadyH.nil); go_simp; have hM2 := hM1.alloc (.cells #[.string s] 9); have bs := Blk.new w1 [.string s] 9; have mx2 := hM2.x.at 3 rfl; have mq2 := hM2.pr.q.at 0 rfl; refine hK.out _ _ trivial (fun hHeld => ?_); clear hK K; (try simp only [Act.put, lsT, lsZ, lsS]); refine wpAnyH_ready (rs := [11]) (by kernel_rfl) (by simp) ?_; refine (AllReadyH.cons rfl (fun K hK => ?_) AllReadyH.nil); refine step_of_list rfl (wpList_app1 (base := w.heap.size) rfl (.tmp 46) (.tmp 52) 57 9 rfl elem_strs strEnc_len strEnc_one _ ks rfl hM2.ko w1.heap.size 1 s rfl (fun j u hu => (bs.cell j).trans hu) (by have := hkl.out; omega) (by have := hkl.out; unfold maxLen; omega) (Nat.le_trans hM1.up.size (by simp)) ?_); intro g cap w3 hO3 hgr3 hf3; refine ⟨rfl, ?_⟩; obtain ⟨hx3, hM3⟩ := hM2.key hO3 hgr3 hf3; have my := hx3.at 3 rfl; have mz := hx3.frozen 3; refine hK.out _ _ trivial (fun hHeld => ?_); clear hK K; (try simp only [Act.put, lsT, lsZ, lsS]); refine takeY 12 54 rfl rfl (v := ?_) ?_ hHeld ?_
          rotate_left 1
          · (intro w hSw; clear hSw; go_simp; (try with_reducible rfl))
          (try simp only [Act.put, lsT, lsZ, lsS]); refine takeY 13 55 rfl rfl (v := ?_) ?_ hHeld ?_
          rotate_left 1
          · (intro w hSw; clear hSw; go_simp; (try with_reducible rfl))
          (try simp only [Act.put, lsT, lsZ, lsS]); refine wpAnyH_ready (rs := [14]) (by kernel_rfl) (by simp) ?_; refine (AllReadyH.cons rfl (fun K hK => ?_) AllReadyH.nil); go_simp; refine hK.out _ _ trivial (fun hHeld => ?_); clear hK K; (try simp only [Act.put, lsT, lsZ, lsS]); refine wpAnyH_done (by kernel_rfl) ?_ _; go_wp2_with fail; go_meet; exact ⟨_, hM3⟩
        · go_simp; refine hK.out _ _ trivial (fun hHeld => ?_); clear hK K; (try simp only [Act.put, lsT, lsZ, lsS]); refine wpAnyH_ready (rs := [4, 9]) (by kernel_rfl) (by simp) ?_; refine (AllReadyH.cons rfl (fun K hK => ?_) (AllReadyH.cons rfl (fun K hK => ?_) AllReadyH.nil))
          · go_simp; refine hK.out _ _ trivial (fun hHeld => ?_); clear hK K; (try simp only [Act.put, lsT, lsZ, lsS]); refine wpAnyH_ready (rs := [9]) (by kernel_rfl) (by simp) ?_; refine (AllReadyH.cons rfl (fun K hK => ?_) AllReadyH.nil); go_simp; go_at_call 40; refine (htx.out _ hM0.pr).mono ?_; rintro e w1 ⟨rfl, p1, hu1⟩; have hM1 := hM0.moved p1 hu1 (fun i e => Or.inr e); have mx1 := hM1.x.at 3 rfl; have mq1 := hM1.pr.q.at 0 rfl; refine hK.out _ _ trivial (fun hHeld => ?_); clear hK K; (try simp only [Act.put, lsT, lsZ, lsS]); refine wpAnyH_ready (rs := [10]) (by kernel_rfl) (by simp) ?_; refine (AllReadyH.cons rfl (fun K hK => ?_) AllReadyH.nil); go_simp; have hM2 := hM1.alloc (.cells #[.string s] 9); have bs := Blk.new w1 [.string s] 9; have mx2 := hM2.x.at 3 rfl; have mq2 := hM2.pr.q.at 0 rfl; refine hK.out _ _ trivial (fun hHeld => ?_); clear hK K; (try simp only [Act.put, lsT, lsZ, lsS]); refine wpAnyH_ready (rs := [11]) (by kernel_rfl) (by simp) ?_; refine (AllReadyH.cons rfl (fun K hK => ?_) AllReadyH.nil); refine step_of_list rfl (wpList_app1 (base := w.heap.size) rfl (.tmp 46) (.tmp 52) 57 9 rfl elem_strs strEnc_len strEnc_one _ ks rfl hM2.ko w1.heap.size 1 s rfl (fun j u hu => (bs.cell j).trans hu) (by have := hkl.out; omega) (by have := hkl.out; unfold maxLen; omega) (Nat.le_trans hM1.up.size (by simp)) ?_); intro g cap w3 hO3 hgr3 hf3; refine ⟨rfl, ?_⟩; obtain ⟨hx3, hM3⟩ := hM2.key hO3 hgr3 hf3; have my := hx3.at 3 rfl; have mz := hx3.frozen 3; refine hK.out _ _ trivial (fun hHeld => ?_); clear hK K; (try simp only [Act.put, lsT, lsZ, lsS]); refine takeY 12 54 rfl rfl (v := ?_) ?_ hHeld ?_
            rotate_left 1
            · (intro w hSw; clear hSw; go_simp; (try with_reducible rfl))
            (try simp only [Act.put, lsT, lsZ, lsS]); refine takeY 13 55 rfl rfl (v := ?_) ?_ hHeld ?_
            rotate_left 1
            · (intro w hSw; clear hSw; go_simp; (try with_reducible rfl))
            (try simp only [Act.put, lsT, lsZ, lsS]); refine wpAnyH_ready (rs := [14]) (by kernel_rfl) (by simp) ?_; refine (AllReadyH.cons rfl (fun K hK => ?_) AllReadyH.nil); go_simp; refine hK.out _ _ trivial (fun hHeld => ?_); clear hK K; (try simp only [Act.put, lsT, lsZ, lsS]); refine wpAnyH_done (by kernel_rfl) ?_ _; go_wp2_with fail; go_meet; exact ⟨_, hM3⟩
          · go_simp; go_at_call 40; refine (htx.out _ hM0.pr).mono ?_; rintro e w1 ⟨rfl, p1, hu1⟩; have hM1 := hM0.moved p1 hu1 (fun i e => Or.inr e); have mx1 := hM1.x.at 3 rfl; have mq1 := hM1.pr.q.at 0 rfl; refine hK.out _ _ trivial (fun hHeld => ?_); clear hK K; (try simp only [Act.put, lsT, lsZ, lsS]); refine wpAnyH_ready (rs := [4, 10]) (by kernel_rfl) (by simp) ?_; refine (AllReadyH.cons rfl (fun K hK => ?_) (AllReadyH.cons rfl (fun K hK => ?_) AllReadyH.nil))
            focus
              go_simp; refine hK.out _ _ trivial (fun hHeld => ?_); clear hK K; (try simp only [Act.put, lsT, lsZ, lsS]); refine wpAnyH_ready (rs := [10]) (by kernel_rfl) (by simp) ?_; refine (AllReadyH.cons rfl (fun K hK => ?_) AllReadyH.nil); go_simp; have hM2 := hM1.alloc (.cells #[.string s] 9); have bs := Blk.new w1 [.string s] 9; have mx2 := hM2.x.at 3 rfl; have mq2 := hM2.pr.q.at 0 rfl
            rotate_left 1
            focus
              go_simp; have hM2 := hM1.alloc (.cells #[.string s] 9); have bs := Blk.new w1 [.string s] 9; have mx2 := hM2.x.at 3 rfl; have mq2 := hM2.pr.q.at 0 rfl; refine hK.out _ _ trivial (fun hHeld => ?_); clear hK K; (try simp only [Act.put, lsT, lsZ, lsS]); refine wpAnyH_ready (rs := [4]) (by kernel_rfl) (by simp) ?_; refine (AllReadyH.cons rfl (fun K hK => ?_) AllReadyH.nil); go_simp
            rotate_left 1
            all_goals
              refine hK.out _ _ trivial (fun hHeld => ?_); clear hK K; (try simp only [Act.put, lsT, lsZ, lsS]); refine wpAnyH_ready (rs := [11]) (by kernel_rfl) (by simp) ?_; refine (AllReadyH.cons rfl (fun K hK => ?_) AllReadyH.nil); refine step_of_list rfl (wpList_app1 (base := w.heap.size) rfl (.tmp 46) (.tmp 52) 57 9 rfl elem_strs strEnc_len strEnc_one _ ks rfl hM2.ko w1.heap.size 1 s rfl (fun j u hu => (bs.cell j).trans hu) (by have := hkl.out; omega) (by have := hkl.out; unfold maxLen; omega) (Nat.le_trans hM1.up.size (by simp)) ?_); intro g cap w3 hO3 hgr3 hf3; refine ⟨rfl, ?_⟩; obtain ⟨hx3, hM3⟩ := hM2.key hO3 hgr3 hf3; have my := hx3.at 3 rfl; have mz := hx3.frozen 3; refine hK.out _ _ trivial (fun hHeld => ?_); clear hK K; (try simp only [Act.put, lsT, lsZ, lsS]); refine takeY 12 54 rfl rfl (v := ?_) ?_ hHeld ?_
              rotate_left 1
              · (intro w hSw; clear hSw; go_simp; (try with_reducible rfl))
              (try simp only [Act.put, lsT, lsZ, lsS]); refine takeY 13 55 rfl rfl (v := ?_) ?_ hHeld ?_
              rotate_left 1
              · (intro w hSw; clear hSw; go_simp; (try with_reducible rfl))
              (try simp only [Act.put, lsT, lsZ, lsS]); refine wpAnyH_ready (rs := [14]) (by kernel_rfl) (by simp) ?_; refine (AllReadyH.cons rfl (fun K hK => ?_) AllReadyH.nil); go_simp; refine hK.out _ _ trivial (fun hHeld => ?_); clear hK K; (try simp only [Act.put, lsT, lsZ, lsS]); refine wpAnyH_done (by kernel_rfl) ?_ _; go_wp2_with fail; go_meet; exact ⟨_, hM3⟩
      case rest =>
        obtain ⟨kv', hMc⟩ := hcut; clear hM hMh x0; obtain ⟨ka', kc', rfl⟩ := own_lenB hMc.ko; have hkl2 := Lib.hid (show (ks ++ [s]).length ≤ j + 1 by have := hlen.out.2; simp; omega); rcases hcs.out with ⟨rfl, hg, rfl⟩ | ⟨rfl, hg⟩
        · have hrT := Lib.hid (show rdM (rdP d) true left b = none by rw [hr.out, hT.out, hnj.out, glue_nokey hg]; rfl); have hLb : Big ([] : List UInt8).length := by unfold Big; simp
          have hrd := Lib.hid (fun (u : World) (p : PR u qb rb vb lj [] true) => hBh.out u qb rb vb lj (dp + 1) [] p hl0j hl1j hLb); clear hg; go_upto_region 8 with fail; have hM0 := hMc.drew; have mx0 := hMc.x.at 4 rfl; have mq0 := hMc.pr.q.at 0 rfl; have nx0 := hM0.x.at 4 rfl; have nq0 := hM0.pr.q.at 0 rfl; refine wp_region_held_drew (S := fun _ => True) (by kernel_rfl) trivial (fun hHeld => ?_); refine takeY 0 56 rfl rfl (v := ?_) ?_ hHeld ?_
          rotate_left 1
          · (intro w hSw; clear hSw; go_simp; (try with_reducible rfl))
          (try simp only [Act.put, lsT, lsZ, lsS]); refine takeY 1 57 rfl rfl (v := ?_) ?_ hHeld ?_
          rotate_left 1
          · (intro w hSw; clear hSw; go_simp; (try with_reducible rfl))
          (try simp only [Act.put, lsT, lsZ, lsS]); refine takeY 2 58 rfl rfl (v := ?_) ?_ hHeld ?_
          rotate_left 1
          · (intro w hSw; clear hSw; go_simp; (try with_reducible rfl))
          (try simp only [Act.put, lsT, lsZ, lsS]); refine takeY 4 60 rfl rfl (v := ?_) ?_ hHeld ?_
          rotate_left 1
          · (intro w hSw; clear hSw; go_simp; (try with_reducible rfl))
          (try simp only [Act.put, lsT, lsZ, lsS]); refine takeY 5 61 rfl rfl (v := ?_) ?_ hHeld ?_
          rotate_left 1
          · (intro w hSw; clear hSw; go_simp; (try with_reducible rfl))
          (try simp only [Act.put, lsT, lsZ, lsS]); refine takeY 6 62 rfl rfl (v := ?_) ?_ hHeld ?_
          rotate_left 1
          · (intro w hSw; clear hSw; go_simp; (try with_reducible rfl))
          (try simp only [Act.put, lsT, lsZ, lsS]); refine wpAnyH_ready (rs := [3, 7, 9]) (by kernel_rfl) (by simp) ?_; refine (AllReadyH.cons rfl (fun K hK => ?_) (AllReadyH.cons rfl (fun K hK => ?_) (AllReadyH.cons rfl (fun K hK => ?_) AllReadyH.nil)))
          · go_simp; refine hK.out _ _ trivial (fun hHeld => ?_); clear hK K; (try simp only [Act.put, lsT, lsZ, lsS]); refine takeY 8 64 rfl rfl (v := ?_) ?_ hHeld ?_
            rotate_left 1
            · (intro w hSw; clear hSw; go_simp; (try with_reducible rfl))
            (try simp only [Act.put, lsT, lsZ, lsS]); refine wpAnyH_ready (rs := [7, 9]) (by kernel_rfl) (by simp) ?_; refine (AllReadyH.cons rfl (fun K hK => ?_) (AllReadyH.cons rfl (fun K hK => ?_) AllReadyH.nil))
            · go_simp; go_at_call 101; refine (hrd.out _ hM0.pr).mono ?_; rintro e w1 ⟨rfl, hu1⟩; have hup := hM0.up.trans hu1 (fun i e _ => by rcases e with e | e; exact .inl e; exact .inr (.inl e)); go_wp2; rw [hrT.out]
              first | exact ⟨rfl, hup⟩ | exact ⟨rfl, rfl, hup⟩
            · go_simp; have hM1 := hM0.alloc (.cells #[.int .u8 0, .int .u64 0, .string ⟨#[]⟩, .slice none 0 0, .slice none 0 0] 60); have bs := Blk.new wc.drew [.int .u8 0, .int .u64 0, .string ⟨#[]⟩, .slice none 0 0, .slice none 0 0] 60; have hMa := hMc.alloc (.cells #[.int .u8 0, .int .u64 0, .string ⟨#[]⟩, .slice none 0 0, .slice none 0 0] 60); have ma := hMa.x.at 4 rfl; have mb := hMa.pr.q.at 0 rfl; have mx1 := hM1.x.at 4 rfl; have mq1 := hM1.pr.q.at 0 rfl; refine hK.out _ _ trivial (fun hHeld => ?_); clear hK K; (try simp only [Act.put, lsT, lsZ, lsS]); refine wpAnyH_ready (rs := [7]) (by kernel_rfl) (by simp) ?_; refine (AllReadyH.cons rfl (fun K hK => ?_) AllReadyH.nil); go_simp; go_at_call 101; refine (hrd.out _ hM1.pr).mono ?_; rintro e w1 ⟨rfl, hu1⟩; have hup := hM1.up.trans hu1 (fun i e _ => by rcases e with e | e; exact .inl e; exact .inr (.inl e)); go_wp2; rw [hrT.out]
              first | exact ⟨rfl, hup⟩ | exact ⟨rfl, rfl, hup⟩
          · go_simp; go_at_call 101; refine (hrd.out _ hM0.pr).mono ?_; rintro e w1 ⟨rfl, hu1⟩; have hup := hM0.up.trans hu1 (fun i e _ => by rcases e with e | e; exact .inl e; exact .inr (.inl e)); go_wp2; rw [hrT.out]
            first | exact ⟨rfl, hup⟩ | exact ⟨rfl, rfl, hup⟩
          · go_simp; have hM1 := hM0.alloc (.cells #[.int .u8 0, .int .u64 0, .string ⟨#[]⟩, .slice none 0 0, .slice none 0 0] 60); have bs := Blk.new wc.drew [.int .u8 0, .int .u64 0, .string ⟨#[]⟩, .slice none 0 0, .slice none 0 0] 60; have hMa := hMc.alloc (.cells #[.int .u8 0, .int .u64 0, .string ⟨#[]⟩, .slice none 0 0, .slice none 0 0] 60); have ma := hMa.x.at 4 rfl; have mb := hMa.pr.q.at 0 rfl; have mx1 := hM1.x.at 4 rfl; have mq1 := hM1.pr.q.at 0 rfl; refine hK.out _ _ trivial (fun hHeld => ?_); clear hK K; (try simp only [Act.put, lsT, lsZ, lsS]); refine wpAnyH_ready (rs := [3, 7]) (by kernel_rfl) (by simp) ?_; refine (AllReadyH.cons rfl (fun K hK => ?_) (AllReadyH.cons rfl (fun K hK => ?_) AllReadyH.nil))
            focus
              go_simp; refine hK.out _ _ trivial (fun hHeld => ?_); clear hK K; (try simp only [Act.put, lsT, lsZ, lsS]); refine takeY 8 64 rfl rfl (v := ?_) ?_ hHeld ?_
              rotate_left 1
              · (intro w hSw; clear hSw; go_simp; (try with_reducible rfl))
              (try simp only [Act.put, lsT, lsZ, lsS]); refine wpAnyH_ready (rs := [7]) (by kernel_rfl) (by simp) ?_; refine (AllReadyH.cons rfl (fun K hK => ?_) AllReadyH.nil)
            rotate_left 1
            rotate_left 1
            all_goals
              go_simp; go_at_call 101; refine (hrd.out _ hM1.pr).mono ?_; rintro e w1 ⟨rfl, hu1⟩; have hup := hM1.up.trans hu1 (fun i e _ => by rcases e with e | e; exact .inl e; exact .inr (.inl e)); go_wp2; rw [hrT.out]
              first | exact ⟨rfl, hup⟩ | exact ⟨rfl, rfl, hup⟩
        · have hLb : Big b'.length := hLj.mono (gT_lt hg); have hbb := Lib.hid (gT_lt hg); have hgh := Lib.hid hg; clear hg; rcases hx : rdP d lj b' with _ | ⟨x, l1, b2'⟩
          · have hrT := Lib.hid (show rdM (rdP d) true left b = none by rw [hr.out, hT.out, hnj.out, glue_noval hgh.out hx]; rfl); have hrd := Lib.hid (fun (u : World) (p : PR u qb rb vb lj b' false) => show Calls Tryz.prog 101 #[.pointer (some ⟨qb, 0, none⟩), .int .i64 (dp + 1)] u (ReadPost u qb rb vb none) by have := hRh.out u qb rb vb lj (dp + 1) b' p (by omega) (by omega) hl0j hl1j hLb; rw [hx] at this; exact this); clear hx; go_upto_region 8 with fail; have hM0 := hMc.drew; have mx0 := hMc.x.at 4 rfl; have mq0 := hMc.pr.q.at 0 rfl; have nx0 := hM0.x.at 4 rfl; have nq0 := hM0.pr.q.at 0 rfl; refine wp_region_held_drew (S := fun _ => True) (by kernel_rfl) trivial (fun hHeld => ?_); refine takeY 0 56 rfl rfl (v := ?_) ?_ hHeld ?_
            rotate_left 1
            · (intro w hSw; clear hSw; go_simp; (try with_reducible rfl))
            (try simp only [Act.put, lsT, lsZ, lsS]); refine takeY 1 57 rfl rfl (v := ?_) ?_ hHeld ?_
            rotate_left 1
            · (intro w hSw; clear hSw; go_simp; (try with_reducible rfl))
            (try simp only [Act.put, lsT, lsZ, lsS]); refine takeY 2 58 rfl rfl (v := ?_) ?_ hHeld ?_
            rotate_left 1
            · (intro w hSw; clear hSw; go_simp; (try with_reducible rfl))
            (try simp only [Act.put, lsT, lsZ, lsS]); refine takeY 4 60 rfl rfl (v := ?_) ?_ hHeld ?_
            rotate_left 1
            · (intro w hSw; clear hSw; go_simp; (try with_reducible rfl))
            (try simp only [Act.put, lsT, lsZ, lsS]); refine takeY 5 61 rfl rfl (v := ?_) ?_ hHeld ?_
            rotate_left 1
            · (intro w hSw; clear hSw; go_simp; (try with_reducible rfl))
            (try simp only [Act.put, lsT, lsZ, lsS]); refine takeY 6 62 rfl rfl (v := ?_) ?_ hHeld ?_
            rotate_left 1
            · (intro w hSw; clear hSw; go_simp; (try with_reducible rfl))
            (try simp only [Act.put, lsT, lsZ, lsS]); refine wpAnyH_ready (rs := [3, 7, 9]) (by kernel_rfl) (by simp) ?_; refine (AllReadyH.cons rfl (fun K hK => ?_) (AllReadyH.cons rfl (fun K hK => ?_) (AllReadyH.cons rfl (fun K hK => ?_) AllReadyH.nil)))
            · go_simp; refine hK.out _ _ trivial (fun hHeld => ?_); clear hK K; (try simp only [Act.put, lsT, lsZ, lsS]); refine takeY 8 64 rfl rfl (v := ?_) ?_ hHeld ?_
              rotate_left 1
              · (intro w hSw; clear hSw; go_simp; (try with_reducible rfl))
              (try simp only [Act.put, lsT, lsZ, lsS]); refine wpAnyH_ready (rs := [7, 9]) (by kernel_rfl) (by simp) ?_; refine (AllReadyH.cons rfl (fun K hK => ?_) (AllReadyH.cons rfl (fun K hK => ?_) AllReadyH.nil))
              · go_simp; go_at_call 101; refine (hrd.out _ hM0.pr).mono ?_; rintro e w1 ⟨rfl, hu1⟩; have hup := hM0.up.trans hu1 (fun i e _ => by rcases e with e | e; exact .inl e; exact .inr (.inl e)); go_wp2; rw [hrT.out]
                first | exact ⟨rfl, hup⟩ | exact ⟨rfl, rfl, hup⟩
              · go_simp; have hM1 := hM0.alloc (.cells #[.int .u8 0, .int .u64 0, .string ⟨#[]⟩, .slice none 0 0, .slice none 0 0] 60); have bs := Blk.new wc.drew [.int .u8 0, .int .u64 0, .string ⟨#[]⟩, .slice none 0 0, .slice none 0 0] 60; have hMa := hMc.alloc (.cells #[.int .u8 0, .int .u64 0, .string ⟨#[]⟩, .slice none 0 0, .slice none 0 0] 60); have ma := hMa.x.at 4 rfl; have mb := hMa.pr.q.at 0 rfl; have mx1 := hM1.x.at 4 rfl; have mq1 := hM1.pr.q.at 0 rfl; refine hK.out _ _ trivial (fun hHeld => ?_); clear hK K; (try simp only [Act.put, lsT, lsZ, lsS]); refine wpAnyH_ready (rs := [7]) (by kernel_rfl) (by simp) ?_; refine (AllReadyH.cons rfl (fun K hK => ?_) AllReadyH.nil); go_simp; go_at_call 101; refine (hrd.out _ hM1.pr).mono ?_; rintro e w1 ⟨rfl, hu1⟩; have hup := hM1.up.trans hu1 (fun i e _ => by rcases e with e | e; exact .inl e; exact .inr (.inl e)); go_wp2; rw [hrT.out]
                first | exact ⟨rfl, hup⟩ | exact ⟨rfl, rfl, hup⟩
            · go_simp; go_at_call 101; refine (hrd.out _ hM0.pr).mono ?_; rintro e w1 ⟨rfl, hu1⟩; have hup := hM0.up.trans hu1 (fun i e _ => by rcases e with e | e; exact .inl e; exact .inr (.inl e)); go_wp2; rw [hrT.out]
              first | exact ⟨rfl, hup⟩ | exact ⟨rfl, rfl, hup⟩
            · go_simp; have hM1 := hM0.alloc (.cells #[.int .u8 0, .int .u64 0, .string ⟨#[]⟩, .slice none 0 0, .slice none 0 0] 60); have bs := Blk.new wc.drew [.int .u8 0, .int .u64 0, .string ⟨#[]⟩, .slice none 0 0, .slice none 0 0] 60; have hMa := hMc.alloc (.cells #[.int .u8 0, .int .u64 0, .string ⟨#[]⟩, .slice none 0 0, .slice none 0 0] 60); have ma := hMa.x.at 4 rfl; have mb := hMa.pr.q.at 0 rfl; have mx1 := hM1.x.at 4 rfl; have mq1 := hM1.pr.q.at 0 rfl; refine hK.out _ _ trivial (fun hHeld => ?_); clear hK K; (try simp only [Act.put, lsT, lsZ, lsS]); refine wpAnyH_ready (rs := [3, 7]) (by kernel_rfl) (by simp) ?_; refine (AllReadyH.cons rfl (fun K hK => ?_) (AllReadyH.cons rfl (fun K hK => ?_) AllReadyH.nil))
              focus
                go_simp; refine hK.out _ _ trivial (fun hHeld => ?_); clear hK K; (try simp only [Act.put, lsT, lsZ, lsS]); refine takeY 8 64 rfl rfl (v := ?_) ?_ hHeld ?_
                rotate_left 1
                · (intro w hSw; clear hSw; go_simp; (try with_reducible rfl))
                (try simp only [Act.put, lsT, lsZ, lsS]); refine wpAnyH_ready (rs := [7]) (by kernel_rfl) (by simp) ?_; refine (AllReadyH.cons rfl (fun K hK => ?_) AllReadyH.nil)
              rotate_left 1
              rotate_left 1
              all_goals
                go_simp; go_at_call 101; refine (hrd.out _ hM1.pr).mono ?_; rintro e w1 ⟨rfl, hu1⟩; have hup := hM1.up.trans hu1 (fun i e _ => by rcases e with e | e; exact .inl e; exact .inr (.inl e)); go_wp2; rw [hrT.out]
                first | exact ⟨rfl, hup⟩ | exact ⟨rfl, rfl, hup⟩
          · have hT2 := Lib.hid (show rdMany (rdP d) true n left b3 = glue (ks ++ [s]) (L.map VT.v ++ [x]) (rdMany (rdP d) true (n - (j + 1)) l1 b2') by rw [hT.out, hnj.out, glue_key hgh.out hx]); have hll := rdP_left _ _ _ _ _ _ hx; have hlb := Lib.hid (show b2'.length ≤ b3.length by have h1 := rdP_len hx; have h2 := hbj.out; have h3 := hbb.out; omega); have hl1' : l1 ≤ 200 := by omega
            have hl0' : 0 ≤ l1 := hll.1; have hrd := Lib.hid (fun (u : World) (p : PR u qb rb vb lj b' false) => show Calls Tryz.prog 101 #[.pointer (some ⟨qb, 0, none⟩), .int .i64 (dp + 1)] u (ReadPost u qb rb vb (some (x, l1, b2'))) by have := hRh.out u qb rb vb lj (dp + 1) b' p (by omega) (by omega) hl0j hl1j hLb; rw [hx] at this; exact this); clear hx hll hT; go_upto_region 8 with fail; have hM0 := hMc.drew; have mx0 := hMc.x.at 4 rfl; have mq0 := hMc.pr.q.at 0 rfl; have nx0 := hM0.x.at 4 rfl; have nq0 := hM0.pr.q.at 0 rfl; refine wp_region_held_drew (S := fun _ => True) (by kernel_rfl) trivial (fun hHeld => ?_); refine takeY 0 56 rfl rfl (v := ?_) ?_ hHeld ?_
            rotate_left 1
            · (intro w hSw; clear hSw; go_simp; (try with_reducible rfl))
            (try simp only [Act.put, lsT, lsZ, lsS]); refine takeY 1 57 rfl rfl (v := ?_) ?_ hHeld ?_
            rotate_left 1
            · (intro w hSw; clear hSw; go_simp; (try with_reducible rfl))
            (try simp only [Act.put, lsT, lsZ, lsS]); refine takeY 2 58 rfl rfl (v := ?_) ?_ hHeld ?_
            rotate_left 1
            · (intro w hSw; clear hSw; go_simp; (try with_reducible rfl))
            (try simp only [Act.put, lsT, lsZ, lsS]); refine takeY 4 60 rfl rfl (v := ?_) ?_ hHeld ?_
            rotate_left 1
            · (intro w hSw; clear hSw; go_simp; (try with_reducible rfl))
            (try simp only [Act.put, lsT, lsZ, lsS]); refine takeY 5 61 rfl rfl (v := ?_) ?_ hHeld ?_
            rotate_left 1
            · (intro w hSw; clear hSw; go_simp; (try with_reducible rfl))
            (try simp only [Act.put, lsT, lsZ, lsS]); refine takeY 6 62 rfl rfl (v := ?_) ?_ hHeld ?_
            rotate_left 1
            · (intro w hSw; clear hSw; go_simp; (try with_reducible rfl))
            (try simp only [Act.put, lsT, lsZ, lsS]); refine wpAnyH_ready (rs := [3, 7, 9]) (by kernel_rfl) (by simp) ?_; refine (AllReadyH.cons rfl (fun K hK => ?_) (AllReadyH.cons rfl (fun K hK => ?_) (AllReadyH.cons rfl (fun K hK => ?_) AllReadyH.nil)))
            · go_simp; refine hK.out _ _ trivial (fun hHeld => ?_); clear hK K; (try simp only [Act.put, lsT, lsZ, lsS]); refine takeY 8 64 rfl rfl (v := ?_) ?_ hHeld ?_
              rotate_left 1
              · (intro w hSw; clear hSw; go_simp; (try with_reducible rfl))
              (try simp only [Act.put, lsT, lsZ, lsS]); refine wpAnyH_ready (rs := [7, 9]) (by kernel_rfl) (by simp) ?_; refine (AllReadyH.cons rfl (fun K hK => ?_) (AllReadyH.cons rfl (fun K hK => ?_) AllReadyH.nil))
              focus
                go_simp; go_at_call 101; refine (hrd.out _ hM0.pr).mono ?_; rintro e w1 ⟨t, he, htv, htR, p1, hu1⟩; have hM1 := hM0.moved p1 hu1 (fun i e => e); have ht1 := hM0.tree htR; obtain ⟨tk, tn, ts, ka, kc, la, lc, tks, tl, rfl, -, -, -, -⟩ := htR.open; rw [VT.arg_mk] at he; subst he; have htvh := Lib.hid htv; clear htv; have mx1 := hM1.x.at 4 rfl; have mq1 := hM1.pr.q.at 0 rfl; refine hK.out _ _ trivial (fun hHeld => ?_); clear hK K; (try simp only [Act.put, lsT, lsZ, lsS]); refine wpAnyH_ready (rs := [9]) (by kernel_rfl) (by simp) ?_; refine (AllReadyH.cons rfl (fun K hK => ?_) AllReadyH.nil); go_simp; have hM2 := hM1.alloc (.cells #[.int .u8 0, .int .u64 0, .string ⟨#[]⟩, .slice none 0 0, .slice none 0 0] 60); have bs := Blk.new w1 [.int .u8 0, .int .u64 0, .string ⟨#[]⟩, .slice none 0 0, .slice none 0 0] 60; have ht2 := ht1.pure ((Below.refl w1.heap.size w1).alloc (Nat.le_refl _) (.cells #[.int .u8 0, .int .u64 0, .string ⟨#[]⟩, .slice none 0 0, .slice none 0 0] 60)); have mx2 := hM2.x.at 4 rfl; have mq2 := hM2.pr.q.at 0 rfl; refine hK.out _ _ trivial (fun hHeld => ?_); clear hK K; (try simp only [Act.put, lsT, lsZ, lsS]); refine wpAnyH_ready (rs := [10]) (by kernel_rfl) (by simp) ?_; refine (AllReadyH.cons rfl (fun K hK => ?_) AllReadyH.nil); refine step_of_list rfl (wpList_appOne (base := w.heap.size) rfl (.tmp 59) (.tmp 65) 58 60 rfl elem_val vEnc_len _ L rfl hM2.lo _ 1 VT.zero (by simp [vEnc, VT.zero, VT.k, VT.n, VT.s, VT.kv, VT.lv, Value.oneCell']) rfl (fun j u hu => (bs.cell j).trans hu) (by have := hLl.out; omega) (by have := hLl.out; unfold maxLen; omega) hM2.up.size ?_); intro g cap w3 hO3 hgr3 hf3; refine ⟨rfl, ?_⟩; obtain ⟨hx3, hx4, hM5⟩ := hM2.elem hO3 hgr3 hf3 ht2; obtain ⟨hO4, hM6⟩ := hM2.elem2 hO3 hgr3 hf3 ht2
              rotate_left 1
              focus
                go_simp; have hM1 := hM0.alloc (.cells #[.int .u8 0, .int .u64 0, .string ⟨#[]⟩, .slice none 0 0, .slice none 0 0] 60); have bs := Blk.new wc.drew [.int .u8 0, .int .u64 0, .string ⟨#[]⟩, .slice none 0 0, .slice none 0 0] 60; have hMa := hMc.alloc (.cells #[.int .u8 0, .int .u64 0, .string ⟨#[]⟩, .slice none 0 0, .slice none 0 0] 60); have ma := hMa.x.at 4 rfl; have mb := hMa.pr.q.at 0 rfl; have mx1 := hM1.x.at 4 rfl; have mq1 := hM1.pr.q.at 0 rfl; refine hK.out _ _ trivial (fun hHeld => ?_); clear hK K; (try simp only [Act.put, lsT, lsZ, lsS]); refine wpAnyH_ready (rs := [7]) (by kernel_rfl) (by simp) ?_; refine (AllReadyH.cons rfl (fun K hK => ?_) AllReadyH.nil); go_simp; go_at_call 101; refine (hrd.out _ hM1.pr).mono ?_; rintro e w1 ⟨t, he, htv, htR, p1, hu1⟩; have hM2 := hM1.moved p1 hu1 (fun i e => e); have ht1 := hM1.tree htR; obtain ⟨tk, tn, ts, ka, kc, la, lc, tks, tl, rfl, -, -, -, -⟩ := htR.open; rw [VT.arg_mk] at he; subst he; have htvh := Lib.hid htv; clear htv; have mx2 := hM2.x.at 4 rfl; have mq2 := hM2.pr.q.at 0 rfl; refine hK.out _ _ trivial (fun hHeld => ?_); clear hK K; (try simp only [Act.put, lsT, lsZ, lsS]); refine wpAnyH_ready (rs := [10]) (by kernel_rfl) (by simp) ?_; refine (AllReadyH.cons rfl (fun K hK => ?_) AllReadyH.nil); have bs1 := bs.upd hu1 (fun e => by have h1 := hM0.lt; have h2 := hM0.xl; have h3 := hM0.up.size; have h4 := hM0.pr.vq; unfold Two at e; omega); refine step_of_list rfl (wpList_appOne (base := w.heap.size) rfl (.tmp 59) (.tmp 65) 58 60 rfl elem_val vEnc_len _ L rfl hM2.lo _ 1 VT.zero (by simp [vEnc, VT.zero, VT.k, VT.n, VT.s, VT.kv, VT.lv, Value.oneCell']) rfl (fun j u hu => (bs1.cell j).trans hu) (by have := hLl.out; omega) (by have := hLl.out; unfold maxLen; omega) hM2.up.size ?_); intro g cap w3 hO3 hgr3 hf3; refine ⟨rfl, ?_⟩; obtain ⟨hx3, hx4, hM5⟩ := hM2.elem hO3 hgr3 hf3 ht1; obtain ⟨hO4, hM6⟩ := hM2.elem2 hO3 hgr3 hf3 ht1
              rotate_left 1
              all_goals
                have r0 := hO3.cell vEnc_len L.length (by simp) 0 _ (by rw [List.getElem_append_right (Nat.le_refl _)]; simp [vEnc]; rfl); have r1 := hO3.cell vEnc_len L.length (by simp) 1 _ (by rw [List.getElem_append_right (Nat.le_refl _)]; simp [vEnc]; rfl); have r2 := hO3.cell vEnc_len L.length (by simp) 2 _ (by rw [List.getElem_append_right (Nat.le_refl _)]; simp [vEnc]; rfl); have r3 := hO3.cell vEnc_len L.length (by simp) 3 _ (by rw [List.getElem_append_right (Nat.le_refl _)]; simp [vEnc]; rfl); have r4 := hO3.cell vEnc_len L.length (by simp) 4 _ (by rw [List.getElem_append_right (Nat.le_refl _)]; simp [vEnc]; rfl); have rr0 := hO4.cell vEnc_len L.length (by simp) 0 _ (by rw [List.getElem_append_right (Nat.le_refl _)]; simp [vEnc]; rfl); have rr1 := hO4.cell vEnc_len L.length (by simp) 1 _ (by rw [List.getElem_append_right (Nat.le_refl _)]; simp [vEnc]; rfl); have rr2 := hO4.cell vEnc_len L.length (by simp) 2 _ (by rw [List.getElem_append_right (Nat.le_refl _)]; simp [vEnc]; rfl); have rr3 := hO4.cell vEnc_len L.length (by simp) 3 _ (by rw [List.getElem_append_right (Nat.le_refl _)]; simp [vEnc]; rfl); have rr4 := hO4.cell vEnc_len L.length (by simp) 4 _ (by rw [List.getElem_append_right (Nat.le_refl _)]; simp [vEnc]; rfl); rw [Nat.add_zero] at r0 rr0; have z0 := hO3.frozen (L.length * 5); have z1 := hO3.frozen (L.length * 5 + 1); have z2 := hO3.frozen (L.length * 5 + 2); have z3 := hO3.frozen (L.length * 5 + 3); have z4 := hO3.frozen (L.length * 5 + 4); have zz0 := hO4.frozen (L.length * 5); have zz1 := hO4.frozen (L.length * 5 + 1); have zz2 := hO4.frozen (L.length * 5 + 2); have zz3 := hO4.frozen (L.length * 5 + 3); have zz4 := hO4.frozen (L.length * 5 + 4); have my0 := hx3.at 4 rfl; have mz0 := hx3.frozen 4; have hl1x : (L.length : Int) < (L.length : Int) + 1 := by omega
                have my := hx4.at 4 rfl; have mz := hx4.frozen 4; simp only [VT.k, VT.n, VT.s, VT.kv, VT.lv] at my mz; refine hK.out _ _ trivial (fun hHeld => ?_); clear hK K; (try simp only [Act.put, lsT, lsZ, lsS]); refine takeY 11 67 rfl rfl (v := ?_) ?_ hHeld ?_
                rotate_left 1
                · (intro w hSw; clear hSw; go_simp; (try with_reducible rfl))
                (try simp only [Act.put, lsT, lsZ, lsS]); refine takeY 13 68 rfl rfl (v := ?_) ?_ hHeld ?_
                rotate_left 1
                · (intro w hSw; clear hSw; go_simp; (try with_reducible rfl))
                (try simp only [Act.put, lsT, lsZ, lsS]); refine takeY 14 69 rfl rfl (v := ?_) ?_ hHeld ?_
                rotate_left 1
                · (intro w hSw; clear hSw; go_simp; (try with_reducible rfl))
                (try simp only [Act.put, lsT, lsZ, lsS]); refine wpAnyH_ready (rs := [12, 15]) (by kernel_rfl) (by simp) ?_; refine (AllReadyH.cons rfl (fun K hK => ?_) (AllReadyH.cons rfl (fun K hK => ?_) AllReadyH.nil))
                · go_simp; refine hK.out _ _ trivial (fun hHeld => ?_); clear hK K; (try simp only [Act.put, lsT, lsZ, lsS]); refine wpAnyH_ready (rs := [15]) (by kernel_rfl) (by simp) ?_; refine (AllReadyH.cons rfl (fun K hK => ?_) AllReadyH.nil); go_simp; refine hK.out _ _ trivial (fun hHeld => ?_); clear hK K; (try simp only [Act.put, lsT, lsZ, lsS]); refine wpAnyH_done (by kernel_rfl) ?_ _; go_wp2; go_roundw
                  case rel => exact ⟨j + 1, _, _, _, _, l1, b2', by omega, by go_num, Lib.hid hM5, Lib.hid ⟨by have := hlen.out.1; simp; omega, by have := hkl2.out; omega⟩, hl0', hl1', hlb, Lib.hid (by rw [hT2.out, List.map_append, ← htvh.out]; rfl)⟩
                  case measure => simp [intOf]; omega
                · go_simp; refine hK.out _ _ trivial (fun hHeld => ?_); clear hK K; (try simp only [Act.put, lsT, lsZ, lsS]); refine wpAnyH_ready (rs := [12]) (by kernel_rfl) (by simp) ?_; refine (AllReadyH.cons rfl (fun K hK => ?_) AllReadyH.nil); go_simp; refine hK.out _ _ trivial (fun hHeld => ?_); clear hK K; (try simp only [Act.put, lsT, lsZ, lsS]); refine wpAnyH_done (by kernel_rfl) ?_ _; go_wp2; go_roundw
                  case rel => exact ⟨j + 1, _, _, _, _, l1, b2', by omega, by go_num, Lib.hid hM6, Lib.hid ⟨by have := hlen.out.1; simp; omega, by have := hkl2.out; omega⟩, hl0', hl1', hlb, Lib.hid (by rw [hT2.out, List.map_append, ← htvh.out]; rfl)⟩
                  case measure => simp [intOf]; omega
            · go_simp; go_at_call 101; refine (hrd.out _ hM0.pr).mono ?_; rintro e w1 ⟨t, he, htv, htR, p1, hu1⟩; have hM1 := hM0.moved p1 hu1 (fun i e => e); have ht1 := hM0.tree htR; obtain ⟨tk, tn, ts, ka, kc, la, lc, tks, tl, rfl, -, -, -, -⟩ := htR.open; rw [VT.arg_mk] at he; subst he; have htvh := Lib.hid htv; clear htv; have mx1 := hM1.x.at 4 rfl; have mq1 := hM1.pr.q.at 0 rfl; refine hK.out _ _ trivial (fun hHeld => ?_); clear hK K; (try simp only [Act.put, lsT, lsZ, lsS]); refine wpAnyH_ready (rs := [3, 9]) (by kernel_rfl) (by simp) ?_; refine (AllReadyH.cons rfl (fun K hK => ?_) (AllReadyH.cons rfl (fun K hK => ?_) AllReadyH.nil))
              focus
                go_simp; refine hK.out _ _ trivial (fun hHeld => ?_); clear hK K; (try simp only [Act.put, lsT, lsZ, lsS]); refine takeY 8 64 rfl rfl (v := ?_) ?_ hHeld ?_
                rotate_left 1
                · (intro w hSw; clear hSw; go_simp; (try with_reducible rfl))
                (try simp only [Act.put, lsT, lsZ, lsS]); refine wpAnyH_ready (rs := [9]) (by kernel_rfl) (by simp) ?_; refine (AllReadyH.cons rfl (fun K hK => ?_) AllReadyH.nil); go_simp; have hM2 := hM1.alloc (.cells #[.int .u8 0, .int .u64 0, .string ⟨#[]⟩, .slice none 0 0, .slice none 0 0] 60); have bs := Blk.new w1 [.int .u8 0, .int .u64 0, .string ⟨#[]⟩, .slice none 0 0, .slice none 0 0] 60; have ht2 := ht1.pure ((Below.refl w1.heap.size w1).alloc (Nat.le_refl _) (.cells #[.int .u8 0, .int .u64 0, .string ⟨#[]⟩, .slice none 0 0, .slice none 0 0] 60)); have mx2 := hM2.x.at 4 rfl; have mq2 := hM2.pr.q.at 0 rfl; refine hK.out _ _ trivial (fun hHeld => ?_); clear hK K
              rotate_left 1
              focus
                go_simp; have hM2 := hM1.alloc (.cells #[.int .u8 0, .int .u64 0, .string ⟨#[]⟩, .slice none 0 0, .slice none 0 0] 60); have bs := Blk.new w1 [.int .u8 0, .int .u64 0, .string ⟨#[]⟩, .slice none 0 0, .slice none 0 0] 60; have ht2 := ht1.pure ((Below.refl w1.heap.size w1).alloc (Nat.le_refl _) (.cells #[.int .u8 0, .int .u64 0, .string ⟨#[]⟩, .slice none 0 0, .slice none 0 0] 60)); have mx2 := hM2.x.at 4 rfl; have mq2 := hM2.pr.q.at 0 rfl; refine hK.out _ _ trivial (fun hHeld => ?_); clear hK K; (try simp only [Act.put, lsT, lsZ, lsS]); refine wpAnyH_ready (rs := [3]) (by kernel_rfl) (by simp) ?_; refine (AllReadyH.cons rfl (fun K hK => ?_) AllReadyH.nil); go_simp; refine hK.out _ _ trivial (fun hHeld => ?_); clear hK K; (try simp only [Act.put, lsT, lsZ, lsS]); refine takeY 8 64 rfl rfl (v := ?_) ?_ hHeld ?_
                rotate_left 1
                · (intro w hSw; clear hSw; go_simp; (try with_reducible rfl))
              rotate_left 1
              all_goals
                (try simp only [Act.put, lsT, lsZ, lsS]); refine wpAnyH_ready (rs := [10]) (by kernel_rfl) (by simp) ?_; refine (AllReadyH.cons rfl (fun K hK => ?_) AllReadyH.nil); refine step_of_list rfl (wpList_appOne (base := w.heap.size) rfl (.tmp 59) (.tmp 65) 58 60 rfl elem_val vEnc_len _ L rfl hM2.lo _ 1 VT.zero (by simp [vEnc, VT.zero, VT.k, VT.n, VT.s, VT.kv, VT.lv, Value.oneCell']) rfl (fun j u hu => (bs.cell j).trans hu) (by have := hLl.out; omega) (by have := hLl.out; unfold maxLen; omega) hM2.up.size ?_); intro g cap w3 hO3 hgr3 hf3; refine ⟨rfl, ?_⟩; obtain ⟨hx3, hx4, hM5⟩ := hM2.elem hO3 hgr3 hf3 ht2; obtain ⟨hO4, hM6⟩ := hM2.elem2 hO3 hgr3 hf3 ht2; have r0 := hO3.cell vEnc_len L.length (by simp) 0 _ (by rw [List.getElem_append_right (Nat.le_refl _)]; simp [vEnc]; rfl); have r1 := hO3.cell vEnc_len L.length (by simp) 1 _ (by rw [List.getElem_append_right (Nat.le_refl _)]; simp [vEnc]; rfl); have r2 := hO3.cell vEnc_len L.length (by simp) 2 _ (by rw [List.getElem_append_right (Nat.le_refl _)]; simp [vEnc]; rfl); have r3 := hO3.cell vEnc_len L.length (by simp) 3 _ (by rw [List.getElem_append_right (Nat.le_refl _)]; simp [vEnc]; rfl); have r4 := hO3.cell vEnc_len L.length (by simp) 4 _ (by rw [List.getElem_append_right (Nat.le_refl _)]; simp [vEnc]; rfl); have rr0 := hO4.cell vEnc_len L.length (by simp) 0 _ (by rw [List.getElem_append_right (Nat.le_refl _)]; simp [vEnc]; rfl); have rr1 := hO4.cell vEnc_len L.length (by simp) 1 _ (by rw [List.getElem_append_right (Nat.le_refl _)]; simp [vEnc]; rfl); have rr2 := hO4.cell vEnc_len L.length (by simp) 2 _ (by rw [List.getElem_append_right (Nat.le_refl _)]; simp [vEnc]; rfl); have rr3 := hO4.cell vEnc_len L.length (by simp) 3 _ (by rw [List.getElem_append_right (Nat.le_refl _)]; simp [vEnc]; rfl); have rr4 := hO4.cell vEnc_len L.length (by simp) 4 _ (by rw [List.getElem_append_right (Nat.le_refl _)]; simp [vEnc]; rfl); rw [Nat.add_zero] at r0 rr0; have z0 := hO3.frozen (L.length * 5); have z1 := hO3.frozen (L.length * 5 + 1); have z2 := hO3.frozen (L.length * 5 + 2); have z3 := hO3.frozen (L.length * 5 + 3); have z4 := hO3.frozen (L.length * 5 + 4); have zz0 := hO4.frozen (L.length * 5); have zz1 := hO4.frozen (L.length * 5 + 1); have zz2 := hO4.frozen (L.length * 5 + 2); have zz3 := hO4.frozen (L.length * 5 + 3); have zz4 := hO4.frozen (L.length * 5 + 4); have my0 := hx3.at 4 rfl; have mz0 := hx3.frozen 4; have hl1x : (L.length : Int) < (L.length : Int) + 1 := by omega
                have my := hx4.at 4 rfl; have mz := hx4.frozen 4; simp only [VT.k, VT.n, VT.s, VT.kv, VT.lv] at my mz; refine hK.out _ _ trivial (fun hHeld => ?_); clear hK K; (try simp only [Act.put, lsT, lsZ, lsS]); refine takeY 11 67 rfl rfl (v := ?_) ?_ hHeld ?_
                rotate_left 1
                · (intro w hSw; clear hSw; go_simp; (try with_reducible rfl))
                (try simp only [Act.put, lsT, lsZ, lsS]); refine takeY 13 68 rfl rfl (v := ?_) ?_ hHeld ?_
                rotate_left 1
                · (intro w hSw; clear hSw; go_simp; (try with_reducible rfl))
                (try simp only [Act.put, lsT, lsZ, lsS]); refine takeY 14 69 rfl rfl (v := ?_) ?_ hHeld ?_
                rotate_left 1
                · (intro w hSw; clear hSw; go_simp; (try with_reducible rfl))
                (try simp only [Act.put, lsT, lsZ, lsS]); refine wpAnyH_ready (rs := [12, 15]) (by kernel_rfl) (by simp) ?_; refine (AllReadyH.cons rfl (fun K hK => ?_) (AllReadyH.cons rfl (fun K hK => ?_) AllReadyH.nil))
                · go_simp; refine hK.out _ _ trivial (fun hHeld => ?_); clear hK K; (try simp only [Act.put, lsT, lsZ, lsS]); refine wpAnyH_ready (rs := [15]) (by kernel_rfl) (by simp) ?_; refine (AllReadyH.cons rfl (fun K hK => ?_) AllReadyH.nil); go_simp; refine hK.out _ _ trivial (fun hHeld => ?_); clear hK K; (try simp only [Act.put, lsT, lsZ, lsS]); refine wpAnyH_done (by kernel_rfl) ?_ _; go_wp2; go_roundw
                  case rel => exact ⟨j + 1, _, _, _, _, l1, b2', by omega, by go_num, Lib.hid hM5, Lib.hid ⟨by have := hlen.out.1; simp; omega, by have := hkl2.out; omega⟩, hl0', hl1', hlb, Lib.hid (by rw [hT2.out, List.map_append, ← htvh.out]; rfl)⟩
                  case measure => simp [intOf]; omega
                · go_simp; refine hK.out _ _ trivial (fun hHeld => ?_); clear hK K; (try simp only [Act.put, lsT, lsZ, lsS]); refine wpAnyH_ready (rs := [12]) (by kernel_rfl) (by simp) ?_; refine (AllReadyH.cons rfl (fun K hK => ?_) AllReadyH.nil); go_simp; refine hK.out _ _ trivial (fun hHeld => ?_); clear hK K; (try simp only [Act.put, lsT, lsZ, lsS]); refine wpAnyH_done (by kernel_rfl) ?_ _; go_wp2; go_roundw
                  case rel => exact ⟨j + 1, _, _, _, _, l1, b2', by omega, by go_num, Lib.hid hM6, Lib.hid ⟨by have := hlen.out.1; simp; omega, by have := hkl2.out; omega⟩, hl0', hl1', hlb, Lib.hid (by rw [hT2.out, List.map_append, ← htvh.out]; rfl)⟩
                  case measure => simp [intOf]; omega
            · go_simp; have hM1 := hM0.alloc (.cells #[.int .u8 0, .int .u64 0, .string ⟨#[]⟩, .slice none 0 0, .slice none 0 0] 60); have bs := Blk.new wc.drew [.int .u8 0, .int .u64 0, .string ⟨#[]⟩, .slice none 0 0, .slice none 0 0] 60; have hMa := hMc.alloc (.cells #[.int .u8 0, .int .u64 0, .string ⟨#[]⟩, .slice none 0 0, .slice none 0 0] 60); have ma := hMa.x.at 4 rfl; have mb := hMa.pr.q.at 0 rfl; have mx1 := hM1.x.at 4 rfl; have mq1 := hM1.pr.q.at 0 rfl; refine hK.out _ _ trivial (fun hHeld => ?_); clear hK K; (try simp only [Act.put, lsT, lsZ, lsS]); refine wpAnyH_ready (rs := [3, 7]) (by kernel_rfl) (by simp) ?_; refine (AllReadyH.cons rfl (fun K hK => ?_) (AllReadyH.cons rfl (fun K hK => ?_) AllReadyH.nil))
              focus
                go_simp; refine hK.out _ _ trivial (fun hHeld => ?_); clear hK K; (try simp only [Act.put, lsT, lsZ, lsS]); refine takeY 8 64 rfl rfl (v := ?_) ?_ hHeld ?_
                rotate_left 1
                · (intro w hSw; clear hSw; go_simp; (try with_reducible rfl))
                (try simp only [Act.put, lsT, lsZ, lsS]); refine wpAnyH_ready (rs := [7]) (by kernel_rfl) (by simp) ?_; refine (AllReadyH.cons rfl (fun K hK => ?_) AllReadyH.nil); go_simp; go_at_call 101; refine (hrd.out _ hM1.pr).mono ?_; rintro e w1 ⟨t, he, htv, htR, p1, hu1⟩; have hM2 := hM1.moved p1 hu1 (fun i e => e); have ht1 := hM1.tree htR; obtain ⟨tk, tn, ts, ka, kc, la, lc, tks, tl, rfl, -, -, -, -⟩ := htR.open; rw [VT.arg_mk] at he; subst he; have htvh := Lib.hid htv; clear htv; have mx2 := hM2.x.at 4 rfl; have mq2 := hM2.pr.q.at 0 rfl; refine hK.out _ _ trivial (fun hHeld => ?_); clear hK K
              rotate_left 1
              focus
                go_simp; go_at_call 101; refine (hrd.out _ hM1.pr).mono ?_; rintro e w1 ⟨t, he, htv, htR, p1, hu1⟩; have hM2 := hM1.moved p1 hu1 (fun i e => e); have ht1 := hM1.tree htR; obtain ⟨tk, tn, ts, ka, kc, la, lc, tks, tl, rfl, -, -, -, -⟩ := htR.open; rw [VT.arg_mk] at he; subst he; have htvh := Lib.hid htv; clear htv; have mx2 := hM2.x.at 4 rfl; have mq2 := hM2.pr.q.at 0 rfl; refine hK.out _ _ trivial (fun hHeld => ?_); clear hK K; (try simp only [Act.put, lsT, lsZ, lsS]); refine wpAnyH_ready (rs := [3]) (by kernel_rfl) (by simp) ?_; refine (AllReadyH.cons rfl (fun K hK => ?_) AllReadyH.nil); go_simp; refine hK.out _ _ trivial (fun hHeld => ?_); clear hK K; (try simp only [Act.put, lsT, lsZ, lsS]); refine takeY 8 64 rfl rfl (v := ?_) ?_ hHeld ?_
                rotate_left 1
                · (intro w hSw; clear hSw; go_simp; (try with_reducible rfl))
              rotate_left 1
              all_goals
                (try simp only [Act.put, lsT, lsZ, lsS]); refine wpAnyH_ready (rs := [10]) (by kernel_rfl) (by simp) ?_; refine (AllReadyH.cons rfl (fun K hK => ?_) AllReadyH.nil); have bs1 := bs.upd hu1 (fun e => by have h1 := hM0.lt; have h2 := hM0.xl; have h3 := hM0.up.size; have h4 := hM0.pr.vq; unfold Two at e; omega); refine step_of_list rfl (wpList_appOne (base := w.heap.size) rfl (.tmp 59) (.tmp 65) 58 60 rfl elem_val vEnc_len _ L rfl hM2.lo _ 1 VT.zero (by simp [vEnc, VT.zero, VT.k, VT.n, VT.s, VT.kv, VT.lv, Value.oneCell']) rfl (fun j u hu => (bs1.cell j).trans hu) (by have := hLl.out; omega) (by have := hLl.out; unfold maxLen; omega) hM2.up.size ?_); intro g cap w3 hO3 hgr3 hf3; refine ⟨rfl, ?_⟩; obtain ⟨hx3, hx4, hM5⟩ := hM2.elem hO3 hgr3 hf3 ht1; obtain ⟨hO4, hM6⟩ := hM2.elem2 hO3 hgr3 hf3 ht1; have r0 := hO3.cell vEnc_len L.length (by simp) 0 _ (by rw [List.getElem_append_right (Nat.le_refl _)]; simp [vEnc]; rfl); have r1 := hO3.cell vEnc_len L.length (by simp) 1 _ (by rw [List.getElem_append_right (Nat.le_refl _)]; simp [vEnc]; rfl); have r2 := hO3.cell vEnc_len L.length (by simp) 2 _ (by rw [List.getElem_append_right (Nat.le_refl _)]; simp [vEnc]; rfl); have r3 := hO3.cell vEnc_len L.length (by simp) 3 _ (by rw [List.getElem_append_right (Nat.le_refl _)]; simp [vEnc]; rfl); have r4 := hO3.cell vEnc_len L.length (by simp) 4 _ (by rw [List.getElem_append_right (Nat.le_refl _)]; simp [vEnc]; rfl); have rr0 := hO4.cell vEnc_len L.length (by simp) 0 _ (by rw [List.getElem_append_right (Nat.le_refl _)]; simp [vEnc]; rfl); have rr1 := hO4.cell vEnc_len L.length (by simp) 1 _ (by rw [List.getElem_append_right (Nat.le_refl _)]; simp [vEnc]; rfl); have rr2 := hO4.cell vEnc_len L.length (by simp) 2 _ (by rw [List.getElem_append_right (Nat.le_refl _)]; simp [vEnc]; rfl); have rr3 := hO4.cell vEnc_len L.length (by simp) 3 _ (by rw [List.getElem_append_right (Nat.le_refl _)]; simp [vEnc]; rfl); have rr4 := hO4.cell vEnc_len L.length (by simp) 4 _ (by rw [List.getElem_append_right (Nat.le_refl _)]; simp [vEnc]; rfl); rw [Nat.add_zero] at r0 rr0; have z0 := hO3.frozen (L.length * 5); have z1 := hO3.frozen (L.length * 5 + 1); have z2 := hO3.frozen (L.length * 5 + 2); have z3 := hO3.frozen (L.length * 5 + 3); have z4 := hO3.frozen (L.length * 5 + 4); have zz0 := hO4.frozen (L.length * 5); have zz1 := hO4.frozen (L.length * 5 + 1); have zz2 := hO4.frozen (L.length * 5 + 2); have zz3 := hO4.frozen (L.length * 5 + 3); have zz4 := hO4.frozen (L.length * 5 + 4); have my0 := hx3.at 4 rfl; have mz0 := hx3.frozen 4; have hl1x : (L.length : Int) < (L.length : Int) + 1 := by omega
                have my := hx4.at 4 rfl; have mz := hx4.frozen 4; simp only [VT.k, VT.n, VT.s, VT.kv, VT.lv] at my mz; refine hK.out _ _ trivial (fun hHeld => ?_); clear hK K; (try simp only [Act.put, lsT, lsZ, lsS]); refine takeY 11 67 rfl rfl (v := ?_) ?_ hHeld ?_
                rotate_left 1
                · (intro w hSw; clear hSw; go_simp; (try with_reducible rfl))
                (try simp only [Act.put, lsT, lsZ, lsS]); refine takeY 13 68 rfl rfl (v := ?_) ?_ hHeld ?_
                rotate_left 1
                · (intro w hSw; clear hSw; go_simp; (try with_reducible rfl))
                (try simp only [Act.put, lsT, lsZ, lsS]); refine takeY 14 69 rfl rfl (v := ?_) ?_ hHeld ?_
                rotate_left 1
                · (intro w hSw; clear hSw; go_simp; (try with_reducible rfl))
                (try simp only [Act.put, lsT, lsZ, lsS]); refine wpAnyH_ready (rs := [12, 15]) (by kernel_rfl) (by simp) ?_; refine (AllReadyH.cons rfl (fun K hK => ?_) (AllReadyH.cons rfl (fun K hK => ?_) AllReadyH.nil))
                · go_simp; refine hK.out _ _ trivial (fun hHeld => ?_); clear hK K; (try simp only [Act.put, lsT, lsZ, lsS]); refine wpAnyH_ready (rs := [15]) (by kernel_rfl) (by simp) ?_; refine (AllReadyH.cons rfl (fun K hK => ?_) AllReadyH.nil); go_simp; refine hK.out _ _ trivial (fun hHeld => ?_); clear hK K; (try simp only [Act.put, lsT, lsZ, lsS]); refine wpAnyH_done (by kernel_rfl) ?_ _; go_wp2; go_roundw
                  case rel => exact ⟨j + 1, _, _, _, _, l1, b2', by omega, by go_num, Lib.hid hM5, Lib.hid ⟨by have := hlen.out.1; simp; omega, by have := hkl2.out; omega⟩, hl0', hl1', hlb, Lib.hid (by rw [hT2.out, List.map_append, ← htvh.out]; rfl)⟩
                  case measure => simp [intOf]; omega
                · go_simp; refine hK.out _ _ trivial (fun hHeld => ?_); clear hK K; (try simp only [Act.put, lsT, lsZ, lsS]); refine wpAnyH_ready (rs := [12]) (by kernel_rfl) (by simp) ?_; refine (AllReadyH.cons rfl (fun K hK => ?_) AllReadyH.nil); go_simp; refine hK.out _ _ trivial (fun hHeld => ?_); clear hK K; (try simp only [Act.put, lsT, lsZ, lsS]); refine wpAnyH_done (by kernel_rfl) ?_ _; go_wp2; go_roundw
                  case rel => exact ⟨j + 1, _, _, _, _, l1, b2', by omega, by go_num, Lib.hid hM6, Lib.hid ⟨by have := hlen.out.1; simp; omega, by have := hkl2.out; omega⟩, hl0', hl1', hlb, Lib.hid (by rw [hT2.out, List.map_append, ← htvh.out]; rfl)⟩
                  case measure => simp [intOf]; omega
    · obtain rfl : j = n := by omega
      have hfin := Lib.hid (show rdM (rdP d) true left b = if b2.length - bj.length = size then some (ks, L.map VT.v, lj, bj) else none by rw [hr.out, hT.out, Nat.sub_self, glue_end]; rfl); have q0 := hM.pr.q.at 0 rfl; have hb1 := hbj.out; have hb2 := hL32.out; have wy : IntKind.u64.wrap ((b2.length : Int) - (bj.length : Int)) = (b2.length : Int) - (bj.length : Int) := wrap_u64 _ (by omega) (by have := hL2.le; omega); have hpr := Lib.hid hM.pr; have hMz := Lib.hid hM; have hb2L := Lib.hid hL2.le; clear hM hMh hbj hT hr hL2 hL3 hLj; by_cases hse : b2.length - bj.length = size
      · have hs1 : ((b2.length : Int) - (bj.length : Int) == (size : Int)) = true := by rw [beq_iff_eq]; omega
        have hs2 := Lib.hid hse; clear hse; have hb3 : (bj.length : Int) ≤ (b2.length : Int) := by omega
        have hb4 : (b2.length : Int) ≤ 70368744177664 := by have := hb2L.out; omega
        go_wp2_with (first | (go_at_call 81; (with_reducible refine (pleft _ qb rb vb lj bj false hpr.out).mono ?_); rintro e _ ⟨rfl, rfl⟩) | (go_at_call 102; (with_reducible refine (vmust_ok _ qb rb vb lj bj hpr.out).mono ?_); rintro e _ ⟨rfl, rfl⟩)); go_end0; rw [hfin.out, if_pos hs2.out]; have hM := hMz.out; exact ⟨_, _, L, rfl, hM.x, hM.ko, hM.lo, rfl, fun x hx => (hM.rd x hx).weaken (fun i _ hi => hi.1), hM.pr, hM.up⟩
      · have hs1 : ((b2.length : Int) - (bj.length : Int) == (size : Int)) = false := beq_eq_false_iff_ne.2 (by omega); have hs2 := Lib.hid hse; clear hse; have hb3 : (bj.length : Int) ≤ (b2.length : Int) := by omega
        have hb4 : (b2.length : Int) ≤ 70368744177664 := by have := hb2L.out; omega
        go_wp2_with (first | (go_at_call 81; (with_reducible refine (pleft _ qb rb vb lj bj false hpr.out).mono ?_); rintro e _ ⟨rfl, rfl⟩) | (go_at_call 102; (with_reducible refine (vmust_no _ qb rb vb lj bj false false hpr.out (Or.inl rfl)).mono ?_); rintro e _ ⟨rfl, rfl⟩)); rw [hfin.out, if_neg hs2.out]; exact ⟨rfl, rfl, hMz.out.up⟩
end Go.Proofs.YtflglpbjapgciaaGreatDoor
