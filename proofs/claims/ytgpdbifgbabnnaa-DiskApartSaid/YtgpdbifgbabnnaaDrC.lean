/- The document's disk: Read, Sync, Cut, Remove, Rename, Append. Conditions: the disk is right, of less than a million files. Written by gen_drC.py. -/
import Derived.Test.YtgpdbifgbabnnaaDrB
namespace Go.Proofs.Ytgpdbifgbabnnaa
open Go.RowKit
set_option linter.unusedVariables false
set_option linter.unusedSimpArgs false
theorem results_tmp3 {fn : Func} {t u x : Tmp} (h : fn.results = #[.tmp t, .tmp u, .tmp x]) (tmps : Array Value) (P : Program) (w : World) :
    (results fn tmps).run P w = .ok (.tuple #[tmps.getD t undef, tmps.getD u undef, tmps.getD x undef]) w := by
  simp [results, h]
theorem bnD_L (s : DS) : (bnD s).L = s.L := by unfold bnD; split <;> rfl
theorem bnD_with (s : DS) (L : List Fl) : bnD { s with L := L } = { bnD s with L := L } := by unfold bnD; split <;> rfl
theorem bnD_off {s : DS} (h : s.off = false) (h1 : s.left ≠ 1) : (bnD s).off = false := by
  unfold bnD
  split
  · exact h
  · exact decide_eq_false h1
theorem bn_yes {s : DS} {L : List Fl} {t : Bool} (h : s.left = 1) : burnE s L t = ({ bnD s with L := if t then L else s.L }, 100) := by
  unfold burnE bnD
  have h0 : ¬ s.left = 0 := by omega
  rw [if_pos h, if_neg h0, h]
  rfl
theorem bn_no {s : DS} {L : List Fl} {t : Bool} (h : s.left ≠ 1) (h0 : 0 ≤ s.left) (ho : s.off = false) : burnE s L t = ({ bnD s with L := L }, 0) := by
  unfold burnE bnD
  rw [if_neg h]
  by_cases h2 : s.left = 0
  · rw [if_pos h2, if_neg (by omega)]
  · rw [if_neg h2, if_pos (by omega), decide_eq_false h]
    simp only [ho]
theorem DD.drew {w : World} {q : Nat} {v : Value} {s : DS} (h : DD w q v s) : DD w.drew q v s := ⟨h.1.drew, h.2.1.drew, h.2.2⟩
theorem DT.drew {w w' : World} {q : Nat} {v : Value} {s : DS} (h : DT w w' q v s) : DT w w'.drew q v s := by
  obtain ⟨v1, h1, h2, h3⟩ := h
  exact ⟨v1, h1.drew, h2.drew, h3⟩
/-- A cell of a file is written. -/
theorem DD.store {w : World} {q g n cap : Nat} {s : DS} (h : DD w q (.slice (some ⟨g, 0, none⟩) n cap) s) (k : Nat) (hk : k < s.L.length) (j : Nat) (u : Value) (f : Fl) (hj : j < 3) (hx : flEnc f = (flEnc s.L[k]).set j u) :
    DD (w.setCell ⟨g, k * 3 + j, none⟩ u) q (.slice (some ⟨g, 0, none⟩) n cap) { s with L := s.L.set k f } := by
  have hne : q ≠ g := fun e => h.2.2 (by rw [e]; rfl)
  exact ⟨h.1.other _ _ hne, h.2.1.set flEnc_len k hk j u f hj hx, h.2.2⟩
/-- A step behind a step. -/
theorem DT.more {w w1 w2 : World} {q : Nat} {v v1 : Value} {s1 s2 : DS} (h : DD w1 q v1 s1) (u : Upd (DQ q v) w w1) (k : ∀ i, DQ q v1 i → DQ q v i ∨ w.heap.size ≤ i) (h2 : DT w1 w2 q v1 s2) : DT w w2 q v s2 := DT.trans ⟨v1, h, u, k, h2⟩
theorem DT.store {w : World} {q g n cap : Nat} {s : DS} (h : DD w q (.slice (some ⟨g, 0, none⟩) n cap) s) (k : Nat) (hk : k < s.L.length) (j : Nat) (u : Value) (f : Fl) (hj : j < 3) (hx : flEnc f = (flEnc s.L[k]).set j u) :
    DT w (w.setCell ⟨g, k * 3 + j, none⟩ u) q (.slice (some ⟨g, 0, none⟩) n cap) { s with L := s.L.set k f } :=
  ⟨_, h.store k hk j u f hj hx, Upd.set (S := DQ q (.slice (some ⟨g, 0, none⟩) n cap)) (p := ⟨g, k * 3 + j, none⟩) (.inr rfl) _, fun i hi => .inl hi⟩
theorem DD.oth {w : World} {q : Nat} {v : Value} {s : DS} (h : DD w q v s) (p : Addr) (u : Value) (hne : ¬ DQ q v p.block) : DD (w.setCell p u) q v s :=
  ⟨h.1.other _ _ (fun e => hne (.inl e.symm)), h.2.1.other _ _ (fun k hk e => hne (.inr (e ▸ hk))), h.2.2⟩
/-- What has been done since w, whatever new blocks were written. -/
def DX (w w' : World) (q : Nat) (v v' : Value) : Prop := Upd (DQ q v) w w' ∧ ∀ k, DQ q v' k → DQ q v k ∨ w.heap.size ≤ k
theorem DX.step {w w1 w2 : World} {q : Nat} {v v1 v2 : Value} (h : DX w w1 q v v1) (u : Upd (DQ q v1) w1 w2) (k : ∀ i, DQ q v2 i → DQ q v1 i ∨ w1.heap.size ≤ i) : DX w w2 q v v2 := by
  refine ⟨h.1.trans u (fun i hi hl => ?_), fun i hi => ?_⟩
  · rcases h.2 i hi with h | h
    · exact h
    · omega
  · rcases k i hi with h1 | h1
    · exact h.2 i h1
    · exact .inr (Nat.le_trans h.1.size h1)
theorem DX.below {w w1 w2 : World} {q : Nat} {v v1 : Value} (h : DX w w1 q v v1) (hb : Below w1.heap.size w1 w2) : DX w w2 q v v1 := h.step (Upd.of_below hb) (fun i hi => .inl hi)
theorem DX.fresh {w w1 : World} {q : Nat} {v v1 : Value} (h : DX w w1 q v v1) (p : Addr) (u : Value) (hp : w.heap.size ≤ p.block) : DX w (w1.setCell p u) q v v1 :=
  ⟨h.1.trans (Upd.set (S := fun i => i = p.block) (p := p) rfl u) (fun i hi hl => by omega), h.2⟩
theorem setF_delF : ∀ {L : List Fl} {f : Fl} {y : ByteArray}, Rises L → f.n = y → setF (delF L y) f = setF L f
  | [], f, y, _, _ => rfl
  | g :: L, f, y, hr, e => by
    obtain ⟨h1, h2⟩ := List.pairwise_cons.1 hr
    subst e
    rw [delF_cons]
    by_cases hg : g.n.toList = f.n.toList
    · rw [if_pos hg]
      have hgn : g.n = f.n := toList_inj hg
      have hall : ∀ k ∈ L, ltN f.n k.n := fun k hk => by rw [← hgn]; exact h1 k hk
      rw [delF_none (getF_all hall)]
      have e2 : setF (g :: L) f = f :: L := by unfold setF; rw [if_pos hg]
      rw [e2]
      cases L with
      | nil => rfl
      | cons h t =>
        have hh := hall h (List.mem_cons_self ..)
        unfold setF
        rw [if_neg (fun e => ltN_ne hh e.symm), if_neg (fun q => ltN_irrefl _ (ltN_trans hh q))]
    · rw [if_neg hg]
      unfold setF
      rw [if_neg hg, if_neg hg]
      by_cases hl : ltN g.n f.n
      · rw [if_pos hl, if_pos hl, setF_delF h2 rfl]
      · rw [if_neg hl, if_neg hl, delF_none (getF_all fun k hk => ltN_trans (ltN_of hg hl) (h1 k hk))]
theorem DT.ext {w w' : World} {q : Nat} {v : Value} {s t : DS} (h : DT w w' q v s) (e : s = t) : DT w w' q v t := e ▸ h

set_option maxRecDepth 100000 in
set_option maxHeartbeats 6400000 in
theorem dread_any (w : World) (q : Nat) (v : Value) (s : DS) (x : ByteArray) (h : DD w q v s) (ho : DOk s) (hL : s.L.length < 1000000) :
    Calls Try.prog 34 #[.pointer (some ⟨q, 0, none⟩), .string x] w fun e w' => e = .returned (.tuple #[.string (rdD s x).1, .int .i64 (rdD s x).2.1, .int .i64 (rdD s x).2.2]) ∧ Below w.heap.size w w' := by
  have c0 := h.c0
  have c3 := h.c3
  have hfind := dfind_any w q v s x h hL
  cases hoff : s.off
  · rw [hoff] at c3
    cases hg : getF s.L x with
    | none =>
      have hFPi : ∀ i, FP s.L x i → i = -1 := fun i hi => by
        rcases hi with ⟨h1, -⟩ | ⟨k, hk, -, h2⟩
        · exact h1
        · exact absurd h2 (getF_none.1 hg _ (List.getElem_mem hk))
      have hFPi := Lib.hid hFPi
      have e1 : rdD s x = (ByteArray.empty, 0, 7) := by unfold rdD; rw [if_neg (by rw [hoff]; simp), hg]
      rw [e1]
      go_enter Try.func34, Try.ntmps34
      go_wp2_with (go_at_call 54; (with_reducible refine hfind.mono ?_); rintro e _ ⟨⟨i, rfl, hFP⟩, rfl⟩; clear hfind; obtain rfl := hFPi.out i hFP)
      (try simp only [Exit.inBlock, Exit.then]); refine bodyPost_ret (results_tmp3 rfl _ _ _) rfl ?_
      exact ⟨rfl, Below.refl _ _⟩
    | some f =>
      obtain ⟨hfm, hfn⟩ := getF_some hg
      obtain ⟨k, hk, hkf⟩ := List.mem_iff_getElem.1 hfm
      have hFPi : ∀ i, FP s.L x i → i = (k : Int) := fun i hi => by
        rcases hi with ⟨-, h1⟩ | ⟨j, hj, e, h2⟩
        · rw [hg] at h1; cases h1
        · have h3 := getF_at ho.rise hj
          rw [h2, hg] at h3
          injection h3 with h3
          rcases Nat.lt_trichotomy j k with q | q | q
          · have := List.pairwise_iff_getElem.1 ho.rise j k hj hk q; rw [hkf, h3] at this; exact absurd this (ltN_irrefl _)
          · rw [e, q]
          · have := List.pairwise_iff_getElem.1 ho.rise k j hk hj q; rw [hkf, h3] at this; exact absurd this (ltN_irrefl _)
      have hFPi := Lib.hid hFPi
      have e1 : rdD s x = (f.b, f.s, 0) := by unfold rdD; rw [if_neg (by rw [hoff]; simp), hg]
      rw [e1]
      obtain ⟨g, cap, rfl, hc, hfz⟩ := Own.atd flEnc_len h.2.1 k hk
      rw [hkf] at hc
      have hc1 := hc 1 (.string f.b) rfl; have hc2 := hc 2 (.int .i64 f.s) rfl
      go_enter Try.func34, Try.ntmps34
      go_wp2_with (go_at_call 54; (with_reducible refine hfind.mono ?_); rintro e _ ⟨⟨i, rfl, hFP⟩, rfl⟩; clear hfind; obtain rfl := hFPi.out i hFP)
      have hb := ((Below.refl _ w).drew : Below w.heap.size w w.drew)
      refine wp_region_held_drew (S := fun v => Below w.heap.size w v) (by kernel_rfl) hb (fun hHeld => ?_)
      refine takeH 0 17 (v := ?_) rfl rfl (by kernel_rfl) (by kernel_rfl) (by kernel_rfl) (fun _ _ _ h => h) (Or.inl ⟨by kernel_rfl, ?_⟩) hHeld ?_
      rotate_left 1
      · (intro v hSw; (try dsimp only at hSw); clear hSw; go_simp; (try with_reducible rfl))
      try simp only [Act.put, List.setIfInBounds_toArray, List.set_cons_zero, List.set_cons_succ]
      refine takeH 1 18 (v := ?_) rfl rfl (by kernel_rfl) (by kernel_rfl) (by kernel_rfl) (fun _ _ _ h => h) (Or.inl ⟨by kernel_rfl, ?_⟩) hHeld ?_
      rotate_left 1
      · (intro v hSw; (try dsimp only at hSw); clear hSw; go_simp; (try with_reducible rfl))
      try simp only [Act.put, List.setIfInBounds_toArray, List.set_cons_zero, List.set_cons_succ]
      refine takeH 2 19 (v := ?_) rfl rfl (by kernel_rfl) (by kernel_rfl) (by kernel_rfl) (fun _ _ _ h => h) (Or.inl ⟨by kernel_rfl, ?_⟩) hHeld ?_
      rotate_left 1
      · (intro v hSw; (try dsimp only at hSw); clear hSw; go_simp; (try with_reducible rfl))
      try simp only [Act.put, List.setIfInBounds_toArray, List.set_cons_zero, List.set_cons_succ]
      refine takeH 3 20 (v := ?_) rfl rfl (by kernel_rfl) (by kernel_rfl) (by kernel_rfl) (fun _ _ _ h => h) (Or.inl ⟨by kernel_rfl, ?_⟩) hHeld ?_
      rotate_left 1
      · (intro v hSw; (try dsimp only at hSw); have q0 := (h.pure hSw).c0; clear hSw; go_simp; (try with_reducible rfl))
      try simp only [Act.put, List.setIfInBounds_toArray, List.set_cons_zero, List.set_cons_succ]
      refine takeH 4 21 (v := ?_) rfl rfl (by kernel_rfl) (by kernel_rfl) (by kernel_rfl) (fun _ _ _ h => h) (Or.inl ⟨by kernel_rfl, ?_⟩) hHeld ?_
      rotate_left 1
      · (intro v hSw; (try dsimp only at hSw); clear hSw; go_simp; (try with_reducible rfl))
      try simp only [Act.put, List.setIfInBounds_toArray, List.set_cons_zero, List.set_cons_succ]
      refine takeH 5 22 (v := ?_) rfl rfl (by kernel_rfl) (by kernel_rfl) (by kernel_rfl) (fun _ _ _ h => h) (Or.inl ⟨by kernel_rfl, ?_⟩) hHeld ?_
      rotate_left 1
      · (intro v hSw; (try dsimp only at hSw); clear hSw; go_simp; (try with_reducible rfl))
      try simp only [Act.put, List.setIfInBounds_toArray, List.set_cons_zero, List.set_cons_succ]
      refine takeH 6 23 (v := ?_) rfl rfl (by kernel_rfl) (by kernel_rfl) (by kernel_rfl) (fun _ _ _ h => h) (Or.inl ⟨by kernel_rfl, ?_⟩) hHeld ?_
      rotate_left 1
      · (intro v hSw; (try dsimp only at hSw); clear hSw; go_simp; (try with_reducible rfl))
      try simp only [Act.put, List.setIfInBounds_toArray, List.set_cons_zero, List.set_cons_succ]
      refine takeH 7 24 (v := ?_) rfl rfl (by kernel_rfl) (by kernel_rfl) (by kernel_rfl) (fun _ _ _ h => h) (Or.inl ⟨by kernel_rfl, ?_⟩) hHeld ?_
      rotate_left 1
      · (intro v hSw; (try dsimp only at hSw); have q0 := (hSw.cell (World.block_lt_of_cell? w _ hc1)).trans hc1; clear hSw; go_simp; (try with_reducible rfl))
      try simp only [Act.put, List.setIfInBounds_toArray, List.set_cons_zero, List.set_cons_succ]
      refine takeH 8 25 (v := ?_) rfl rfl (by kernel_rfl) (by kernel_rfl) (by kernel_rfl) (fun _ _ _ h => h) (Or.inl ⟨by kernel_rfl, ?_⟩) hHeld ?_
      rotate_left 1
      · (intro v hSw; (try dsimp only at hSw); clear hSw; go_simp; (try with_reducible rfl))
      try simp only [Act.put, List.setIfInBounds_toArray, List.set_cons_zero, List.set_cons_succ]
      refine takeH 9 26 (v := ?_) rfl rfl (by kernel_rfl) (by kernel_rfl) (by kernel_rfl) (fun _ _ _ h => h) (Or.inl ⟨by kernel_rfl, ?_⟩) hHeld ?_
      rotate_left 1
      · (intro v hSw; (try dsimp only at hSw); clear hSw; go_simp; (try with_reducible rfl))
      try simp only [Act.put, List.setIfInBounds_toArray, List.set_cons_zero, List.set_cons_succ]
      refine takeH 10 27 (v := ?_) rfl rfl (by kernel_rfl) (by kernel_rfl) (by kernel_rfl) (fun _ _ _ h => h) (Or.inl ⟨by kernel_rfl, ?_⟩) hHeld ?_
      rotate_left 1
      · (intro v hSw; (try dsimp only at hSw); clear hSw; go_simp; (try with_reducible rfl))
      try simp only [Act.put, List.setIfInBounds_toArray, List.set_cons_zero, List.set_cons_succ]
      refine takeH 11 28 (v := ?_) rfl rfl (by kernel_rfl) (by kernel_rfl) (by kernel_rfl) (fun _ _ _ h => h) (Or.inl ⟨by kernel_rfl, ?_⟩) hHeld ?_
      rotate_left 1
      · (intro v hSw; (try dsimp only at hSw); have q0 := (h.pure hSw).c0; clear hSw; go_simp; (try with_reducible rfl))
      try simp only [Act.put, List.setIfInBounds_toArray, List.set_cons_zero, List.set_cons_succ]
      refine takeH 12 29 (v := ?_) rfl rfl (by kernel_rfl) (by kernel_rfl) (by kernel_rfl) (fun _ _ _ h => h) (Or.inl ⟨by kernel_rfl, ?_⟩) hHeld ?_
      rotate_left 1
      · (intro v hSw; (try dsimp only at hSw); clear hSw; go_simp; (try with_reducible rfl))
      try simp only [Act.put, List.setIfInBounds_toArray, List.set_cons_zero, List.set_cons_succ]
      refine takeH 13 30 (v := ?_) rfl rfl (by kernel_rfl) (by kernel_rfl) (by kernel_rfl) (fun _ _ _ h => h) (Or.inl ⟨by kernel_rfl, ?_⟩) hHeld ?_
      rotate_left 1
      · (intro v hSw; (try dsimp only at hSw); clear hSw; go_simp; (try with_reducible rfl))
      try simp only [Act.put, List.setIfInBounds_toArray, List.set_cons_zero, List.set_cons_succ]
      refine takeH 14 31 (v := ?_) rfl rfl (by kernel_rfl) (by kernel_rfl) (by kernel_rfl) (fun _ _ _ h => h) (Or.inl ⟨by kernel_rfl, ?_⟩) hHeld ?_
      rotate_left 1
      · (intro v hSw; (try dsimp only at hSw); clear hSw; go_simp; (try with_reducible rfl))
      try simp only [Act.put, List.setIfInBounds_toArray, List.set_cons_zero, List.set_cons_succ]
      refine takeH 15 32 (v := ?_) rfl rfl (by kernel_rfl) (by kernel_rfl) (by kernel_rfl) (fun _ _ _ h => h) (Or.inl ⟨by kernel_rfl, ?_⟩) hHeld ?_
      rotate_left 1
      · (intro v hSw; (try dsimp only at hSw); have q0 := (hSw.cell (World.block_lt_of_cell? w _ hc2)).trans hc2; clear hSw; go_simp; (try with_reducible rfl))
      try simp only [Act.put, List.setIfInBounds_toArray, List.set_cons_zero, List.set_cons_succ]
      refine wpAnyH_ready (rs := [16]) (by kernel_rfl) (by simp) ?_
      refine AllReadyH.cons rfl (fun Kq hKq => ?_) AllReadyH.nil
      go_simp
      refine hKq.out _ _ hb (fun hHeld => ?_)
      clear hKq Kq
      try simp only [Act.put, List.setIfInBounds_toArray, List.set_cons_zero, List.set_cons_succ]
      refine wpAnyH_ready (rs := [17]) (by kernel_rfl) (by simp) ?_
      refine AllReadyH.cons rfl (fun Kq hKq => ?_) AllReadyH.nil
      go_simp
      refine hKq.out _ _ hb (fun hHeld => ?_)
      clear hKq Kq
      try simp only [Act.put, List.setIfInBounds_toArray, List.set_cons_zero, List.set_cons_succ]
      refine wpAnyH_ready (rs := [18]) (by kernel_rfl) (by simp) ?_
      refine AllReadyH.cons rfl (fun Kq hKq => ?_) AllReadyH.nil
      go_simp
      refine hKq.out _ _ hb (fun hHeld => ?_)
      clear hKq Kq
      try simp only [Act.put, List.setIfInBounds_toArray, List.set_cons_zero, List.set_cons_succ]
      refine wpAnyH_done (by kernel_rfl) ?_ _
      clear hHeld
      go_wp2
      (try simp only [Exit.inBlock, Exit.then]); refine bodyPost_ret (results_tmp3 rfl _ _ _) rfl ?_
      exact ⟨rfl, hb⟩
  · rw [hoff] at c3
    have e1 : rdD s x = (ByteArray.empty, 0, 100) := by unfold rdD; rw [if_pos hoff]
    rw [e1]
    go_enter Try.func34, Try.ntmps34
    go_wp2_with (go_at_call 54; (with_reducible refine hfind.mono ?_); rintro e _ ⟨⟨i, rfl, hFP⟩, rfl⟩)
    (try simp only [Exit.inBlock, Exit.then]); refine bodyPost_ret (results_tmp3 rfl _ _ _) rfl ?_
    exact ⟨rfl, Below.refl _ _⟩
set_option maxRecDepth 100000 in
set_option maxHeartbeats 6400000 in
theorem dsync_any (w : World) (q : Nat) (v : Value) (s : DS) (x : ByteArray) (h : DD w q v s) (ho : DOk s) (hL : s.L.length < 1000000) :
    Calls Try.prog 30 #[.pointer (some ⟨q, 0, none⟩), .string x] w fun e w' => e = .returned (.int .i64 (syD s x).2) ∧ DT w w' q v (syD s x).1 := by
  have c0 := h.c0
  have c3 := h.c3
  have hfind := dfind_any w q v s x h hL
  have hburn := dburns_any w q v s h ho.left
  cases hoff : s.off
  · rw [hoff] at c3
    cases hg : getF s.L x with
    | none =>
      have hFPi : ∀ i, FP s.L x i → i = -1 := fun i hi => by
        rcases hi with ⟨h1, -⟩ | ⟨k, hk, -, h2⟩
        · exact h1
        · exact absurd h2 (getF_none.1 hg _ (List.getElem_mem hk))
      have hFPi := Lib.hid hFPi
      have e1 : syD s x = (s, 7) := by unfold syD; rw [if_neg (by rw [hoff]; simp), hg]
      rw [e1]
      go_enter Try.func30, Try.ntmps30
      go_wp2_with (go_at_call 54; (with_reducible refine hfind.mono ?_); rintro e _ ⟨⟨i, rfl, hFP⟩, rfl⟩; clear hfind; obtain rfl := hFPi.out i hFP)
      go_ret
      exact ⟨rfl, DT.stay h (Below.refl _ _)⟩
    | some f =>
      obtain ⟨hfm, hfn⟩ := getF_some hg
      obtain ⟨k, hk, hkf⟩ := List.mem_iff_getElem.1 hfm
      have hFPi : ∀ i, FP s.L x i → i = (k : Int) := fun i hi => by
        rcases hi with ⟨-, h1⟩ | ⟨j, hj, e, h2⟩
        · rw [hg] at h1; cases h1
        · have h3 := getF_at ho.rise hj
          rw [h2, hg] at h3
          injection h3 with h3
          rcases Nat.lt_trichotomy j k with q | q | q
          · have := List.pairwise_iff_getElem.1 ho.rise j k hj hk q; rw [hkf, h3] at this; exact absurd this (ltN_irrefl _)
          · rw [e, q]
          · have := List.pairwise_iff_getElem.1 ho.rise k j hk hj q; rw [hkf, h3] at this; exact absurd this (ltN_irrefl _)
      have hFPi := Lib.hid hFPi
      have e1 : syD s x = burnE s (setF s.L ⟨x, f.b, f.b.size⟩) false := by unfold syD; rw [if_neg (by rw [hoff]; simp), hg]
      rw [e1]
      by_cases hl1 : s.left = 1
      · rw [bn_yes hl1]
        rw [decide_eq_true hl1] at hburn
        go_enter Try.func30, Try.ntmps30
        go_wp2_with (first | (go_at_call 54; (with_reducible refine hfind.mono ?_); rintro e _ ⟨⟨i, rfl, hFP⟩, rfl⟩; clear hfind; obtain rfl := hFPi.out i hFP) | (go_at_call 56; (with_reducible refine hburn.mono ?_); rintro e w1 ⟨rfl, v1, hD1, hU1, hK1⟩; clear hburn))
        go_ret
        exact ⟨rfl, DT.ext ⟨v1, hD1, hU1, hK1⟩ (by simp [← bnD_L s])⟩
      · rw [bn_no hl1 ho.left.1 hoff]
        rw [decide_eq_false hl1] at hburn
        go_enter Try.func30, Try.ntmps30
        go_wp2_with (first | (go_at_call 54; (with_reducible refine hfind.mono ?_); rintro e _ ⟨⟨i, rfl, hFP⟩, rfl⟩; clear hfind; obtain rfl := hFPi.out i hFP) | (go_at_call 56; (with_reducible refine hburn.mono ?_); rintro e w1 ⟨rfl, v1, hD1, hU1, hK1⟩; clear hburn))
        have hk1 : k < (bnD s).L.length := by rw [bnD_L]; exact hk
        obtain ⟨g, cap, rfl, hc, hfz⟩ := Own.atd flEnc_len hD1.2.1 k hk1
        have hkf1 : (bnD s).L[k] = f := by simp only [bnD_L]; exact hkf
        rw [hkf1] at hc
        have hc1 := hc 1 (.string f.b) rfl; have hc2 := hc 2 (.int .i64 f.s) rfl
        have hqg : q ≠ g := fun e => hD1.2.2 (by rw [e]; rfl)
        have d0 := hD1.c0
        have hql1 := hD1.1.lt
        clear hc
        have hb := d0
        refine wp_region_held_drew (S := fun v => v.cell? ⟨q, 0, none⟩ = some (.slice (some ⟨g, 0, none⟩) (bnD s).L.length cap)) (by kernel_rfl) hb (fun hHeld => ?_)
        refine takeH 0 17 (v := ?_) rfl rfl (by kernel_rfl) (by kernel_rfl) (by kernel_rfl) (fun _ _ _ h => h) (Or.inl ⟨by kernel_rfl, ?_⟩) hHeld ?_
        rotate_left 1
        · (intro v hSw; (try dsimp only at hSw); clear hSw; go_simp; (try with_reducible rfl))
        try simp only [Act.put, List.setIfInBounds_toArray, List.set_cons_zero, List.set_cons_succ]
        refine takeH 1 18 (v := ?_) rfl rfl (by kernel_rfl) (by kernel_rfl) (by kernel_rfl) (fun _ _ _ h => h) (Or.inl ⟨by kernel_rfl, ?_⟩) hHeld ?_
        rotate_left 1
        · (intro v hSw; (try dsimp only at hSw); clear hSw; go_simp; (try with_reducible rfl))
        try simp only [Act.put, List.setIfInBounds_toArray, List.set_cons_zero, List.set_cons_succ]
        refine takeH 2 19 (v := ?_) rfl rfl (by kernel_rfl) (by kernel_rfl) (by kernel_rfl) (fun _ _ _ h => h) (Or.inl ⟨by kernel_rfl, ?_⟩) hHeld ?_
        rotate_left 1
        · (intro v hSw; (try dsimp only at hSw); clear hSw; go_simp; (try with_reducible rfl))
        try simp only [Act.put, List.setIfInBounds_toArray, List.set_cons_zero, List.set_cons_succ]
        refine takeH 3 20 (v := ?_) rfl rfl (by kernel_rfl) (by kernel_rfl) (by kernel_rfl) (fun _ _ _ h => h) (Or.inl ⟨by kernel_rfl, ?_⟩) hHeld ?_
        rotate_left 1
        · (intro v hSw; (try dsimp only at hSw); have q0 := hSw; clear hSw; go_simp; (try with_reducible rfl))
        try simp only [Act.put, List.setIfInBounds_toArray, List.set_cons_zero, List.set_cons_succ]
        refine takeH 4 21 (v := ?_) rfl rfl (by kernel_rfl) (by kernel_rfl) (by kernel_rfl) (fun _ _ _ h => h) (Or.inl ⟨by kernel_rfl, ?_⟩) hHeld ?_
        rotate_left 1
        · (intro v hSw; (try dsimp only at hSw); clear hSw; go_simp; (try with_reducible rfl))
        try simp only [Act.put, List.setIfInBounds_toArray, List.set_cons_zero, List.set_cons_succ]
        refine takeH 5 22 (v := ?_) rfl rfl (by kernel_rfl) (by kernel_rfl) (by kernel_rfl) (fun _ _ _ h => h) (Or.inl ⟨by kernel_rfl, ?_⟩) hHeld ?_
        rotate_left 1
        · (intro v hSw; (try dsimp only at hSw); clear hSw; go_simp; (try with_reducible rfl))
        try simp only [Act.put, List.setIfInBounds_toArray, List.set_cons_zero, List.set_cons_succ]
        refine takeH 6 23 (v := ?_) rfl rfl (by kernel_rfl) (by kernel_rfl) (by kernel_rfl) (fun _ _ _ h => h) (Or.inl ⟨by kernel_rfl, ?_⟩) hHeld ?_
        rotate_left 1
        · (intro v hSw; (try dsimp only at hSw); clear hSw; go_simp; (try with_reducible rfl))
        try simp only [Act.put, List.setIfInBounds_toArray, List.set_cons_zero, List.set_cons_succ]
        refine takeH 7 24 (v := ?_) rfl rfl (by kernel_rfl) (by kernel_rfl) (by kernel_rfl) (fun _ _ _ h => h) (Or.inl ⟨by kernel_rfl, ?_⟩) hHeld ?_
        rotate_left 1
        · (intro v hSw; (try dsimp only at hSw); clear hSw; go_simp; (try with_reducible rfl))
        try simp only [Act.put, List.setIfInBounds_toArray, List.set_cons_zero, List.set_cons_succ]
        refine takeH 8 25 (v := ?_) rfl rfl (by kernel_rfl) (by kernel_rfl) (by kernel_rfl) (fun _ _ _ h => h) (Or.inl ⟨by kernel_rfl, ?_⟩) hHeld ?_
        rotate_left 1
        · (intro v hSw; (try dsimp only at hSw); have q0 := hSw; clear hSw; go_simp; (try with_reducible rfl))
        try simp only [Act.put, List.setIfInBounds_toArray, List.set_cons_zero, List.set_cons_succ]
        refine takeH 9 26 (v := ?_) rfl rfl (by kernel_rfl) (by kernel_rfl) (by kernel_rfl) (fun _ _ _ h => h) (Or.inl ⟨by kernel_rfl, ?_⟩) hHeld ?_
        rotate_left 1
        · (intro v hSw; (try dsimp only at hSw); clear hSw; go_simp; (try with_reducible rfl))
        try simp only [Act.put, List.setIfInBounds_toArray, List.set_cons_zero, List.set_cons_succ]
        refine takeH 10 27 (v := ?_) rfl rfl (by kernel_rfl) (by kernel_rfl) (by kernel_rfl) (fun _ _ _ h => h) (Or.inl ⟨by kernel_rfl, ?_⟩) hHeld ?_
        rotate_left 1
        · (intro v hSw; (try dsimp only at hSw); clear hSw; go_simp; (try with_reducible rfl))
        try simp only [Act.put, List.setIfInBounds_toArray, List.set_cons_zero, List.set_cons_succ]
        refine takeH 11 28 (v := ?_) rfl rfl (by kernel_rfl) (by kernel_rfl) (by kernel_rfl) (fun _ _ _ h => h) (Or.inl ⟨by kernel_rfl, ?_⟩) hHeld ?_
        rotate_left 1
        · (intro v hSw; (try dsimp only at hSw); clear hSw; go_simp; (try with_reducible rfl))
        try simp only [Act.put, List.setIfInBounds_toArray, List.set_cons_zero, List.set_cons_succ]
        refine wpAnyH_ready (rs := [12]) (by kernel_rfl) (by simp) ?_
        refine AllReadyH.cons rfl (fun Kq hKq => ?_) AllReadyH.nil
        have q0 : w1.drew.cell? ⟨g, k * 3 + 1, none⟩ = _ := hc1
        go_simp
        refine hKq.out _ _ hb (fun hHeld => ?_)
        clear hKq Kq
        try simp only [Act.put, List.setIfInBounds_toArray, List.set_cons_zero, List.set_cons_succ]
        refine takeH 13 30 (v := ?_) rfl rfl (by kernel_rfl) (by kernel_rfl) (by kernel_rfl) (fun _ _ _ h => h) (Or.inl ⟨by kernel_rfl, ?_⟩) hHeld ?_
        rotate_left 1
        · (intro v hSw; (try dsimp only at hSw); clear hSw; go_simp; (try with_reducible rfl))
        try simp only [Act.put, List.setIfInBounds_toArray, List.set_cons_zero, List.set_cons_succ]
        refine takeH 14 31 (v := ?_) rfl rfl (by kernel_rfl) (by kernel_rfl) (by kernel_rfl) (fun _ _ _ h => h) (Or.inl ⟨by kernel_rfl, ?_⟩) hHeld ?_
        rotate_left 1
        · (intro v hSw; (try dsimp only at hSw); clear hSw; go_simp; (try with_reducible rfl))
        try simp only [Act.put, List.setIfInBounds_toArray, List.set_cons_zero, List.set_cons_succ]
        refine takeH 15 32 (v := ?_) rfl rfl (by kernel_rfl) (by kernel_rfl) (by kernel_rfl) (fun _ _ _ h => h) (Or.inl ⟨by kernel_rfl, ?_⟩) hHeld ?_
        rotate_left 1
        · (intro v hSw; (try dsimp only at hSw); clear hSw; go_simp; (try with_reducible rfl))
        try simp only [Act.put, List.setIfInBounds_toArray, List.set_cons_zero, List.set_cons_succ]
        refine wpAnyH_ready (rs := [16]) (by kernel_rfl) (by simp) ?_
        refine AllReadyH.cons rfl (fun Kq hKq => ?_) AllReadyH.nil
        have q0 : w1.drew.cell? ⟨g, k * 3 + 2, none⟩ = _ := hc2
        have q1 : w1.drew.frozen? ⟨g, k * 3 + 2, none⟩ = false := hfz _
        go_simp
        refine hKq.out _ _ ?_ (fun hHeld => ?_)
        · exact (((Upd.set (S := fun i => i = g) (p := ⟨g, k * 3 + 2, none⟩) rfl _).cell (p := ⟨q, 0, none⟩) hql1 hqg).trans d0)
        clear hKq Kq
        try simp only [Act.put, List.setIfInBounds_toArray, List.set_cons_zero, List.set_cons_succ]
        refine wpAnyH_done (by kernel_rfl) ?_ _
        clear hHeld
        go_wp2
        go_ret
        have hset := setF_at (f := ⟨x, f.b, f.b.size⟩) ho.rise hk (by rw [hkf]; exact hfn)
        exact ⟨rfl, DT.drew (DT.more hD1 hU1 hK1 ((DT.store hD1 k hk1 2 (.int .i64 f.b.size) ⟨x, f.b, f.b.size⟩ (by omega) (by rw [hkf1, ← hfn]; rfl)).ext (by rw [hset]; simp only [bnD_L])))⟩
  · rw [hoff] at c3
    have e1 : syD s x = (s, 100) := by unfold syD; rw [if_pos hoff]
    rw [e1]
    go_enter Try.func30, Try.ntmps30
    go_wp2_with (go_at_call 54; (with_reducible refine hfind.mono ?_); rintro e _ ⟨⟨i, rfl, hFP⟩, rfl⟩)
    go_ret
    exact ⟨rfl, DT.stay h (Below.refl _ _)⟩
set_option maxRecDepth 100000 in
set_option maxHeartbeats 6400000 in
theorem dremove_any (w : World) (q : Nat) (v : Value) (s : DS) (x : ByteArray) (h : DD w q v s) (ho : DOk s) (hL : s.L.length < 1000000) :
    Calls Try.prog 33 #[.pointer (some ⟨q, 0, none⟩), .string x] w fun e w' => e = .returned (.int .i64 (rmD s x).2) ∧ DT w w' q v (rmD s x).1 := by
  have c0 := h.c0
  have c3 := h.c3
  have hfind := dfind_any w q v s x h hL
  have hburn := dburns_any w q v s h ho.left
  cases hoff : s.off
  · rw [hoff] at c3
    cases hg : getF s.L x with
    | none =>
      have hFPi : ∀ i, FP s.L x i → i = -1 := fun i hi => by
        rcases hi with ⟨h1, -⟩ | ⟨k, hk, -, h2⟩
        · exact h1
        · exact absurd h2 (getF_none.1 hg _ (List.getElem_mem hk))
      have hFPi := Lib.hid hFPi
      have e1 : rmD s x = (s, 7) := by unfold rmD; rw [if_neg (by rw [hoff]; simp), hg]
      rw [e1]
      go_enter Try.func33, Try.ntmps33
      go_wp2_with (go_at_call 54; (with_reducible refine hfind.mono ?_); rintro e _ ⟨⟨i, rfl, hFP⟩, rfl⟩; clear hfind; obtain rfl := hFPi.out i hFP)
      go_ret
      exact ⟨rfl, DT.stay h (Below.refl _ _)⟩
    | some f =>
      obtain ⟨hfm, hfn⟩ := getF_some hg
      obtain ⟨k, hk, hkf⟩ := List.mem_iff_getElem.1 hfm
      have hFPi : ∀ i, FP s.L x i → i = (k : Int) := fun i hi => by
        rcases hi with ⟨-, h1⟩ | ⟨j, hj, e, h2⟩
        · rw [hg] at h1; cases h1
        · have h3 := getF_at ho.rise hj
          rw [h2, hg] at h3
          injection h3 with h3
          rcases Nat.lt_trichotomy j k with q | q | q
          · have := List.pairwise_iff_getElem.1 ho.rise j k hj hk q; rw [hkf, h3] at this; exact absurd this (ltN_irrefl _)
          · rw [e, q]
          · have := List.pairwise_iff_getElem.1 ho.rise k j hk hj q; rw [hkf, h3] at this; exact absurd this (ltN_irrefl _)
      have hFPi := Lib.hid hFPi
      have e1 : rmD s x = burnE s (delF s.L x) false := by unfold rmD; rw [if_neg (by rw [hoff]; simp), hg]
      rw [e1]
      by_cases hl1 : s.left = 1
      · skip
        rw [bn_yes hl1]
        rw [decide_eq_true hl1] at hburn
        go_enter Try.func33, Try.ntmps33
        go_wp2_with (first | (go_at_call 54; (with_reducible refine hfind.mono ?_); rintro e _ ⟨⟨i, rfl, hFP⟩, rfl⟩; clear hfind; obtain rfl := hFPi.out i hFP) | (go_at_call 56; (with_reducible refine hburn.mono ?_); rintro e w1 ⟨rfl, v1, hD1, hU1, hK1⟩; clear hburn))
        go_ret
        exact ⟨rfl, DT.ext ⟨v1, hD1, hU1, hK1⟩ (by simp [← bnD_L s])⟩
      · rw [bn_no hl1 ho.left.1 hoff]
        rw [decide_eq_false hl1] at hburn
        go_enter Try.func33, Try.ntmps33
        go_wp2_with (first | (go_at_call 54; (with_reducible refine hfind.mono ?_); rintro e _ ⟨⟨i, rfl, hFP⟩, rfl⟩; clear hfind; obtain rfl := hFPi.out i hFP) | (go_at_call 56; (with_reducible refine hburn.mono ?_); rintro e w1 ⟨rfl, v1, hD1, hU1, hK1⟩; clear hburn) | (go_at_call 57; (with_reducible refine (ddrop_any w1 q v1 (bnD s) k hD1 (by rw [bnD_L]; exact hL) (by rw [bnD_L]; exact hk)).mono ?_); rintro e w2 ⟨rfl, hD2⟩))
        go_ret
        have hdel := delF_at (x := x) ho.rise hk (by rw [hkf]; exact hfn)
        exact ⟨rfl, DT.more hD1 hU1 hK1 (hD2.ext (by rw [hdel]; simp only [bnD_L]))⟩
  · rw [hoff] at c3
    have e1 : rmD s x = (s, 100) := by unfold rmD; rw [if_pos hoff]
    rw [e1]
    go_enter Try.func33, Try.ntmps33
    go_wp2_with (go_at_call 54; (with_reducible refine hfind.mono ?_); rintro e _ ⟨⟨i, rfl, hFP⟩, rfl⟩)
    go_ret
    exact ⟨rfl, DT.stay h (Below.refl _ _)⟩
set_option maxRecDepth 100000 in
set_option maxHeartbeats 6400000 in
theorem dcut_any (w : World) (q : Nat) (v : Value) (s : DS) (x : ByteArray) (n : Int) (h : DD w q v s) (ho : DOk s) (hL : s.L.length < 1000000) :
    Calls Try.prog 31 #[.pointer (some ⟨q, 0, none⟩), .string x, .int .i64 n] w fun e w' => e = .returned (.int .i64 (cuD s x n).2) ∧ DT w w' q v (cuD s x n).1 := by
  have c0 := h.c0
  have c3 := h.c3
  have hfind := dfind_any w q v s x h hL
  have hburn := dburns_any w q v s h ho.left
  cases hoff : s.off
  · rw [hoff] at c3
    cases hg : getF s.L x with
    | none =>
      have hFPi : ∀ i, FP s.L x i → i = -1 := fun i hi => by
        rcases hi with ⟨h1, -⟩ | ⟨k, hk, -, h2⟩
        · exact h1
        · exact absurd h2 (getF_none.1 hg _ (List.getElem_mem hk))
      have hFPi := Lib.hid hFPi
      by_cases hn : n < 0
      · have e1 : cuD s x n = (s, 2) := by unfold cuD; rw [if_neg (by rw [hoff]; simp), if_pos hn]
        rw [e1]
        go_enter Try.func31, Try.ntmps31
        go_wp2_with (go_at_call 54; (with_reducible refine hfind.mono ?_); rintro e _ ⟨⟨i, rfl, hFP⟩, rfl⟩; clear hfind; obtain rfl := hFPi.out i hFP)
        go_ret
        exact ⟨rfl, DT.stay h (Below.refl _ _)⟩
      · have e1 : cuD s x n = (s, 7) := by unfold cuD; rw [if_neg (by rw [hoff]; simp), if_neg hn, hg]
        rw [e1]
        go_enter Try.func31, Try.ntmps31
        go_wp2_with (go_at_call 54; (with_reducible refine hfind.mono ?_); rintro e _ ⟨⟨i, rfl, hFP⟩, rfl⟩; clear hfind; obtain rfl := hFPi.out i hFP)
        go_ret
        exact ⟨rfl, DT.stay h (Below.refl _ _)⟩
    | some f =>
      obtain ⟨hfm, hfn⟩ := getF_some hg
      obtain ⟨k, hk, hkf⟩ := List.mem_iff_getElem.1 hfm
      have hFPi : ∀ i, FP s.L x i → i = (k : Int) := fun i hi => by
        rcases hi with ⟨-, h1⟩ | ⟨j, hj, e, h2⟩
        · rw [hg] at h1; cases h1
        · have h3 := getF_at ho.rise hj
          rw [h2, hg] at h3
          injection h3 with h3
          rcases Nat.lt_trichotomy j k with q | q | q
          · have := List.pairwise_iff_getElem.1 ho.rise j k hj hk q; rw [hkf, h3] at this; exact absurd this (ltN_irrefl _)
          · rw [e, q]
          · have := List.pairwise_iff_getElem.1 ho.rise k j hk hj q; rw [hkf, h3] at this; exact absurd this (ltN_irrefl _)
      have hFPi := Lib.hid hFPi
      by_cases hn : n < 0
      · have e1 : cuD s x n = (s, 2) := by unfold cuD; rw [if_neg (by rw [hoff]; simp), if_pos hn]
        rw [e1]
        go_enter Try.func31, Try.ntmps31
        go_wp2_with (go_at_call 54; (with_reducible refine hfind.mono ?_); rintro e _ ⟨⟨i, rfl, hFP⟩, rfl⟩; clear hfind; obtain rfl := hFPi.out i hFP)
        go_ret
        exact ⟨rfl, DT.stay h (Below.refl _ _)⟩
      · obtain ⟨gg, ccap, hvv, hcc, -⟩ := Own.atd flEnc_len h.2.1 k hk
        rw [hkf] at hcc
        have hcc1 := hcc 1 (.string f.b) rfl
        clear hcc
        by_cases hn2 : (f.b.size : Int) < n
        · have e1 : cuD s x n = (s, 2) := by unfold cuD; rw [if_neg (by rw [hoff]; simp), if_neg hn, hg]; exact if_pos hn2
          subst hvv
          rw [e1]
          go_enter Try.func31, Try.ntmps31
          go_wp2_with (go_at_call 54; (with_reducible refine hfind.mono ?_); rintro e _ ⟨⟨i, rfl, hFP⟩, rfl⟩; clear hfind; obtain rfl := hFPi.out i hFP)
          go_ret
          exact ⟨rfl, DT.stay h (Below.refl _ _)⟩
        · have e1 : cuD s x n = burnE s (setF s.L ⟨x, cutB f.b n, minI f.s n⟩) false := by unfold cuD; rw [if_neg (by rw [hoff]; simp), if_neg hn, hg]; exact if_neg hn2
          rw [e1]
          subst hvv
          by_cases hl1 : s.left = 1
          · skip
            rw [bn_yes hl1]
            rw [decide_eq_true hl1] at hburn
            go_enter Try.func31, Try.ntmps31
            go_wp2_with (first | (go_at_call 54; (with_reducible refine hfind.mono ?_); rintro e _ ⟨⟨i, rfl, hFP⟩, rfl⟩; clear hfind; obtain rfl := hFPi.out i hFP) | (go_at_call 56; (with_reducible refine hburn.mono ?_); rintro e w1 ⟨rfl, v1, hD1, hU1, hK1⟩; clear hburn))
            go_ret
            exact ⟨rfl, DT.ext ⟨v1, hD1, hU1, hK1⟩ (by simp [← bnD_L s])⟩
          · rw [bn_no hl1 ho.left.1 hoff]
            rw [decide_eq_false hl1] at hburn
            go_enter Try.func31, Try.ntmps31
            go_wp2_with (first | (go_at_call 54; (with_reducible refine hfind.mono ?_); rintro e _ ⟨⟨i, rfl, hFP⟩, rfl⟩; clear hfind; obtain rfl := hFPi.out i hFP) | (go_at_call 56; (with_reducible refine hburn.mono ?_); rintro e w1 ⟨rfl, v1, hD1, hU1, hK1⟩; clear hburn))
            have hk1 : k < (bnD s).L.length := by rw [bnD_L]; exact hk
            obtain ⟨g, cap, rfl, hc, hfz⟩ := Own.atd flEnc_len hD1.2.1 k hk1
            have hkf1 : (bnD s).L[k] = f := by simp only [bnD_L]; exact hkf
            rw [hkf1] at hc
            have hc1 := hc 1 (.string f.b) rfl; have hc2 := hc 2 (.int .i64 f.s) rfl
            have hqg : q ≠ g := fun e => hD1.2.2 (by rw [e]; rfl)
            have d0 := hD1.c0
            have hql1 := hD1.1.lt
            clear hc
            have hmn : (if n < f.s then n else f.s) = minI f.s n := by unfold minI; split <;> split <;> omega
            have hmn' := Lib.hid hmn; clear hmn
            have hb := d0
            refine wp_region_held_drew (S := fun v => v.cell? ⟨q, 0, none⟩ = some (.slice (some ⟨g, 0, none⟩) (bnD s).L.length cap)) (by kernel_rfl) hb (fun hHeld => ?_)
            refine takeH 0 32 (v := ?_) rfl rfl (by kernel_rfl) (by kernel_rfl) (by kernel_rfl) (fun _ _ _ h => h) (Or.inl ⟨by kernel_rfl, ?_⟩) hHeld ?_
            rotate_left 1
            · (intro v hSw; (try dsimp only at hSw); clear hSw; go_simp; (try with_reducible rfl))
            try simp only [Act.put, List.setIfInBounds_toArray, List.set_cons_zero, List.set_cons_succ]
            refine takeH 1 33 (v := ?_) rfl rfl (by kernel_rfl) (by kernel_rfl) (by kernel_rfl) (fun _ _ _ h => h) (Or.inl ⟨by kernel_rfl, ?_⟩) hHeld ?_
            rotate_left 1
            · (intro v hSw; (try dsimp only at hSw); clear hSw; go_simp; (try with_reducible rfl))
            try simp only [Act.put, List.setIfInBounds_toArray, List.set_cons_zero, List.set_cons_succ]
            refine takeH 2 34 (v := ?_) rfl rfl (by kernel_rfl) (by kernel_rfl) (by kernel_rfl) (fun _ _ _ h => h) (Or.inl ⟨by kernel_rfl, ?_⟩) hHeld ?_
            rotate_left 1
            · (intro v hSw; (try dsimp only at hSw); clear hSw; go_simp; (try with_reducible rfl))
            try simp only [Act.put, List.setIfInBounds_toArray, List.set_cons_zero, List.set_cons_succ]
            refine takeH 3 35 (v := ?_) rfl rfl (by kernel_rfl) (by kernel_rfl) (by kernel_rfl) (fun _ _ _ h => h) (Or.inl ⟨by kernel_rfl, ?_⟩) hHeld ?_
            rotate_left 1
            · (intro v hSw; (try dsimp only at hSw); have q0 := hSw; clear hSw; go_simp; (try with_reducible rfl))
            try simp only [Act.put, List.setIfInBounds_toArray, List.set_cons_zero, List.set_cons_succ]
            refine takeH 4 36 (v := ?_) rfl rfl (by kernel_rfl) (by kernel_rfl) (by kernel_rfl) (fun _ _ _ h => h) (Or.inl ⟨by kernel_rfl, ?_⟩) hHeld ?_
            rotate_left 1
            · (intro v hSw; (try dsimp only at hSw); clear hSw; go_simp; (try with_reducible rfl))
            try simp only [Act.put, List.setIfInBounds_toArray, List.set_cons_zero, List.set_cons_succ]
            refine takeH 5 37 (v := ?_) rfl rfl (by kernel_rfl) (by kernel_rfl) (by kernel_rfl) (fun _ _ _ h => h) (Or.inl ⟨by kernel_rfl, ?_⟩) hHeld ?_
            rotate_left 1
            · (intro v hSw; (try dsimp only at hSw); clear hSw; go_simp; (try with_reducible rfl))
            try simp only [Act.put, List.setIfInBounds_toArray, List.set_cons_zero, List.set_cons_succ]
            refine takeH 6 38 (v := ?_) rfl rfl (by kernel_rfl) (by kernel_rfl) (by kernel_rfl) (fun _ _ _ h => h) (Or.inl ⟨by kernel_rfl, ?_⟩) hHeld ?_
            rotate_left 1
            · (intro v hSw; (try dsimp only at hSw); clear hSw; go_simp; (try with_reducible rfl))
            try simp only [Act.put, List.setIfInBounds_toArray, List.set_cons_zero, List.set_cons_succ]
            refine takeH 7 39 (v := ?_) rfl rfl (by kernel_rfl) (by kernel_rfl) (by kernel_rfl) (fun _ _ _ h => h) (Or.inl ⟨by kernel_rfl, ?_⟩) hHeld ?_
            rotate_left 1
            · (intro v hSw; (try dsimp only at hSw); clear hSw; go_simp; (try with_reducible rfl))
            try simp only [Act.put, List.setIfInBounds_toArray, List.set_cons_zero, List.set_cons_succ]
            refine takeH 8 40 (v := ?_) rfl rfl (by kernel_rfl) (by kernel_rfl) (by kernel_rfl) (fun _ _ _ h => h) (Or.inl ⟨by kernel_rfl, ?_⟩) hHeld ?_
            rotate_left 1
            · (intro v hSw; (try dsimp only at hSw); have q0 := hSw; clear hSw; go_simp; (try with_reducible rfl))
            try simp only [Act.put, List.setIfInBounds_toArray, List.set_cons_zero, List.set_cons_succ]
            refine takeH 9 41 (v := ?_) rfl rfl (by kernel_rfl) (by kernel_rfl) (by kernel_rfl) (fun _ _ _ h => h) (Or.inl ⟨by kernel_rfl, ?_⟩) hHeld ?_
            rotate_left 1
            · (intro v hSw; (try dsimp only at hSw); clear hSw; go_simp; (try with_reducible rfl))
            try simp only [Act.put, List.setIfInBounds_toArray, List.set_cons_zero, List.set_cons_succ]
            refine takeH 10 42 (v := ?_) rfl rfl (by kernel_rfl) (by kernel_rfl) (by kernel_rfl) (fun _ _ _ h => h) (Or.inl ⟨by kernel_rfl, ?_⟩) hHeld ?_
            rotate_left 1
            · (intro v hSw; (try dsimp only at hSw); clear hSw; go_simp; (try with_reducible rfl))
            try simp only [Act.put, List.setIfInBounds_toArray, List.set_cons_zero, List.set_cons_succ]
            refine takeH 11 43 (v := ?_) rfl rfl (by kernel_rfl) (by kernel_rfl) (by kernel_rfl) (fun _ _ _ h => h) (Or.inl ⟨by kernel_rfl, ?_⟩) hHeld ?_
            rotate_left 1
            · (intro v hSw; (try dsimp only at hSw); clear hSw; go_simp; (try with_reducible rfl))
            try simp only [Act.put, List.setIfInBounds_toArray, List.set_cons_zero, List.set_cons_succ]
            refine takeH 13 45 (v := ?_) rfl rfl (by kernel_rfl) (by kernel_rfl) (by kernel_rfl) (fun _ _ _ h => h) (Or.inl ⟨by kernel_rfl, ?_⟩) hHeld ?_
            rotate_left 1
            · (intro v hSw; (try dsimp only at hSw); clear hSw; go_simp; (try with_reducible rfl))
            try simp only [Act.put, List.setIfInBounds_toArray, List.set_cons_zero, List.set_cons_succ]
            refine wpAnyH_ready (rs := [12]) (by kernel_rfl) (by simp) ?_
            refine AllReadyH.cons rfl (fun Kq hKq => ?_) AllReadyH.nil
            have q0 : w1.drew.cell? ⟨g, k * 3 + 1, none⟩ = _ := hc1
            go_simp
            refine hKq.out _ _ hb (fun hHeld => ?_)
            clear hKq Kq
            try simp only [Act.put, List.setIfInBounds_toArray, List.set_cons_zero, List.set_cons_succ]
            refine takeH 14 46 (v := ?_) rfl rfl (by kernel_rfl) (by kernel_rfl) (by kernel_rfl) (fun _ _ _ h => h) (Or.inl ⟨by kernel_rfl, ?_⟩) hHeld ?_
            rotate_left 1
            · (intro v hSw; (try dsimp only at hSw); clear hSw; go_simp; (try with_reducible rfl))
            try simp only [Act.put, List.setIfInBounds_toArray, List.set_cons_zero, List.set_cons_succ]
            refine takeH 15 47 (v := ?_) rfl rfl (by kernel_rfl) (by kernel_rfl) (by kernel_rfl) (fun _ _ _ h => h) (Or.inl ⟨by kernel_rfl, ?_⟩) hHeld ?_
            rotate_left 1
            · (intro v hSw; (try dsimp only at hSw); clear hSw; go_simp; (try with_reducible rfl))
            try simp only [Act.put, List.setIfInBounds_toArray, List.set_cons_zero, List.set_cons_succ]
            refine takeH 16 48 (v := ?_) rfl rfl (by kernel_rfl) (by kernel_rfl) (by kernel_rfl) (fun _ _ _ h => h) (Or.inl ⟨by kernel_rfl, ?_⟩) hHeld ?_
            rotate_left 1
            · (intro v hSw; (try dsimp only at hSw); clear hSw; go_simp; (try with_reducible rfl))
            try simp only [Act.put, List.setIfInBounds_toArray, List.set_cons_zero, List.set_cons_succ]
            refine wpAnyH_ready (rs := [17]) (by kernel_rfl) (by simp) ?_
            refine AllReadyH.cons rfl (fun Kq hKq => ?_) AllReadyH.nil
            have q0 : w1.drew.cell? ⟨g, k * 3 + 1, none⟩ = _ := hc1
            have q1 : w1.drew.frozen? ⟨g, k * 3 + 1, none⟩ = false := hfz _
            go_simp
            refine hKq.out _ _ ?_ (fun hHeld => ?_)
            · exact (((Upd.set (S := fun i => i = g) (p := ⟨g, k * 3 + 1, none⟩) rfl _).cell (p := ⟨q, 0, none⟩) hql1 hqg).trans d0)
            clear hKq Kq
            try simp only [Act.put, List.setIfInBounds_toArray, List.set_cons_zero, List.set_cons_succ]
            refine wpAnyH_done (by kernel_rfl) ?_ _
            clear hHeld hb
            obtain ⟨W2, hW2⟩ : ∃ W2, W2 = (w1.setCell ⟨g, k * 3 + 1, none⟩ (.string (cutB f.b n))).drew := ⟨_, rfl⟩
            have T2 : DT w1 W2 q (.slice (some ⟨g, 0, none⟩) (bnD s).L.length cap) { bnD s with L := (bnD s).L.set k ⟨f.n, cutB f.b n, f.s⟩ } := by rw [hW2]; exact (DT.store hD1 k hk1 1 (.string (cutB f.b n)) ⟨f.n, cutB f.b n, f.s⟩ (by omega) (by rw [hkf1]; rfl)).drew
            have D2 : DD W2 q (.slice (some ⟨g, 0, none⟩) (bnD s).L.length cap) { bnD s with L := (bnD s).L.set k ⟨f.n, cutB f.b n, f.s⟩ } := by rw [hW2]; exact (hD1.store k hk1 1 (.string (cutB f.b n)) ⟨f.n, cutB f.b n, f.s⟩ (by omega) (by rw [hkf1]; rfl)).drew
            have hW2' := hW2
            unfold cutB at hW2'
            rw [← hW2']
            clear hW2' hW2 d0 hql1 hc1 hc2 hfz
            have hk2 : k < ((bnD s).L.set k ⟨f.n, cutB f.b n, f.s⟩).length := by rw [List.length_set]; exact hk1
            have hc2 : W2.cell? ⟨g, k * 3 + 2, none⟩ = some (.int .i64 f.s) := D2.2.1.cell flEnc_len k hk2 2 _ (by simp [flEnc])
            have hfz := fun j => D2.2.1.frozen j
            have d0 := D2.c0
            have hql1 := D2.1.lt
            go_wp2
            have hb := d0
            refine wp_region_held_drew (S := fun v => v.cell? ⟨q, 0, none⟩ = some (.slice (some ⟨g, 0, none⟩) (bnD s).L.length cap)) (by kernel_rfl) hb (fun hHeld => ?_)
            refine takeH 0 49 (v := ?_) rfl rfl (by kernel_rfl) (by kernel_rfl) (by kernel_rfl) (fun _ _ _ h => h) (Or.inl ⟨by kernel_rfl, ?_⟩) hHeld ?_
            rotate_left 1
            · (intro v hSw; (try dsimp only at hSw); clear hSw; go_simp; (try with_reducible rfl))
            try simp only [Act.put, List.setIfInBounds_toArray, List.set_cons_zero, List.set_cons_succ]
            refine takeH 1 50 (v := ?_) rfl rfl (by kernel_rfl) (by kernel_rfl) (by kernel_rfl) (fun _ _ _ h => h) (Or.inl ⟨by kernel_rfl, ?_⟩) hHeld ?_
            rotate_left 1
            · (intro v hSw; (try dsimp only at hSw); clear hSw; go_simp; (try with_reducible rfl))
            try simp only [Act.put, List.setIfInBounds_toArray, List.set_cons_zero, List.set_cons_succ]
            refine takeH 2 51 (v := ?_) rfl rfl (by kernel_rfl) (by kernel_rfl) (by kernel_rfl) (fun _ _ _ h => h) (Or.inl ⟨by kernel_rfl, ?_⟩) hHeld ?_
            rotate_left 1
            · (intro v hSw; (try dsimp only at hSw); clear hSw; go_simp; (try with_reducible rfl))
            try simp only [Act.put, List.setIfInBounds_toArray, List.set_cons_zero, List.set_cons_succ]
            refine takeH 3 52 (v := ?_) rfl rfl (by kernel_rfl) (by kernel_rfl) (by kernel_rfl) (fun _ _ _ h => h) (Or.inl ⟨by kernel_rfl, ?_⟩) hHeld ?_
            rotate_left 1
            · (intro v hSw; (try dsimp only at hSw); have q0 := hSw; clear hSw; go_simp; (try with_reducible rfl))
            try simp only [Act.put, List.setIfInBounds_toArray, List.set_cons_zero, List.set_cons_succ]
            refine takeH 4 53 (v := ?_) rfl rfl (by kernel_rfl) (by kernel_rfl) (by kernel_rfl) (fun _ _ _ h => h) (Or.inl ⟨by kernel_rfl, ?_⟩) hHeld ?_
            rotate_left 1
            · (intro v hSw; (try dsimp only at hSw); clear hSw; go_simp; (try with_reducible rfl))
            try simp only [Act.put, List.setIfInBounds_toArray, List.set_cons_zero, List.set_cons_succ]
            refine takeH 5 54 (v := ?_) rfl rfl (by kernel_rfl) (by kernel_rfl) (by kernel_rfl) (fun _ _ _ h => h) (Or.inl ⟨by kernel_rfl, ?_⟩) hHeld ?_
            rotate_left 1
            · (intro v hSw; (try dsimp only at hSw); clear hSw; go_simp; (try with_reducible rfl))
            try simp only [Act.put, List.setIfInBounds_toArray, List.set_cons_zero, List.set_cons_succ]
            refine takeH 6 55 (v := ?_) rfl rfl (by kernel_rfl) (by kernel_rfl) (by kernel_rfl) (fun _ _ _ h => h) (Or.inl ⟨by kernel_rfl, ?_⟩) hHeld ?_
            rotate_left 1
            · (intro v hSw; (try dsimp only at hSw); clear hSw; go_simp; (try with_reducible rfl))
            try simp only [Act.put, List.setIfInBounds_toArray, List.set_cons_zero, List.set_cons_succ]
            refine takeH 7 56 (v := ?_) rfl rfl (by kernel_rfl) (by kernel_rfl) (by kernel_rfl) (fun _ _ _ h => h) (Or.inl ⟨by kernel_rfl, ?_⟩) hHeld ?_
            rotate_left 1
            · (intro v hSw; (try dsimp only at hSw); clear hSw; go_simp; (try with_reducible rfl))
            try simp only [Act.put, List.setIfInBounds_toArray, List.set_cons_zero, List.set_cons_succ]
            refine takeH 8 57 (v := ?_) rfl rfl (by kernel_rfl) (by kernel_rfl) (by kernel_rfl) (fun _ _ _ h => h) (Or.inl ⟨by kernel_rfl, ?_⟩) hHeld ?_
            rotate_left 1
            · (intro v hSw; (try dsimp only at hSw); have q0 := hSw; clear hSw; go_simp; (try with_reducible rfl))
            try simp only [Act.put, List.setIfInBounds_toArray, List.set_cons_zero, List.set_cons_succ]
            refine takeH 9 58 (v := ?_) rfl rfl (by kernel_rfl) (by kernel_rfl) (by kernel_rfl) (fun _ _ _ h => h) (Or.inl ⟨by kernel_rfl, ?_⟩) hHeld ?_
            rotate_left 1
            · (intro v hSw; (try dsimp only at hSw); clear hSw; go_simp; (try with_reducible rfl))
            try simp only [Act.put, List.setIfInBounds_toArray, List.set_cons_zero, List.set_cons_succ]
            refine takeH 10 59 (v := ?_) rfl rfl (by kernel_rfl) (by kernel_rfl) (by kernel_rfl) (fun _ _ _ h => h) (Or.inl ⟨by kernel_rfl, ?_⟩) hHeld ?_
            rotate_left 1
            · (intro v hSw; (try dsimp only at hSw); clear hSw; go_simp; (try with_reducible rfl))
            try simp only [Act.put, List.setIfInBounds_toArray, List.set_cons_zero, List.set_cons_succ]
            refine takeH 11 60 (v := ?_) rfl rfl (by kernel_rfl) (by kernel_rfl) (by kernel_rfl) (fun _ _ _ h => h) (Or.inl ⟨by kernel_rfl, ?_⟩) hHeld ?_
            rotate_left 1
            · (intro v hSw; (try dsimp only at hSw); clear hSw; go_simp; (try with_reducible rfl))
            try simp only [Act.put, List.setIfInBounds_toArray, List.set_cons_zero, List.set_cons_succ]
            refine takeH 13 62 (v := ?_) rfl rfl (by kernel_rfl) (by kernel_rfl) (by kernel_rfl) (fun _ _ _ h => h) (Or.inl ⟨by kernel_rfl, ?_⟩) hHeld ?_
            rotate_left 1
            · (intro v hSw; (try dsimp only at hSw); clear hSw; go_simp; (try with_reducible rfl))
            try simp only [Act.put, List.setIfInBounds_toArray, List.set_cons_zero, List.set_cons_succ]
            refine wpAnyH_ready (rs := [12]) (by kernel_rfl) (by simp) ?_
            refine AllReadyH.cons rfl (fun Kq hKq => ?_) AllReadyH.nil
            have q0 : W2.drew.cell? ⟨g, k * 3 + 2, none⟩ = _ := hc2
            go_simp
            refine hKq.out _ _ hb (fun hHeld => ?_)
            clear hKq Kq
            try simp only [Act.put, List.setIfInBounds_toArray, List.set_cons_zero, List.set_cons_succ]
            refine takeH 14 63 (v := ?_) rfl rfl (by kernel_rfl) (by kernel_rfl) (by kernel_rfl) (fun _ _ _ h => h) (Or.inl ⟨by kernel_rfl, ?_⟩) hHeld ?_
            rotate_left 1
            · (intro v hSw; (try dsimp only at hSw); have q1 := hmn'.out; clear hSw; go_simp; (try with_reducible rfl))
            try simp only [Act.put, List.setIfInBounds_toArray, List.set_cons_zero, List.set_cons_succ]
            refine takeH 15 64 (v := ?_) rfl rfl (by kernel_rfl) (by kernel_rfl) (by kernel_rfl) (fun _ _ _ h => h) (Or.inl ⟨by kernel_rfl, ?_⟩) hHeld ?_
            rotate_left 1
            · (intro v hSw; (try dsimp only at hSw); clear hSw; go_simp; (try with_reducible rfl))
            try simp only [Act.put, List.setIfInBounds_toArray, List.set_cons_zero, List.set_cons_succ]
            refine takeH 16 65 (v := ?_) rfl rfl (by kernel_rfl) (by kernel_rfl) (by kernel_rfl) (fun _ _ _ h => h) (Or.inl ⟨by kernel_rfl, ?_⟩) hHeld ?_
            rotate_left 1
            · (intro v hSw; (try dsimp only at hSw); clear hSw; go_simp; (try with_reducible rfl))
            try simp only [Act.put, List.setIfInBounds_toArray, List.set_cons_zero, List.set_cons_succ]
            refine wpAnyH_ready (rs := [17]) (by kernel_rfl) (by simp) ?_
            refine AllReadyH.cons rfl (fun Kq hKq => ?_) AllReadyH.nil
            have q0 : W2.drew.cell? ⟨g, k * 3 + 2, none⟩ = _ := hc2
            have q1 : W2.drew.frozen? ⟨g, k * 3 + 2, none⟩ = false := hfz _
            go_simp
            refine hKq.out _ _ ?_ (fun hHeld => ?_)
            · exact (((Upd.set (S := fun i => i = g) (p := ⟨g, k * 3 + 2, none⟩) rfl _).cell (p := ⟨q, 0, none⟩) hql1 hqg).trans d0)
            clear hKq Kq
            try simp only [Act.put, List.setIfInBounds_toArray, List.set_cons_zero, List.set_cons_succ]
            refine wpAnyH_done (by kernel_rfl) ?_ _
            clear hHeld
            go_wp2
            go_ret
            have hset := setF_at (f := ⟨x, cutB f.b n, minI f.s n⟩) ho.rise hk (by rw [hkf]; exact hfn)
            have T3 := DT.store D2 k hk2 2 (.int .i64 (minI f.s n)) ⟨x, cutB f.b n, minI f.s n⟩ (by omega) (by simp [flEnc, hfn])
            exact ⟨rfl, DT.drew (DT.more hD1 hU1 hK1 (DT.more D2 (by obtain ⟨vv, -, hu, -⟩ := T2; exact hu) (fun i hi => .inl hi) (T3.ext (by rw [hset]; simp only [bnD_L, List.set_set]))))⟩
  · rw [hoff] at c3
    have e1 : cuD s x n = (s, 100) := by unfold cuD; rw [if_pos hoff]
    rw [e1]
    go_enter Try.func31, Try.ntmps31
    go_wp2_with (go_at_call 54; (with_reducible refine hfind.mono ?_); rintro e _ ⟨⟨i, rfl, hFP⟩, rfl⟩)
    go_ret
    exact ⟨rfl, DT.stay h (Below.refl _ _)⟩
set_option maxRecDepth 100000 in
set_option maxHeartbeats 6400000 in
theorem drename_any (w : World) (q : Nat) (v : Value) (s : DS) (x y : ByteArray) (h : DD w q v s) (ho : DOk s) (hL : s.L.length < 1000000) (hx : x.size ≤ 1000000) (hy : y.size ≤ 1000000) :
    Calls Try.prog 32 #[.pointer (some ⟨q, 0, none⟩), .string x, .string y] w fun e w' => e = .returned (.int .i64 (reD s x y).2) ∧ DT w w' q v (reD s x y).1 := by
  have c0 := h.c0
  have c3 := h.c3
  have hfind := dfind_any w q v s x h hL
  have hburn := dburns_any w q v s h ho.left
  cases hoff : s.off
  · rw [hoff] at c3
    by_cases qx : MayN x
    · by_cases qy : MayN y
      · cases hg : getF s.L x with
        | none =>
          have hFPi : ∀ i, FP s.L x i → i = -1 := fun i hi => by
            rcases hi with ⟨h1, -⟩ | ⟨k, hk, -, h2⟩
            · exact h1
            · exact absurd h2 (getF_none.1 hg _ (List.getElem_mem hk))
          have hFPi := Lib.hid hFPi
          have hmx : Calls Try.prog 53 #[.string x] w fun e w2 => e = .returned (.bool true) ∧ w = w2 := (dmay_any w x hx).mono (fun e w2 ⟨p, q⟩ => ⟨by rw [p, decide_eq_true qx], q⟩)
          have hmy : Calls Try.prog 53 #[.string y] w fun e w2 => e = .returned (.bool true) ∧ w = w2 := (dmay_any w y hy).mono (fun e w2 ⟨p, q⟩ => ⟨by rw [p, decide_eq_true qy], q⟩)
          have e1 : reD s x y = (s, 7) := by unfold reD; rw [if_neg (by rw [hoff]; simp), if_neg (fun q => q.elim (fun q => q qx) (fun q => q qy)), hg]
          rw [e1]
          go_enter Try.func32, Try.ntmps32
          go_wp2_with (first | (go_at_call 54; (with_reducible refine hfind.mono ?_); rintro e _ ⟨⟨i, rfl, hFP⟩, rfl⟩; clear hfind; obtain rfl := hFPi.out i hFP) | (go_at_call 53; (first | (with_reducible refine hmx.mono ?_) | (with_reducible refine hmy.mono ?_)); rintro e _ ⟨rfl, rfl⟩))
          go_ret
          exact ⟨rfl, DT.stay h (Below.refl _ _)⟩
        | some f =>
          obtain ⟨hfm, hfn⟩ := getF_some hg
          obtain ⟨k, hk, hkf⟩ := List.mem_iff_getElem.1 hfm
          have hFPi : ∀ i, FP s.L x i → i = (k : Int) := fun i hi => by
            rcases hi with ⟨-, h1⟩ | ⟨j, hj, e, h2⟩
            · rw [hg] at h1; cases h1
            · have h3 := getF_at ho.rise hj
              rw [h2, hg] at h3
              injection h3 with h3
              rcases Nat.lt_trichotomy j k with q | q | q
              · have := List.pairwise_iff_getElem.1 ho.rise j k hj hk q; rw [hkf, h3] at this; exact absurd this (ltN_irrefl _)
              · rw [e, q]
              · have := List.pairwise_iff_getElem.1 ho.rise k j hk hj q; rw [hkf, h3] at this; exact absurd this (ltN_irrefl _)
          have hFPi := Lib.hid hFPi
          have hmx : Calls Try.prog 53 #[.string x] w fun e w2 => e = .returned (.bool true) ∧ w = w2 := (dmay_any w x hx).mono (fun e w2 ⟨p, q⟩ => ⟨by rw [p, decide_eq_true qx], q⟩)
          have hmy : Calls Try.prog 53 #[.string y] w fun e w2 => e = .returned (.bool true) ∧ w = w2 := (dmay_any w y hy).mono (fun e w2 ⟨p, q⟩ => ⟨by rw [p, decide_eq_true qy], q⟩)
          have e1 : reD s x y = burnE s (setF (delF s.L x) ⟨y, f.b, f.s⟩) false := by unfold reD; rw [if_neg (by rw [hoff]; simp), if_neg (fun q => q.elim (fun q => q qx) (fun q => q qy)), hg]
          rw [e1]
          by_cases hl1 : s.left = 1
          · skip
            rw [bn_yes hl1]
            rw [decide_eq_true hl1] at hburn
            go_enter Try.func32, Try.ntmps32
            go_wp2_with (first | (go_at_call 54; (with_reducible refine hfind.mono ?_); rintro e _ ⟨⟨i, rfl, hFP⟩, rfl⟩; clear hfind; obtain rfl := hFPi.out i hFP) | (go_at_call 56; (with_reducible refine hburn.mono ?_); rintro e w1 ⟨rfl, v1, hD1, hU1, hK1⟩; clear hburn) | (go_at_call 53; (first | (with_reducible refine hmx.mono ?_) | (with_reducible refine hmy.mono ?_)); rintro e _ ⟨rfl, rfl⟩))
            go_ret
            exact ⟨rfl, DT.ext ⟨v1, hD1, hU1, hK1⟩ (by simp [← bnD_L s])⟩
          · rw [bn_no hl1 ho.left.1 hoff]
            rw [decide_eq_false hl1] at hburn
            have hdel := delF_at (x := x) ho.rise hk (by rw [hkf]; exact hfn)
            have hr1 := delF_rises (x := x) ho.rise
            have hl2 : (delF s.L x).length < 1000000 := Nat.lt_of_le_of_lt (List.length_filter_le _ _) hL
            obtain ⟨L1, hL1⟩ : ∃ L1, L1 = delF s.L x := ⟨_, rfl⟩
            rw [← hL1] at hdel hr1 hl2 ⊢
            have hL1' := Lib.hid hL1; clear hL1
            cases hgy : getF L1 y with
            | none =>
              have hFPy : ∀ i, FP L1 y i → i = -1 := fun i hi => by
                rcases hi with ⟨h1, -⟩ | ⟨j, hj, -, h2⟩
                · exact h1
                · exact absurd h2 (getF_none.1 hgy _ (List.getElem_mem hj))
              have hFPy' := Lib.hid hFPy; clear hFPy
              go_enter Try.func32, Try.ntmps32
              go_wp2_with (first | (go_at_call 54; (with_reducible refine hfind.mono ?_); rintro e _ ⟨⟨i, rfl, hFP⟩, rfl⟩; clear hfind; obtain rfl := hFPi.out i hFP) | (go_at_call 53; (first | (with_reducible refine hmx.mono ?_) | (with_reducible refine hmy.mono ?_)); rintro e _ ⟨rfl, rfl⟩) | (go_at_call 56; (with_reducible refine hburn.mono ?_); rintro e w1 ⟨rfl, v1, hD1, hU1, hK1⟩; clear hburn; have hk1 : k < (bnD s).L.length := (by rw [bnD_L]; exact hk); obtain ⟨g, cap, rfl, hc, hfz⟩ := Own.atd flEnc_len hD1.2.1 k hk1; have hkf1 : (bnD s).L[k] = f := (by simp only [bnD_L]; exact hkf); rw [hkf1] at hc; have hc0 := hc 0 (.string f.n) rfl; have hc1 := hc 1 (.string f.b) rfl; have hc2 := hc 2 (.int .i64 f.s) rfl; simp only [Nat.add_zero] at hc0; have d0 := hD1.c0; clear hc; have Y1 : DX w w1 q _ _ := ⟨hU1, hK1⟩; have Ba : Below w1.heap.size w1 (w1.alloc (.cells #[.string x, .string f.b, .int .i64 f.s] 66)) := (Below.refl _ w1).alloc (Nat.le_refl _) _; have Da := hD1.pure Ba; have Xa : Blk (w1.alloc (.cells #[.string x, .string f.b, .int .i64 f.s] 66)) w1.heap.size [.string x, .string f.b, .int .i64 f.s] := Blk.new w1 [.string x, .string f.b, .int .i64 f.s] 66; have hza := Xa.lt; have hLb : (bnD s).L.length < 1000000 := (by rw [bnD_L]; exact hL)) | (go_at_call 57; (with_reducible refine (ddrop_any (w1.alloc (.cells #[.string x, .string f.b, .int .i64 f.s] 66)) q _ (bnD s) k Da hLb hk1).mono ?_); rintro e w2 ⟨rfl, v2, hD2, hU2, hK2⟩; have eL : (bnD s).L.take k ++ (bnD s).L.drop (k + 1) = L1 := (by rw [bnD_L, hdel]); rw [eL] at hD2; have X2 := Xa.upd hU2 (fun i => absurd (hD1.lt i) (Nat.lt_irrefl _)); have hxq : ¬ DQ q v2 w1.heap.size := (fun i => by rcases hK2 _ i with i | i; (exact absurd (hD1.lt i) (Nat.lt_irrefl _)); (have i : w1.heap.size + 1 ≤ w1.heap.size := (by simpa using i); omega)); have Y2 := (Y1.below Ba).step hU2 hK2; have z0 := X2.frozen 0; have x0 := X2.at 0 rfl; have x1 := X2.at 1 rfl; have x2 := X2.at 2 rfl; have hfind2 := dfind_any w2 q v2 _ y hD2 hl2) | (go_at_call 54; (with_reducible refine hfind2.mono ?_); rintro e _ ⟨⟨i, rfl, hFP⟩, rfl⟩; clear hfind2; obtain rfl := hFPy'.out i hFP) | (go_at_call 55; (with_reducible refine (dput_any (w2.setCell ⟨w1.heap.size, 0, none⟩ (.string y)) q v2 _ ⟨y, f.b, f.s⟩ (hD2.oth _ _ hxq) hl2 hr1 hgy).mono ?_); rintro e w4 ⟨rfl, v4, hD4, hU4, hK4⟩))
              go_ret
              have Y5 := ((Y2.fresh ⟨w1.heap.size, 0, none⟩ (.string y) hU1.size).step hU4 hK4)
              exact ⟨rfl, v4, hD4, Y5.1, Y5.2⟩
            | some f2 =>
              obtain ⟨hfm2, hfn2⟩ := getF_some hgy
              obtain ⟨k2, hk2, hkf2⟩ := List.mem_iff_getElem.1 hfm2
              have hFPy : ∀ i, FP L1 y i → i = (k2 : Int) := fun i hi => by
                rcases hi with ⟨-, h1⟩ | ⟨j, hj, e, h2⟩
                · rw [hgy] at h1; cases h1
                · have h3 := getF_at hr1 hj
                  rw [h2, hgy] at h3
                  injection h3 with h3
                  rcases Nat.lt_trichotomy j k2 with q | q | q
                  · have := List.pairwise_iff_getElem.1 hr1 j k2 hj hk2 q; rw [hkf2, h3] at this; exact absurd this (ltN_irrefl _)
                  · rw [e, q]
                  · have := List.pairwise_iff_getElem.1 hr1 k2 j hk2 hj q; rw [hkf2, h3] at this; exact absurd this (ltN_irrefl _)
              have hFPy' := Lib.hid hFPy; clear hFPy
              go_enter Try.func32, Try.ntmps32
              go_wp2_with (first | (go_at_call 54; (with_reducible refine hfind.mono ?_); rintro e _ ⟨⟨i, rfl, hFP⟩, rfl⟩; clear hfind; obtain rfl := hFPi.out i hFP) | (go_at_call 53; (first | (with_reducible refine hmx.mono ?_) | (with_reducible refine hmy.mono ?_)); rintro e _ ⟨rfl, rfl⟩) | (go_at_call 56; (with_reducible refine hburn.mono ?_); rintro e w1 ⟨rfl, v1, hD1, hU1, hK1⟩; clear hburn; have hk1 : k < (bnD s).L.length := (by rw [bnD_L]; exact hk); obtain ⟨g, cap, rfl, hc, hfz⟩ := Own.atd flEnc_len hD1.2.1 k hk1; have hkf1 : (bnD s).L[k] = f := (by simp only [bnD_L]; exact hkf); rw [hkf1] at hc; have hc0 := hc 0 (.string f.n) rfl; have hc1 := hc 1 (.string f.b) rfl; have hc2 := hc 2 (.int .i64 f.s) rfl; simp only [Nat.add_zero] at hc0; have d0 := hD1.c0; clear hc; have Y1 : DX w w1 q _ _ := ⟨hU1, hK1⟩; have Ba : Below w1.heap.size w1 (w1.alloc (.cells #[.string x, .string f.b, .int .i64 f.s] 66)) := (Below.refl _ w1).alloc (Nat.le_refl _) _; have Da := hD1.pure Ba; have Xa : Blk (w1.alloc (.cells #[.string x, .string f.b, .int .i64 f.s] 66)) w1.heap.size [.string x, .string f.b, .int .i64 f.s] := Blk.new w1 [.string x, .string f.b, .int .i64 f.s] 66; have hza := Xa.lt; have hLb : (bnD s).L.length < 1000000 := (by rw [bnD_L]; exact hL)) | (go_at_call 57; (with_reducible refine (ddrop_any (w1.alloc (.cells #[.string x, .string f.b, .int .i64 f.s] 66)) q _ (bnD s) k Da hLb hk1).mono ?_); rintro e w2 ⟨rfl, v2, hD2, hU2, hK2⟩; have eL : (bnD s).L.take k ++ (bnD s).L.drop (k + 1) = L1 := (by rw [bnD_L, hdel]); rw [eL] at hD2; have X2 := Xa.upd hU2 (fun i => absurd (hD1.lt i) (Nat.lt_irrefl _)); have hxq : ¬ DQ q v2 w1.heap.size := (fun i => by rcases hK2 _ i with i | i; (exact absurd (hD1.lt i) (Nat.lt_irrefl _)); (have i : w1.heap.size + 1 ≤ w1.heap.size := (by simpa using i); omega)); have Y2 := (Y1.below Ba).step hU2 hK2; have z0 := X2.frozen 0; have x0 := X2.at 0 rfl; have x1 := X2.at 1 rfl; have x2 := X2.at 2 rfl; have hfind2 := dfind_any w2 q v2 _ y hD2 hl2) | (go_at_call 54; (with_reducible refine hfind2.mono ?_); rintro e _ ⟨⟨i, rfl, hFP⟩, rfl⟩; clear hfind2; obtain rfl := hFPy'.out i hFP) | (go_at_call 57; (with_reducible refine (ddrop_any w2 q v2 _ k2 hD2 hl2 hk2).mono ?_); rintro e w3 ⟨rfl, v3, hD3, hU3, hK3⟩; have eL3 : L1.take k2 ++ L1.drop (k2 + 1) = delF L1 y := (by rw [delF_at hr1 hk2 (by rw [hkf2]; exact hfn2)]); rw [eL3] at hD3; have X3 := X2.upd hU3 (fun i => hxq i); have hxq3 : ¬ DQ q v3 w1.heap.size := (fun i => by rcases hK3 _ i with i | i; (exact hxq i); (have i2 := X2.lt; omega)); have y0 := X3.at 0 rfl; have y1 := X3.at 1 rfl; have y2 := X3.at 2 rfl; have z3 := X3.frozen 0; have Y3 := Y2.step hU3 hK3; have hl3 : (delF L1 y).length < 1000000 := Nat.lt_of_le_of_lt (List.length_filter_le _ _) hl2) | (go_at_call 55; (with_reducible refine (dput_any (w3.setCell ⟨w1.heap.size, 0, none⟩ (.string y)) q v3 _ ⟨y, f.b, f.s⟩ (hD3.oth _ _ hxq3) hl3 (delF_rises hr1) (by rw [getF_delF, if_pos rfl])).mono ?_); rintro e w4 ⟨rfl, v4, hD4, hU4, hK4⟩))
              go_ret
              have Y5 := ((Y3.fresh ⟨w1.heap.size, 0, none⟩ (.string y) hU1.size).step hU4 hK4)
              have e9 := setF_delF (f := ⟨y, f.b, f.s⟩) (y := y) hr1 rfl
              rw [e9] at hD4
              exact ⟨rfl, v4, hD4, Y5.1, Y5.2⟩
      · have e1 : reD s x y = (s, 2) := by unfold reD; rw [if_neg (by rw [hoff]; simp), if_pos (.inr qy)]
        rw [e1]
        have hFPi : True := trivial
        have hmx : Calls Try.prog 53 #[.string x] w fun e w2 => e = .returned (.bool true) ∧ w = w2 := (dmay_any w x hx).mono (fun e w2 ⟨p, q⟩ => ⟨by rw [p, decide_eq_true qx], q⟩)
        have hmy : Calls Try.prog 53 #[.string y] w fun e w2 => e = .returned (.bool false) ∧ w = w2 := (dmay_any w y hy).mono (fun e w2 ⟨p, q⟩ => ⟨by rw [p, decide_eq_false qy], q⟩)
        go_enter Try.func32, Try.ntmps32
        go_wp2_with (first | (go_at_call 54; (with_reducible refine hfind.mono ?_); rintro e _ ⟨⟨i, rfl, hFP⟩, rfl⟩) | (go_at_call 53; (first | (with_reducible refine hmx.mono ?_) | (with_reducible refine hmy.mono ?_)); rintro e _ ⟨rfl, rfl⟩))
        go_ret
        exact ⟨rfl, DT.stay h (Below.refl _ _)⟩
    · have e1 : reD s x y = (s, 2) := by unfold reD; rw [if_neg (by rw [hoff]; simp), if_pos (.inl qx)]
      rw [e1]
      have hFPi : True := trivial
      have hmx : Calls Try.prog 53 #[.string x] w fun e w2 => e = .returned (.bool false) ∧ w = w2 := (dmay_any w x hx).mono (fun e w2 ⟨p, q⟩ => ⟨by rw [p, decide_eq_false qx], q⟩)
      go_enter Try.func32, Try.ntmps32
      go_wp2_with (first | (go_at_call 54; (with_reducible refine hfind.mono ?_); rintro e _ ⟨⟨i, rfl, hFP⟩, rfl⟩) | (go_at_call 53; (with_reducible refine hmx.mono ?_); rintro e _ ⟨rfl, rfl⟩))
      go_ret
      exact ⟨rfl, DT.stay h (Below.refl _ _)⟩
  · rw [hoff] at c3
    have e1 : reD s x y = (s, 100) := by unfold reD; rw [if_pos hoff]
    rw [e1]
    go_enter Try.func32, Try.ntmps32
    go_wp2_with (go_at_call 54; (with_reducible refine hfind.mono ?_); rintro e _ ⟨⟨i, rfl, hFP⟩, rfl⟩)
    go_ret
    exact ⟨rfl, DT.stay h (Below.refl _ _)⟩
set_option maxRecDepth 100000 in
set_option maxHeartbeats 6400000 in
theorem dappend_any (w : World) (q : Nat) (v : Value) (s : DS) (x bb : ByteArray) (h : DD w q v s) (ho : DOk s) (hL : s.L.length < 1000000) (hx : x.size ≤ 1000000) (hbb : bb.size ≤ 1000000) :
    Calls Try.prog 29 #[.pointer (some ⟨q, 0, none⟩), .string x, .string bb] w fun e w' => e = .returned (.int .i64 (apD s x bb).2) ∧ DT w w' q v (apD s x bb).1 := by
  have c0 := h.c0
  have c3 := h.c3
  have hfind := dfind_any w q v s x h hL
  cases hoff : s.off
  · rw [hoff] at c3
    by_cases qx : MayN x
    · have hu1 := usedF_nonneg s.L
      have hu2 := ho.room.1
      have hu3 := ho.room.2
      obtain ⟨U, hU0⟩ : ∃ U, usedF s.L = U := ⟨_, rfl⟩
      have hused := fun W hD => dused_any W q v s hD ho hL
      have c1r := h.c1
      have hmx : Calls Try.prog 53 #[.string x] w fun e w2 => e = .returned (.bool true) ∧ w = w2 := (dmay_any w x hx).mono (fun e w2 ⟨p, q⟩ => ⟨by rw [p, decide_eq_true qx], q⟩)
      rw [hU0] at hu1 hu2 hused
      have hused' := Lib.hid hused; clear hused
      cases hg : getF s.L x with
      | none =>
        have hFPi : ∀ i, FP s.L x i → i = -1 := fun i hi => by
          rcases hi with ⟨h1, -⟩ | ⟨k, hk, -, h2⟩
          · exact h1
          · exact absurd h2 (getF_none.1 hg _ (List.getElem_mem hk))
        have hFPi := Lib.hid hFPi
        obtain ⟨v0, hv0⟩ : ∃ v0, v0 = v := ⟨_, rfl⟩
        have e0 : apD s x bb = if s.room - U < bb.size then (s, 6) else burnE s (setF s.L ⟨x, bb, 0⟩) true := by
          have h1 : szF s.L x = 0 := by unfold szF; rw [hg]; rfl
          have h2 : oldB s.L x = ByteArray.empty := by unfold oldB; rw [hg]; rfl
          have h3 : oldS s.L x = 0 := by unfold oldS; rw [hg]; rfl
          have h4 : ByteArray.empty ++ bb = bb := by simp
          have h5 : ¬ ((1048576 : Int) - 0 < bb.size) := by omega
          unfold apD; rw [if_neg (by rw [hoff]; simp), if_neg (fun q => q qx), h1, h2, h3, h4, if_neg h5, hU0]
        rw [e0]
        have hU0' := Lib.hid hU0; clear hU0 e0
        by_cases cf : s.room - U < bb.size
        · rw [if_pos cf]
          go_enter Try.func29, Try.ntmps29
          go_wp2_with (first | (go_at_call 53; (with_reducible refine hmx.mono ?_); rintro e _ ⟨rfl, rfl⟩; clear hmx) | (go_at_call 54; (with_reducible refine hfind.mono ?_); rintro e _ ⟨⟨i, rfl, hFP⟩, rfl⟩; clear hfind; obtain rfl := hFPi.out i hFP))
          have hb := ((Below.refl _ w).drew : Below w.heap.size w w.drew)
          refine wp_region_held_drew (S := fun v => Below w.heap.size w v) (by kernel_rfl) hb (fun hHeld => ?_)
          refine takeH 0 35 (v := ?_) rfl rfl (by kernel_rfl) (by kernel_rfl) (by kernel_rfl) (fun _ _ _ h => h) (Or.inl ⟨by kernel_rfl, ?_⟩) hHeld ?_
          rotate_left 1
          · (intro v hSw; (try dsimp only at hSw); clear hSw; go_simp; (try with_reducible rfl))
          try simp only [Act.put, List.setIfInBounds_toArray, List.set_cons_zero, List.set_cons_succ]
          refine takeH 1 36 (v := ?_) rfl rfl (by kernel_rfl) (by kernel_rfl) (by kernel_rfl) (fun _ _ _ h => h) (Or.inl ⟨by kernel_rfl, ?_⟩) hHeld ?_
          rotate_left 1
          · (intro v hSw; (try dsimp only at hSw); clear hSw; go_simp; (try with_reducible rfl))
          try simp only [Act.put, List.setIfInBounds_toArray, List.set_cons_zero, List.set_cons_succ]
          refine takeH 2 37 (v := ?_) rfl rfl (by kernel_rfl) (by kernel_rfl) (by kernel_rfl) (fun _ _ _ h => h) (Or.inl ⟨by kernel_rfl, ?_⟩) hHeld ?_
          rotate_left 1
          · (intro v hSw; (try dsimp only at hSw); clear hSw; go_simp; (try with_reducible rfl))
          try simp only [Act.put, List.setIfInBounds_toArray, List.set_cons_zero, List.set_cons_succ]
          refine takeH 3 38 (v := ?_) rfl rfl (by kernel_rfl) (by kernel_rfl) (by kernel_rfl) (fun _ _ _ h => h) (Or.inl ⟨by kernel_rfl, ?_⟩) hHeld ?_
          rotate_left 1
          · (intro v hSw; (try dsimp only at hSw); clear hSw; go_simp; (try with_reducible rfl))
          try simp only [Act.put, List.setIfInBounds_toArray, List.set_cons_zero, List.set_cons_succ]
          refine takeH 4 39 (v := ?_) rfl rfl (by kernel_rfl) (by kernel_rfl) (by kernel_rfl) (fun _ _ _ h => h) (Or.inl ⟨by kernel_rfl, ?_⟩) hHeld ?_
          rotate_left 1
          · (intro v hSw; (try dsimp only at hSw); clear hSw; go_simp; (try with_reducible rfl))
          try simp only [Act.put, List.setIfInBounds_toArray, List.set_cons_zero, List.set_cons_succ]
          refine takeH 5 40 (v := ?_) rfl rfl (by kernel_rfl) (by kernel_rfl) (by kernel_rfl) (fun _ _ _ h => h) (Or.inl ⟨by kernel_rfl, ?_⟩) hHeld ?_
          rotate_left 1
          · (intro v hSw; (try dsimp only at hSw); have q0 := (h.pure hSw).c1; clear hSw; go_simp; (try with_reducible rfl))
          try simp only [Act.put, List.setIfInBounds_toArray, List.set_cons_zero, List.set_cons_succ]
          refine takeH 6 41 (v := ?_) rfl rfl (by kernel_rfl) (by kernel_rfl) (by kernel_rfl) (fun _ _ _ h => h) (Or.inl ⟨by kernel_rfl, ?_⟩) hHeld ?_
          rotate_left 1
          · (intro v hSw; (try dsimp only at hSw); clear hSw; go_simp; (try with_reducible rfl))
          try simp only [Act.put, List.setIfInBounds_toArray, List.set_cons_zero, List.set_cons_succ]
          refine wpAnyH_ready (rs := [7]) (by kernel_rfl) (by simp) ?_
          refine AllReadyH.cons rfl (fun Kq hKq => ?_) AllReadyH.nil
          go_simp
          (go_at_call 39; (with_reducible refine (hused'.out _ h.drew).mono ?_); rintro e _ ⟨rfl, rfl⟩)
          refine hKq.out _ _ hb (fun hHeld => ?_)
          clear hKq Kq
          try simp only [Act.put, List.setIfInBounds_toArray, List.set_cons_zero, List.set_cons_succ]
          refine takeH 8 43 (v := ?_) rfl rfl (by kernel_rfl) (by kernel_rfl) (by kernel_rfl) (fun _ _ _ h => h) (Or.inl ⟨by kernel_rfl, ?_⟩) hHeld ?_
          rotate_left 1
          · (intro v hSw; (try dsimp only at hSw); have hwr : IntKind.i64.wrap (s.room - U) = s.room - U := IntWalk.i64_in _ (by omega); clear hSw; go_simp; (try with_reducible rfl))
          try simp only [Act.put, List.setIfInBounds_toArray, List.set_cons_zero, List.set_cons_succ]
          refine takeH 9 44 (v := ?_) rfl rfl (by kernel_rfl) (by kernel_rfl) (by kernel_rfl) (fun _ _ _ h => h) (Or.inl ⟨by kernel_rfl, ?_⟩) hHeld ?_
          rotate_left 1
          · (intro v hSw; (try dsimp only at hSw); clear hSw; go_simp; (try with_reducible rfl))
          try simp only [Act.put, List.setIfInBounds_toArray, List.set_cons_zero, List.set_cons_succ]
          refine wpAnyH_done (by kernel_rfl) ?_ _
          clear hHeld hb
          obtain ⟨V, hV⟩ : ∃ V, V = w.drew := ⟨_, rfl⟩
          have DV : DD V q v0 s := by rw [hV, hv0]; exact h.drew
          have Y0 : DX w V q v0 v0 := ⟨by rw [hV]; exact (Upd.refl _ w).drew, fun i hi => .inl hi⟩
          subst hV
          go_wp2
          go_ret
          exact ⟨rfl, (DT.stay h (Below.refl _ w)).drew⟩
        · rw [if_neg cf]
          by_cases hl1 : s.left = 1
          · rw [bn_yes hl1]
            have hburn : ∀ W v2, DD W q v2 { s with L := setF s.L ⟨x, bb, 0⟩ } → Calls Try.prog 56 #[.pointer (some ⟨q, 0, none⟩)] W fun e w2 => e = .returned (.bool true) ∧ DT W w2 q v2 (bnD { s with L := setF s.L ⟨x, bb, 0⟩ }) := fun W v2 hD => by
              have h9 := dburns_any W q v2 _ hD ho.left
              rw [show decide (({ s with L := setF s.L ⟨x, bb, 0⟩ } : DS).left = 1) = true from decide_eq_true hl1] at h9
              exact h9
            go_enter Try.func29, Try.ntmps29
            go_wp2_with (first | (go_at_call 53; (with_reducible refine hmx.mono ?_); rintro e _ ⟨rfl, rfl⟩; clear hmx) | (go_at_call 54; (with_reducible refine hfind.mono ?_); rintro e _ ⟨⟨i, rfl, hFP⟩, rfl⟩; clear hfind; obtain rfl := hFPi.out i hFP))
            have hb := ((Below.refl _ w).drew : Below w.heap.size w w.drew)
            refine wp_region_held_drew (S := fun v => Below w.heap.size w v) (by kernel_rfl) hb (fun hHeld => ?_)
            refine takeH 0 35 (v := ?_) rfl rfl (by kernel_rfl) (by kernel_rfl) (by kernel_rfl) (fun _ _ _ h => h) (Or.inl ⟨by kernel_rfl, ?_⟩) hHeld ?_
            rotate_left 1
            · (intro v hSw; (try dsimp only at hSw); clear hSw; go_simp; (try with_reducible rfl))
            try simp only [Act.put, List.setIfInBounds_toArray, List.set_cons_zero, List.set_cons_succ]
            refine takeH 1 36 (v := ?_) rfl rfl (by kernel_rfl) (by kernel_rfl) (by kernel_rfl) (fun _ _ _ h => h) (Or.inl ⟨by kernel_rfl, ?_⟩) hHeld ?_
            rotate_left 1
            · (intro v hSw; (try dsimp only at hSw); clear hSw; go_simp; (try with_reducible rfl))
            try simp only [Act.put, List.setIfInBounds_toArray, List.set_cons_zero, List.set_cons_succ]
            refine takeH 2 37 (v := ?_) rfl rfl (by kernel_rfl) (by kernel_rfl) (by kernel_rfl) (fun _ _ _ h => h) (Or.inl ⟨by kernel_rfl, ?_⟩) hHeld ?_
            rotate_left 1
            · (intro v hSw; (try dsimp only at hSw); clear hSw; go_simp; (try with_reducible rfl))
            try simp only [Act.put, List.setIfInBounds_toArray, List.set_cons_zero, List.set_cons_succ]
            refine takeH 3 38 (v := ?_) rfl rfl (by kernel_rfl) (by kernel_rfl) (by kernel_rfl) (fun _ _ _ h => h) (Or.inl ⟨by kernel_rfl, ?_⟩) hHeld ?_
            rotate_left 1
            · (intro v hSw; (try dsimp only at hSw); clear hSw; go_simp; (try with_reducible rfl))
            try simp only [Act.put, List.setIfInBounds_toArray, List.set_cons_zero, List.set_cons_succ]
            refine takeH 4 39 (v := ?_) rfl rfl (by kernel_rfl) (by kernel_rfl) (by kernel_rfl) (fun _ _ _ h => h) (Or.inl ⟨by kernel_rfl, ?_⟩) hHeld ?_
            rotate_left 1
            · (intro v hSw; (try dsimp only at hSw); clear hSw; go_simp; (try with_reducible rfl))
            try simp only [Act.put, List.setIfInBounds_toArray, List.set_cons_zero, List.set_cons_succ]
            refine takeH 5 40 (v := ?_) rfl rfl (by kernel_rfl) (by kernel_rfl) (by kernel_rfl) (fun _ _ _ h => h) (Or.inl ⟨by kernel_rfl, ?_⟩) hHeld ?_
            rotate_left 1
            · (intro v hSw; (try dsimp only at hSw); have q0 := (h.pure hSw).c1; clear hSw; go_simp; (try with_reducible rfl))
            try simp only [Act.put, List.setIfInBounds_toArray, List.set_cons_zero, List.set_cons_succ]
            refine takeH 6 41 (v := ?_) rfl rfl (by kernel_rfl) (by kernel_rfl) (by kernel_rfl) (fun _ _ _ h => h) (Or.inl ⟨by kernel_rfl, ?_⟩) hHeld ?_
            rotate_left 1
            · (intro v hSw; (try dsimp only at hSw); clear hSw; go_simp; (try with_reducible rfl))
            try simp only [Act.put, List.setIfInBounds_toArray, List.set_cons_zero, List.set_cons_succ]
            refine wpAnyH_ready (rs := [7]) (by kernel_rfl) (by simp) ?_
            refine AllReadyH.cons rfl (fun Kq hKq => ?_) AllReadyH.nil
            go_simp
            (go_at_call 39; (with_reducible refine (hused'.out _ h.drew).mono ?_); rintro e _ ⟨rfl, rfl⟩)
            refine hKq.out _ _ hb (fun hHeld => ?_)
            clear hKq Kq
            try simp only [Act.put, List.setIfInBounds_toArray, List.set_cons_zero, List.set_cons_succ]
            refine takeH 8 43 (v := ?_) rfl rfl (by kernel_rfl) (by kernel_rfl) (by kernel_rfl) (fun _ _ _ h => h) (Or.inl ⟨by kernel_rfl, ?_⟩) hHeld ?_
            rotate_left 1
            · (intro v hSw; (try dsimp only at hSw); have hwr : IntKind.i64.wrap (s.room - U) = s.room - U := IntWalk.i64_in _ (by omega); clear hSw; go_simp; (try with_reducible rfl))
            try simp only [Act.put, List.setIfInBounds_toArray, List.set_cons_zero, List.set_cons_succ]
            refine takeH 9 44 (v := ?_) rfl rfl (by kernel_rfl) (by kernel_rfl) (by kernel_rfl) (fun _ _ _ h => h) (Or.inl ⟨by kernel_rfl, ?_⟩) hHeld ?_
            rotate_left 1
            · (intro v hSw; (try dsimp only at hSw); clear hSw; go_simp; (try with_reducible rfl))
            try simp only [Act.put, List.setIfInBounds_toArray, List.set_cons_zero, List.set_cons_succ]
            refine wpAnyH_done (by kernel_rfl) ?_ _
            clear hHeld hb
            obtain ⟨V, hV⟩ : ∃ V, V = w.drew := ⟨_, rfl⟩
            have DV : DD V q v0 s := by rw [hV, hv0]; exact h.drew
            have Y0 : DX w V q v0 v0 := ⟨by rw [hV]; exact (Upd.refl _ w).drew, fun i hi => .inl hi⟩
            rw [← hV]
            clear hV
            have hput := dput_any V q v0 s ⟨x, bb, 0⟩ DV hL ho.rise hg
            go_wp2_with (first | (go_at_call 55; (with_reducible refine hput.mono ?_); rintro e w2 ⟨rfl, v2, hD2, hU2, hK2⟩; clear hput) | (go_at_call 56; (with_reducible refine (hburn w2 v2 hD2).mono ?_); rintro e w3 ⟨rfl, v3, hD3, hU3, hK3⟩; clear hburn))
            go_ret
            have Y3 := (Y0.step hU2 hK2).step hU3 hK3
            rw [hv0] at Y3
            exact ⟨rfl, DT.ext ⟨v3, hD3, Y3.1, Y3.2⟩ (by rw [bnD_with])⟩
          · rw [bn_no hl1 ho.left.1 hoff]
            have hburn : ∀ W v2, DD W q v2 { s with L := setF s.L ⟨x, bb, 0⟩ } → Calls Try.prog 56 #[.pointer (some ⟨q, 0, none⟩)] W fun e w2 => e = .returned (.bool false) ∧ DT W w2 q v2 (bnD { s with L := setF s.L ⟨x, bb, 0⟩ }) := fun W v2 hD => by
              have h9 := dburns_any W q v2 _ hD ho.left
              rw [show decide (({ s with L := setF s.L ⟨x, bb, 0⟩ } : DS).left = 1) = false from decide_eq_false hl1] at h9
              exact h9
            go_enter Try.func29, Try.ntmps29
            go_wp2_with (first | (go_at_call 53; (with_reducible refine hmx.mono ?_); rintro e _ ⟨rfl, rfl⟩; clear hmx) | (go_at_call 54; (with_reducible refine hfind.mono ?_); rintro e _ ⟨⟨i, rfl, hFP⟩, rfl⟩; clear hfind; obtain rfl := hFPi.out i hFP))
            have hb := ((Below.refl _ w).drew : Below w.heap.size w w.drew)
            refine wp_region_held_drew (S := fun v => Below w.heap.size w v) (by kernel_rfl) hb (fun hHeld => ?_)
            refine takeH 0 35 (v := ?_) rfl rfl (by kernel_rfl) (by kernel_rfl) (by kernel_rfl) (fun _ _ _ h => h) (Or.inl ⟨by kernel_rfl, ?_⟩) hHeld ?_
            rotate_left 1
            · (intro v hSw; (try dsimp only at hSw); clear hSw; go_simp; (try with_reducible rfl))
            try simp only [Act.put, List.setIfInBounds_toArray, List.set_cons_zero, List.set_cons_succ]
            refine takeH 1 36 (v := ?_) rfl rfl (by kernel_rfl) (by kernel_rfl) (by kernel_rfl) (fun _ _ _ h => h) (Or.inl ⟨by kernel_rfl, ?_⟩) hHeld ?_
            rotate_left 1
            · (intro v hSw; (try dsimp only at hSw); clear hSw; go_simp; (try with_reducible rfl))
            try simp only [Act.put, List.setIfInBounds_toArray, List.set_cons_zero, List.set_cons_succ]
            refine takeH 2 37 (v := ?_) rfl rfl (by kernel_rfl) (by kernel_rfl) (by kernel_rfl) (fun _ _ _ h => h) (Or.inl ⟨by kernel_rfl, ?_⟩) hHeld ?_
            rotate_left 1
            · (intro v hSw; (try dsimp only at hSw); clear hSw; go_simp; (try with_reducible rfl))
            try simp only [Act.put, List.setIfInBounds_toArray, List.set_cons_zero, List.set_cons_succ]
            refine takeH 3 38 (v := ?_) rfl rfl (by kernel_rfl) (by kernel_rfl) (by kernel_rfl) (fun _ _ _ h => h) (Or.inl ⟨by kernel_rfl, ?_⟩) hHeld ?_
            rotate_left 1
            · (intro v hSw; (try dsimp only at hSw); clear hSw; go_simp; (try with_reducible rfl))
            try simp only [Act.put, List.setIfInBounds_toArray, List.set_cons_zero, List.set_cons_succ]
            refine takeH 4 39 (v := ?_) rfl rfl (by kernel_rfl) (by kernel_rfl) (by kernel_rfl) (fun _ _ _ h => h) (Or.inl ⟨by kernel_rfl, ?_⟩) hHeld ?_
            rotate_left 1
            · (intro v hSw; (try dsimp only at hSw); clear hSw; go_simp; (try with_reducible rfl))
            try simp only [Act.put, List.setIfInBounds_toArray, List.set_cons_zero, List.set_cons_succ]
            refine takeH 5 40 (v := ?_) rfl rfl (by kernel_rfl) (by kernel_rfl) (by kernel_rfl) (fun _ _ _ h => h) (Or.inl ⟨by kernel_rfl, ?_⟩) hHeld ?_
            rotate_left 1
            · (intro v hSw; (try dsimp only at hSw); have q0 := (h.pure hSw).c1; clear hSw; go_simp; (try with_reducible rfl))
            try simp only [Act.put, List.setIfInBounds_toArray, List.set_cons_zero, List.set_cons_succ]
            refine takeH 6 41 (v := ?_) rfl rfl (by kernel_rfl) (by kernel_rfl) (by kernel_rfl) (fun _ _ _ h => h) (Or.inl ⟨by kernel_rfl, ?_⟩) hHeld ?_
            rotate_left 1
            · (intro v hSw; (try dsimp only at hSw); clear hSw; go_simp; (try with_reducible rfl))
            try simp only [Act.put, List.setIfInBounds_toArray, List.set_cons_zero, List.set_cons_succ]
            refine wpAnyH_ready (rs := [7]) (by kernel_rfl) (by simp) ?_
            refine AllReadyH.cons rfl (fun Kq hKq => ?_) AllReadyH.nil
            go_simp
            (go_at_call 39; (with_reducible refine (hused'.out _ h.drew).mono ?_); rintro e _ ⟨rfl, rfl⟩)
            refine hKq.out _ _ hb (fun hHeld => ?_)
            clear hKq Kq
            try simp only [Act.put, List.setIfInBounds_toArray, List.set_cons_zero, List.set_cons_succ]
            refine takeH 8 43 (v := ?_) rfl rfl (by kernel_rfl) (by kernel_rfl) (by kernel_rfl) (fun _ _ _ h => h) (Or.inl ⟨by kernel_rfl, ?_⟩) hHeld ?_
            rotate_left 1
            · (intro v hSw; (try dsimp only at hSw); have hwr : IntKind.i64.wrap (s.room - U) = s.room - U := IntWalk.i64_in _ (by omega); clear hSw; go_simp; (try with_reducible rfl))
            try simp only [Act.put, List.setIfInBounds_toArray, List.set_cons_zero, List.set_cons_succ]
            refine takeH 9 44 (v := ?_) rfl rfl (by kernel_rfl) (by kernel_rfl) (by kernel_rfl) (fun _ _ _ h => h) (Or.inl ⟨by kernel_rfl, ?_⟩) hHeld ?_
            rotate_left 1
            · (intro v hSw; (try dsimp only at hSw); clear hSw; go_simp; (try with_reducible rfl))
            try simp only [Act.put, List.setIfInBounds_toArray, List.set_cons_zero, List.set_cons_succ]
            refine wpAnyH_done (by kernel_rfl) ?_ _
            clear hHeld hb
            obtain ⟨V, hV⟩ : ∃ V, V = w.drew := ⟨_, rfl⟩
            have DV : DD V q v0 s := by rw [hV, hv0]; exact h.drew
            have Y0 : DX w V q v0 v0 := ⟨by rw [hV]; exact (Upd.refl _ w).drew, fun i hi => .inl hi⟩
            rw [← hV]
            clear hV
            have hput := dput_any V q v0 s ⟨x, bb, 0⟩ DV hL ho.rise hg
            go_wp2_with (first | (go_at_call 55; (with_reducible refine hput.mono ?_); rintro e w2 ⟨rfl, v2, hD2, hU2, hK2⟩; clear hput) | (go_at_call 56; (with_reducible refine (hburn w2 v2 hD2).mono ?_); rintro e w3 ⟨rfl, v3, hD3, hU3, hK3⟩; clear hburn))
            go_ret
            have Y3 := (Y0.step hU2 hK2).step hU3 hK3
            rw [hv0] at Y3
            exact ⟨rfl, DT.ext ⟨v3, hD3, Y3.1, Y3.2⟩ (by rw [bnD_with])⟩
      | some f =>
        obtain ⟨hfm, hfn⟩ := getF_some hg
        obtain ⟨k, hk, hkf⟩ := List.mem_iff_getElem.1 hfm
        have hFPi : ∀ i, FP s.L x i → i = (k : Int) := fun i hi => by
          rcases hi with ⟨-, h1⟩ | ⟨j, hj, e, h2⟩
          · rw [hg] at h1; cases h1
          · have h3 := getF_at ho.rise hj
            rw [h2, hg] at h3
            injection h3 with h3
            rcases Nat.lt_trichotomy j k with q | q | q
            · have := List.pairwise_iff_getElem.1 ho.rise j k hj hk q; rw [hkf, h3] at this; exact absurd this (ltN_irrefl _)
            · rw [e, q]
            · have := List.pairwise_iff_getElem.1 ho.rise k j hk hj q; rw [hkf, h3] at this; exact absurd this (ltN_irrefl _)
        have hFPi := Lib.hid hFPi
        have e0 : apD s x bb = if (1048576 : Int) - f.b.size < bb.size then (s, 3) else if s.room - U < bb.size then (s, 6) else burnE s (setF s.L ⟨x, f.b ++ bb, f.s⟩) true := by
          have h1 : szF s.L x = f.b.size := by unfold szF; rw [hg]; rfl
          have h2 : oldB s.L x = f.b := by unfold oldB; rw [hg]; rfl
          have h3 : oldS s.L x = f.s := by unfold oldS; rw [hg]; rfl
          unfold apD; rw [if_neg (by rw [hoff]; simp), if_neg (fun q => q qx), h1, h2, h3, hU0]
        rw [e0]
        have hU0' := Lib.hid hU0; clear hU0 e0
        have hfz1 := (ho.file f hfm).2.2.2
        have hz2 : ¬ 9223372036854775807 < f.b.size + bb.size := by omega
        obtain ⟨g, cap, rfl, hc, hfz⟩ := Own.atd flEnc_len h.2.1 k hk
        rw [hkf] at hc
        have hc1 := hc 1 (.string f.b) rfl
        clear hc
        have hqg : q ≠ g := fun e => h.2.2 (by rw [e]; rfl)
        obtain ⟨v0, hv0⟩ : ∃ v0, v0 = Value.slice (some ⟨g, 0, none⟩) s.L.length cap := ⟨_, rfl⟩
        have hv0' := Lib.hid hv0; clear hv0
        by_cases cl : (1048576 : Int) - f.b.size < bb.size
        · rw [if_pos cl]
          go_enter Try.func29, Try.ntmps29
          go_wp2_with (first | (go_at_call 53; (with_reducible refine hmx.mono ?_); rintro e _ ⟨rfl, rfl⟩; clear hmx) | (go_at_call 54; (with_reducible refine hfind.mono ?_); rintro e _ ⟨⟨i, rfl, hFP⟩, rfl⟩; clear hfind; obtain rfl := hFPi.out i hFP))
          go_ret
          exact ⟨rfl, DT.stay h (Below.refl _ _)⟩
        · rw [if_neg cl]
          by_cases cf : s.room - U < bb.size
          · rw [if_pos cf]
            go_enter Try.func29, Try.ntmps29
            go_wp2_with (first | (go_at_call 53; (with_reducible refine hmx.mono ?_); rintro e _ ⟨rfl, rfl⟩; clear hmx) | (go_at_call 54; (with_reducible refine hfind.mono ?_); rintro e _ ⟨⟨i, rfl, hFP⟩, rfl⟩; clear hfind; obtain rfl := hFPi.out i hFP))
            have hv0 := hv0'.out
            have hb := ((Below.refl _ w).drew : Below w.heap.size w w.drew)
            refine wp_region_held_drew (S := fun v => Below w.heap.size w v) (by kernel_rfl) hb (fun hHeld => ?_)
            refine takeH 0 35 (v := ?_) rfl rfl (by kernel_rfl) (by kernel_rfl) (by kernel_rfl) (fun _ _ _ h => h) (Or.inl ⟨by kernel_rfl, ?_⟩) hHeld ?_
            rotate_left 1
            · (intro v hSw; (try dsimp only at hSw); clear hSw; go_simp; (try with_reducible rfl))
            try simp only [Act.put, List.setIfInBounds_toArray, List.set_cons_zero, List.set_cons_succ]
            refine takeH 1 36 (v := ?_) rfl rfl (by kernel_rfl) (by kernel_rfl) (by kernel_rfl) (fun _ _ _ h => h) (Or.inl ⟨by kernel_rfl, ?_⟩) hHeld ?_
            rotate_left 1
            · (intro v hSw; (try dsimp only at hSw); clear hSw; go_simp; (try with_reducible rfl))
            try simp only [Act.put, List.setIfInBounds_toArray, List.set_cons_zero, List.set_cons_succ]
            refine takeH 2 37 (v := ?_) rfl rfl (by kernel_rfl) (by kernel_rfl) (by kernel_rfl) (fun _ _ _ h => h) (Or.inl ⟨by kernel_rfl, ?_⟩) hHeld ?_
            rotate_left 1
            · (intro v hSw; (try dsimp only at hSw); clear hSw; go_simp; (try with_reducible rfl))
            try simp only [Act.put, List.setIfInBounds_toArray, List.set_cons_zero, List.set_cons_succ]
            refine takeH 3 38 (v := ?_) rfl rfl (by kernel_rfl) (by kernel_rfl) (by kernel_rfl) (fun _ _ _ h => h) (Or.inl ⟨by kernel_rfl, ?_⟩) hHeld ?_
            rotate_left 1
            · (intro v hSw; (try dsimp only at hSw); clear hSw; go_simp; (try with_reducible rfl))
            try simp only [Act.put, List.setIfInBounds_toArray, List.set_cons_zero, List.set_cons_succ]
            refine takeH 4 39 (v := ?_) rfl rfl (by kernel_rfl) (by kernel_rfl) (by kernel_rfl) (fun _ _ _ h => h) (Or.inl ⟨by kernel_rfl, ?_⟩) hHeld ?_
            rotate_left 1
            · (intro v hSw; (try dsimp only at hSw); clear hSw; go_simp; (try with_reducible rfl))
            try simp only [Act.put, List.setIfInBounds_toArray, List.set_cons_zero, List.set_cons_succ]
            refine takeH 5 40 (v := ?_) rfl rfl (by kernel_rfl) (by kernel_rfl) (by kernel_rfl) (fun _ _ _ h => h) (Or.inl ⟨by kernel_rfl, ?_⟩) hHeld ?_
            rotate_left 1
            · (intro v hSw; (try dsimp only at hSw); have q0 := (h.pure hSw).c1; clear hSw; go_simp; (try with_reducible rfl))
            try simp only [Act.put, List.setIfInBounds_toArray, List.set_cons_zero, List.set_cons_succ]
            refine takeH 6 41 (v := ?_) rfl rfl (by kernel_rfl) (by kernel_rfl) (by kernel_rfl) (fun _ _ _ h => h) (Or.inl ⟨by kernel_rfl, ?_⟩) hHeld ?_
            rotate_left 1
            · (intro v hSw; (try dsimp only at hSw); clear hSw; go_simp; (try with_reducible rfl))
            try simp only [Act.put, List.setIfInBounds_toArray, List.set_cons_zero, List.set_cons_succ]
            refine wpAnyH_ready (rs := [7]) (by kernel_rfl) (by simp) ?_
            refine AllReadyH.cons rfl (fun Kq hKq => ?_) AllReadyH.nil
            go_simp
            (go_at_call 39; (with_reducible refine (hused'.out _ h.drew).mono ?_); rintro e _ ⟨rfl, rfl⟩)
            refine hKq.out _ _ hb (fun hHeld => ?_)
            clear hKq Kq
            try simp only [Act.put, List.setIfInBounds_toArray, List.set_cons_zero, List.set_cons_succ]
            refine takeH 8 43 (v := ?_) rfl rfl (by kernel_rfl) (by kernel_rfl) (by kernel_rfl) (fun _ _ _ h => h) (Or.inl ⟨by kernel_rfl, ?_⟩) hHeld ?_
            rotate_left 1
            · (intro v hSw; (try dsimp only at hSw); have hwr : IntKind.i64.wrap (s.room - U) = s.room - U := IntWalk.i64_in _ (by omega); clear hSw; go_simp; (try with_reducible rfl))
            try simp only [Act.put, List.setIfInBounds_toArray, List.set_cons_zero, List.set_cons_succ]
            refine takeH 9 44 (v := ?_) rfl rfl (by kernel_rfl) (by kernel_rfl) (by kernel_rfl) (fun _ _ _ h => h) (Or.inl ⟨by kernel_rfl, ?_⟩) hHeld ?_
            rotate_left 1
            · (intro v hSw; (try dsimp only at hSw); clear hSw; go_simp; (try with_reducible rfl))
            try simp only [Act.put, List.setIfInBounds_toArray, List.set_cons_zero, List.set_cons_succ]
            refine wpAnyH_done (by kernel_rfl) ?_ _
            clear hHeld hb
            obtain ⟨V, hV⟩ : ∃ V, V = w.drew := ⟨_, rfl⟩
            have DV : DD V q v0 s := by rw [hV, hv0]; exact h.drew
            have Y0 : DX w V q v0 v0 := ⟨by rw [hV]; exact (Upd.refl _ w).drew, fun i hi => .inl hi⟩
            subst hV
            go_wp2
            go_ret
            exact ⟨rfl, (DT.stay h (Below.refl _ w)).drew⟩
          · rw [if_neg cf]
            by_cases hl1 : s.left = 1
            · rw [bn_yes hl1]
              have hburn : ∀ W v2, DD W q v2 { s with L := setF s.L ⟨x, f.b ++ bb, f.s⟩ } → Calls Try.prog 56 #[.pointer (some ⟨q, 0, none⟩)] W fun e w2 => e = .returned (.bool true) ∧ DT W w2 q v2 (bnD { s with L := setF s.L ⟨x, f.b ++ bb, f.s⟩ }) := fun W v2 hD => by
                have h9 := dburns_any W q v2 _ hD ho.left
                rw [show decide (({ s with L := setF s.L ⟨x, f.b ++ bb, f.s⟩ } : DS).left = 1) = true from decide_eq_true hl1] at h9
                exact h9
              have hset := setF_at (f := ⟨x, f.b ++ bb, f.s⟩) ho.rise hk (by rw [hkf]; exact hfn)
              have hset' := Lib.hid hset; clear hset
              go_enter Try.func29, Try.ntmps29
              go_wp2_with (first | (go_at_call 53; (with_reducible refine hmx.mono ?_); rintro e _ ⟨rfl, rfl⟩; clear hmx) | (go_at_call 54; (with_reducible refine hfind.mono ?_); rintro e _ ⟨⟨i, rfl, hFP⟩, rfl⟩; clear hfind; obtain rfl := hFPi.out i hFP))
              have hv0 := hv0'.out
              have hb := ((Below.refl _ w).drew : Below w.heap.size w w.drew)
              refine wp_region_held_drew (S := fun v => Below w.heap.size w v) (by kernel_rfl) hb (fun hHeld => ?_)
              refine takeH 0 35 (v := ?_) rfl rfl (by kernel_rfl) (by kernel_rfl) (by kernel_rfl) (fun _ _ _ h => h) (Or.inl ⟨by kernel_rfl, ?_⟩) hHeld ?_
              rotate_left 1
              · (intro v hSw; (try dsimp only at hSw); clear hSw; go_simp; (try with_reducible rfl))
              try simp only [Act.put, List.setIfInBounds_toArray, List.set_cons_zero, List.set_cons_succ]
              refine takeH 1 36 (v := ?_) rfl rfl (by kernel_rfl) (by kernel_rfl) (by kernel_rfl) (fun _ _ _ h => h) (Or.inl ⟨by kernel_rfl, ?_⟩) hHeld ?_
              rotate_left 1
              · (intro v hSw; (try dsimp only at hSw); clear hSw; go_simp; (try with_reducible rfl))
              try simp only [Act.put, List.setIfInBounds_toArray, List.set_cons_zero, List.set_cons_succ]
              refine takeH 2 37 (v := ?_) rfl rfl (by kernel_rfl) (by kernel_rfl) (by kernel_rfl) (fun _ _ _ h => h) (Or.inl ⟨by kernel_rfl, ?_⟩) hHeld ?_
              rotate_left 1
              · (intro v hSw; (try dsimp only at hSw); clear hSw; go_simp; (try with_reducible rfl))
              try simp only [Act.put, List.setIfInBounds_toArray, List.set_cons_zero, List.set_cons_succ]
              refine takeH 3 38 (v := ?_) rfl rfl (by kernel_rfl) (by kernel_rfl) (by kernel_rfl) (fun _ _ _ h => h) (Or.inl ⟨by kernel_rfl, ?_⟩) hHeld ?_
              rotate_left 1
              · (intro v hSw; (try dsimp only at hSw); clear hSw; go_simp; (try with_reducible rfl))
              try simp only [Act.put, List.setIfInBounds_toArray, List.set_cons_zero, List.set_cons_succ]
              refine takeH 4 39 (v := ?_) rfl rfl (by kernel_rfl) (by kernel_rfl) (by kernel_rfl) (fun _ _ _ h => h) (Or.inl ⟨by kernel_rfl, ?_⟩) hHeld ?_
              rotate_left 1
              · (intro v hSw; (try dsimp only at hSw); clear hSw; go_simp; (try with_reducible rfl))
              try simp only [Act.put, List.setIfInBounds_toArray, List.set_cons_zero, List.set_cons_succ]
              refine takeH 5 40 (v := ?_) rfl rfl (by kernel_rfl) (by kernel_rfl) (by kernel_rfl) (fun _ _ _ h => h) (Or.inl ⟨by kernel_rfl, ?_⟩) hHeld ?_
              rotate_left 1
              · (intro v hSw; (try dsimp only at hSw); have q0 := (h.pure hSw).c1; clear hSw; go_simp; (try with_reducible rfl))
              try simp only [Act.put, List.setIfInBounds_toArray, List.set_cons_zero, List.set_cons_succ]
              refine takeH 6 41 (v := ?_) rfl rfl (by kernel_rfl) (by kernel_rfl) (by kernel_rfl) (fun _ _ _ h => h) (Or.inl ⟨by kernel_rfl, ?_⟩) hHeld ?_
              rotate_left 1
              · (intro v hSw; (try dsimp only at hSw); clear hSw; go_simp; (try with_reducible rfl))
              try simp only [Act.put, List.setIfInBounds_toArray, List.set_cons_zero, List.set_cons_succ]
              refine wpAnyH_ready (rs := [7]) (by kernel_rfl) (by simp) ?_
              refine AllReadyH.cons rfl (fun Kq hKq => ?_) AllReadyH.nil
              go_simp
              (go_at_call 39; (with_reducible refine (hused'.out _ h.drew).mono ?_); rintro e _ ⟨rfl, rfl⟩)
              refine hKq.out _ _ hb (fun hHeld => ?_)
              clear hKq Kq
              try simp only [Act.put, List.setIfInBounds_toArray, List.set_cons_zero, List.set_cons_succ]
              refine takeH 8 43 (v := ?_) rfl rfl (by kernel_rfl) (by kernel_rfl) (by kernel_rfl) (fun _ _ _ h => h) (Or.inl ⟨by kernel_rfl, ?_⟩) hHeld ?_
              rotate_left 1
              · (intro v hSw; (try dsimp only at hSw); have hwr : IntKind.i64.wrap (s.room - U) = s.room - U := IntWalk.i64_in _ (by omega); clear hSw; go_simp; (try with_reducible rfl))
              try simp only [Act.put, List.setIfInBounds_toArray, List.set_cons_zero, List.set_cons_succ]
              refine takeH 9 44 (v := ?_) rfl rfl (by kernel_rfl) (by kernel_rfl) (by kernel_rfl) (fun _ _ _ h => h) (Or.inl ⟨by kernel_rfl, ?_⟩) hHeld ?_
              rotate_left 1
              · (intro v hSw; (try dsimp only at hSw); clear hSw; go_simp; (try with_reducible rfl))
              try simp only [Act.put, List.setIfInBounds_toArray, List.set_cons_zero, List.set_cons_succ]
              refine wpAnyH_done (by kernel_rfl) ?_ _
              clear hHeld hb
              obtain ⟨V, hV⟩ : ∃ V, V = w.drew := ⟨_, rfl⟩
              have DV : DD V q v0 s := by rw [hV, hv0]; exact h.drew
              have Y0 : DX w V q v0 v0 := ⟨by rw [hV]; exact (Upd.refl _ w).drew, fun i hi => .inl hi⟩
              rw [hv0] at DV Y0
              have hcV : V.cell? ⟨g, k * 3 + 1, none⟩ = some (.string f.b) := by rw [hV]; exact hc1
              have hfV := fun j => DV.2.1.frozen j
              have dV := DV.c0
              have hqV := DV.1.lt
              rw [← hV]
              clear hV hv0
              go_wp2
              have hb := dV
              refine wp_region_held_drew (S := fun v => v.cell? ⟨q, 0, none⟩ = some (.slice (some ⟨g, 0, none⟩) s.L.length cap)) (by kernel_rfl) hb (fun hHeld => ?_)
              refine takeH 0 52 (v := ?_) rfl rfl (by kernel_rfl) (by kernel_rfl) (by kernel_rfl) (fun _ _ _ h => h) (Or.inl ⟨by kernel_rfl, ?_⟩) hHeld ?_
              rotate_left 1
              · (intro v hSw; (try dsimp only at hSw); clear hSw; go_simp; (try with_reducible rfl))
              try simp only [Act.put, List.setIfInBounds_toArray, List.set_cons_zero, List.set_cons_succ]
              refine takeH 1 53 (v := ?_) rfl rfl (by kernel_rfl) (by kernel_rfl) (by kernel_rfl) (fun _ _ _ h => h) (Or.inl ⟨by kernel_rfl, ?_⟩) hHeld ?_
              rotate_left 1
              · (intro v hSw; (try dsimp only at hSw); clear hSw; go_simp; (try with_reducible rfl))
              try simp only [Act.put, List.setIfInBounds_toArray, List.set_cons_zero, List.set_cons_succ]
              refine takeH 2 54 (v := ?_) rfl rfl (by kernel_rfl) (by kernel_rfl) (by kernel_rfl) (fun _ _ _ h => h) (Or.inl ⟨by kernel_rfl, ?_⟩) hHeld ?_
              rotate_left 1
              · (intro v hSw; (try dsimp only at hSw); clear hSw; go_simp; (try with_reducible rfl))
              try simp only [Act.put, List.setIfInBounds_toArray, List.set_cons_zero, List.set_cons_succ]
              refine takeH 3 55 (v := ?_) rfl rfl (by kernel_rfl) (by kernel_rfl) (by kernel_rfl) (fun _ _ _ h => h) (Or.inl ⟨by kernel_rfl, ?_⟩) hHeld ?_
              rotate_left 1
              · (intro v hSw; (try dsimp only at hSw); have q0 := hSw; clear hSw; go_simp; (try with_reducible rfl))
              try simp only [Act.put, List.setIfInBounds_toArray, List.set_cons_zero, List.set_cons_succ]
              refine takeH 4 56 (v := ?_) rfl rfl (by kernel_rfl) (by kernel_rfl) (by kernel_rfl) (fun _ _ _ h => h) (Or.inl ⟨by kernel_rfl, ?_⟩) hHeld ?_
              rotate_left 1
              · (intro v hSw; (try dsimp only at hSw); clear hSw; go_simp; (try with_reducible rfl))
              try simp only [Act.put, List.setIfInBounds_toArray, List.set_cons_zero, List.set_cons_succ]
              refine takeH 5 57 (v := ?_) rfl rfl (by kernel_rfl) (by kernel_rfl) (by kernel_rfl) (fun _ _ _ h => h) (Or.inl ⟨by kernel_rfl, ?_⟩) hHeld ?_
              rotate_left 1
              · (intro v hSw; (try dsimp only at hSw); clear hSw; go_simp; (try with_reducible rfl))
              try simp only [Act.put, List.setIfInBounds_toArray, List.set_cons_zero, List.set_cons_succ]
              refine takeH 6 58 (v := ?_) rfl rfl (by kernel_rfl) (by kernel_rfl) (by kernel_rfl) (fun _ _ _ h => h) (Or.inl ⟨by kernel_rfl, ?_⟩) hHeld ?_
              rotate_left 1
              · (intro v hSw; (try dsimp only at hSw); clear hSw; go_simp; (try with_reducible rfl))
              try simp only [Act.put, List.setIfInBounds_toArray, List.set_cons_zero, List.set_cons_succ]
              refine takeH 7 59 (v := ?_) rfl rfl (by kernel_rfl) (by kernel_rfl) (by kernel_rfl) (fun _ _ _ h => h) (Or.inl ⟨by kernel_rfl, ?_⟩) hHeld ?_
              rotate_left 1
              · (intro v hSw; (try dsimp only at hSw); clear hSw; go_simp; (try with_reducible rfl))
              try simp only [Act.put, List.setIfInBounds_toArray, List.set_cons_zero, List.set_cons_succ]
              refine takeH 8 60 (v := ?_) rfl rfl (by kernel_rfl) (by kernel_rfl) (by kernel_rfl) (fun _ _ _ h => h) (Or.inl ⟨by kernel_rfl, ?_⟩) hHeld ?_
              rotate_left 1
              · (intro v hSw; (try dsimp only at hSw); have q0 := hSw; clear hSw; go_simp; (try with_reducible rfl))
              try simp only [Act.put, List.setIfInBounds_toArray, List.set_cons_zero, List.set_cons_succ]
              refine takeH 9 61 (v := ?_) rfl rfl (by kernel_rfl) (by kernel_rfl) (by kernel_rfl) (fun _ _ _ h => h) (Or.inl ⟨by kernel_rfl, ?_⟩) hHeld ?_
              rotate_left 1
              · (intro v hSw; (try dsimp only at hSw); clear hSw; go_simp; (try with_reducible rfl))
              try simp only [Act.put, List.setIfInBounds_toArray, List.set_cons_zero, List.set_cons_succ]
              refine takeH 10 62 (v := ?_) rfl rfl (by kernel_rfl) (by kernel_rfl) (by kernel_rfl) (fun _ _ _ h => h) (Or.inl ⟨by kernel_rfl, ?_⟩) hHeld ?_
              rotate_left 1
              · (intro v hSw; (try dsimp only at hSw); clear hSw; go_simp; (try with_reducible rfl))
              try simp only [Act.put, List.setIfInBounds_toArray, List.set_cons_zero, List.set_cons_succ]
              refine takeH 11 63 (v := ?_) rfl rfl (by kernel_rfl) (by kernel_rfl) (by kernel_rfl) (fun _ _ _ h => h) (Or.inl ⟨by kernel_rfl, ?_⟩) hHeld ?_
              rotate_left 1
              · (intro v hSw; (try dsimp only at hSw); clear hSw; go_simp; (try with_reducible rfl))
              try simp only [Act.put, List.setIfInBounds_toArray, List.set_cons_zero, List.set_cons_succ]
              refine takeH 13 65 (v := ?_) rfl rfl (by kernel_rfl) (by kernel_rfl) (by kernel_rfl) (fun _ _ _ h => h) (Or.inl ⟨by kernel_rfl, ?_⟩) hHeld ?_
              rotate_left 1
              · (intro v hSw; (try dsimp only at hSw); clear hSw; go_simp; (try with_reducible rfl))
              try simp only [Act.put, List.setIfInBounds_toArray, List.set_cons_zero, List.set_cons_succ]
              refine wpAnyH_ready (rs := [12]) (by kernel_rfl) (by simp) ?_
              refine AllReadyH.cons rfl (fun Kq hKq => ?_) AllReadyH.nil
              have q0 : V.drew.cell? ⟨g, k * 3 + 1, none⟩ = _ := hcV
              go_simp
              refine hKq.out _ _ hb (fun hHeld => ?_)
              clear hKq Kq
              try simp only [Act.put, List.setIfInBounds_toArray, List.set_cons_zero, List.set_cons_succ]
              refine takeH 14 66 (v := ?_) rfl rfl (by kernel_rfl) (by kernel_rfl) (by kernel_rfl) (fun _ _ _ h => h) (Or.inl ⟨by kernel_rfl, ?_⟩) hHeld ?_
              rotate_left 1
              · (intro v hSw; (try dsimp only at hSw); clear hSw; go_simp; (try with_reducible rfl))
              try simp only [Act.put, List.setIfInBounds_toArray, List.set_cons_zero, List.set_cons_succ]
              refine takeH 15 67 (v := ?_) rfl rfl (by kernel_rfl) (by kernel_rfl) (by kernel_rfl) (fun _ _ _ h => h) (Or.inl ⟨by kernel_rfl, ?_⟩) hHeld ?_
              rotate_left 1
              · (intro v hSw; (try dsimp only at hSw); clear hSw; go_simp; (try with_reducible rfl))
              try simp only [Act.put, List.setIfInBounds_toArray, List.set_cons_zero, List.set_cons_succ]
              refine takeH 16 68 (v := ?_) rfl rfl (by kernel_rfl) (by kernel_rfl) (by kernel_rfl) (fun _ _ _ h => h) (Or.inl ⟨by kernel_rfl, ?_⟩) hHeld ?_
              rotate_left 1
              · (intro v hSw; (try dsimp only at hSw); clear hSw; go_simp; (try with_reducible rfl))
              try simp only [Act.put, List.setIfInBounds_toArray, List.set_cons_zero, List.set_cons_succ]
              refine wpAnyH_ready (rs := [17]) (by kernel_rfl) (by simp) ?_
              refine AllReadyH.cons rfl (fun Kq hKq => ?_) AllReadyH.nil
              have q0 : V.drew.cell? ⟨g, k * 3 + 1, none⟩ = _ := hcV
              have q1 : V.drew.frozen? ⟨g, k * 3 + 1, none⟩ = false := hfV _
              go_simp
              refine hKq.out _ _ ?_ (fun hHeld => ?_)
              · exact (((Upd.set (S := fun i => i = g) (p := ⟨g, k * 3 + 1, none⟩) rfl _).cell (p := ⟨q, 0, none⟩) hqV hqg).trans dV)
              clear hKq Kq
              try simp only [Act.put, List.setIfInBounds_toArray, List.set_cons_zero, List.set_cons_succ]
              refine wpAnyH_done (by kernel_rfl) ?_ _
              clear hHeld hb
              obtain ⟨W2, hW2⟩ : ∃ W2, W2 = (V.setCell ⟨g, k * 3 + 1, none⟩ (.string (f.b ++ bb))).drew := ⟨_, rfl⟩
              have D2 : DD W2 q (.slice (some ⟨g, 0, none⟩) s.L.length cap) { s with L := setF s.L ⟨x, f.b ++ bb, f.s⟩ } := by rw [hW2, hset'.out]; exact (DV.store k hk 1 (.string (f.b ++ bb)) ⟨x, f.b ++ bb, f.s⟩ (by omega) (by rw [hkf, ← hfn]; rfl)).drew
              have Y2 : DX w W2 q (.slice (some ⟨g, 0, none⟩) s.L.length cap) (.slice (some ⟨g, 0, none⟩) s.L.length cap) := Y0.step (by rw [hW2]; exact (Upd.set (S := DQ q (.slice (some ⟨g, 0, none⟩) s.L.length cap)) (p := ⟨g, k * 3 + 1, none⟩) (.inr rfl) _).drew) (fun i hi => .inl hi)
              rw [← hW2]
              clear hW2
              have hb2 := hburn W2 _ D2
              clear hburn dV hcV hfV hc1 hfz
              go_wp2_with (go_at_call 56; (with_reducible refine hb2.mono ?_); rintro e w3 ⟨rfl, v3, hD3, hU3, hK3⟩; clear hb2)
              go_ret
              have Y3 := Y2.step hU3 hK3
              exact ⟨rfl, DT.ext ⟨v3, hD3, Y3.1, Y3.2⟩ (by rw [bnD_with])⟩
            · rw [bn_no hl1 ho.left.1 hoff]
              have hburn : ∀ W v2, DD W q v2 { s with L := setF s.L ⟨x, f.b ++ bb, f.s⟩ } → Calls Try.prog 56 #[.pointer (some ⟨q, 0, none⟩)] W fun e w2 => e = .returned (.bool false) ∧ DT W w2 q v2 (bnD { s with L := setF s.L ⟨x, f.b ++ bb, f.s⟩ }) := fun W v2 hD => by
                have h9 := dburns_any W q v2 _ hD ho.left
                rw [show decide (({ s with L := setF s.L ⟨x, f.b ++ bb, f.s⟩ } : DS).left = 1) = false from decide_eq_false hl1] at h9
                exact h9
              have hset := setF_at (f := ⟨x, f.b ++ bb, f.s⟩) ho.rise hk (by rw [hkf]; exact hfn)
              have hset' := Lib.hid hset; clear hset
              go_enter Try.func29, Try.ntmps29
              go_wp2_with (first | (go_at_call 53; (with_reducible refine hmx.mono ?_); rintro e _ ⟨rfl, rfl⟩; clear hmx) | (go_at_call 54; (with_reducible refine hfind.mono ?_); rintro e _ ⟨⟨i, rfl, hFP⟩, rfl⟩; clear hfind; obtain rfl := hFPi.out i hFP))
              have hv0 := hv0'.out
              have hb := ((Below.refl _ w).drew : Below w.heap.size w w.drew)
              refine wp_region_held_drew (S := fun v => Below w.heap.size w v) (by kernel_rfl) hb (fun hHeld => ?_)
              refine takeH 0 35 (v := ?_) rfl rfl (by kernel_rfl) (by kernel_rfl) (by kernel_rfl) (fun _ _ _ h => h) (Or.inl ⟨by kernel_rfl, ?_⟩) hHeld ?_
              rotate_left 1
              · (intro v hSw; (try dsimp only at hSw); clear hSw; go_simp; (try with_reducible rfl))
              try simp only [Act.put, List.setIfInBounds_toArray, List.set_cons_zero, List.set_cons_succ]
              refine takeH 1 36 (v := ?_) rfl rfl (by kernel_rfl) (by kernel_rfl) (by kernel_rfl) (fun _ _ _ h => h) (Or.inl ⟨by kernel_rfl, ?_⟩) hHeld ?_
              rotate_left 1
              · (intro v hSw; (try dsimp only at hSw); clear hSw; go_simp; (try with_reducible rfl))
              try simp only [Act.put, List.setIfInBounds_toArray, List.set_cons_zero, List.set_cons_succ]
              refine takeH 2 37 (v := ?_) rfl rfl (by kernel_rfl) (by kernel_rfl) (by kernel_rfl) (fun _ _ _ h => h) (Or.inl ⟨by kernel_rfl, ?_⟩) hHeld ?_
              rotate_left 1
              · (intro v hSw; (try dsimp only at hSw); clear hSw; go_simp; (try with_reducible rfl))
              try simp only [Act.put, List.setIfInBounds_toArray, List.set_cons_zero, List.set_cons_succ]
              refine takeH 3 38 (v := ?_) rfl rfl (by kernel_rfl) (by kernel_rfl) (by kernel_rfl) (fun _ _ _ h => h) (Or.inl ⟨by kernel_rfl, ?_⟩) hHeld ?_
              rotate_left 1
              · (intro v hSw; (try dsimp only at hSw); clear hSw; go_simp; (try with_reducible rfl))
              try simp only [Act.put, List.setIfInBounds_toArray, List.set_cons_zero, List.set_cons_succ]
              refine takeH 4 39 (v := ?_) rfl rfl (by kernel_rfl) (by kernel_rfl) (by kernel_rfl) (fun _ _ _ h => h) (Or.inl ⟨by kernel_rfl, ?_⟩) hHeld ?_
              rotate_left 1
              · (intro v hSw; (try dsimp only at hSw); clear hSw; go_simp; (try with_reducible rfl))
              try simp only [Act.put, List.setIfInBounds_toArray, List.set_cons_zero, List.set_cons_succ]
              refine takeH 5 40 (v := ?_) rfl rfl (by kernel_rfl) (by kernel_rfl) (by kernel_rfl) (fun _ _ _ h => h) (Or.inl ⟨by kernel_rfl, ?_⟩) hHeld ?_
              rotate_left 1
              · (intro v hSw; (try dsimp only at hSw); have q0 := (h.pure hSw).c1; clear hSw; go_simp; (try with_reducible rfl))
              try simp only [Act.put, List.setIfInBounds_toArray, List.set_cons_zero, List.set_cons_succ]
              refine takeH 6 41 (v := ?_) rfl rfl (by kernel_rfl) (by kernel_rfl) (by kernel_rfl) (fun _ _ _ h => h) (Or.inl ⟨by kernel_rfl, ?_⟩) hHeld ?_
              rotate_left 1
              · (intro v hSw; (try dsimp only at hSw); clear hSw; go_simp; (try with_reducible rfl))
              try simp only [Act.put, List.setIfInBounds_toArray, List.set_cons_zero, List.set_cons_succ]
              refine wpAnyH_ready (rs := [7]) (by kernel_rfl) (by simp) ?_
              refine AllReadyH.cons rfl (fun Kq hKq => ?_) AllReadyH.nil
              go_simp
              (go_at_call 39; (with_reducible refine (hused'.out _ h.drew).mono ?_); rintro e _ ⟨rfl, rfl⟩)
              refine hKq.out _ _ hb (fun hHeld => ?_)
              clear hKq Kq
              try simp only [Act.put, List.setIfInBounds_toArray, List.set_cons_zero, List.set_cons_succ]
              refine takeH 8 43 (v := ?_) rfl rfl (by kernel_rfl) (by kernel_rfl) (by kernel_rfl) (fun _ _ _ h => h) (Or.inl ⟨by kernel_rfl, ?_⟩) hHeld ?_
              rotate_left 1
              · (intro v hSw; (try dsimp only at hSw); have hwr : IntKind.i64.wrap (s.room - U) = s.room - U := IntWalk.i64_in _ (by omega); clear hSw; go_simp; (try with_reducible rfl))
              try simp only [Act.put, List.setIfInBounds_toArray, List.set_cons_zero, List.set_cons_succ]
              refine takeH 9 44 (v := ?_) rfl rfl (by kernel_rfl) (by kernel_rfl) (by kernel_rfl) (fun _ _ _ h => h) (Or.inl ⟨by kernel_rfl, ?_⟩) hHeld ?_
              rotate_left 1
              · (intro v hSw; (try dsimp only at hSw); clear hSw; go_simp; (try with_reducible rfl))
              try simp only [Act.put, List.setIfInBounds_toArray, List.set_cons_zero, List.set_cons_succ]
              refine wpAnyH_done (by kernel_rfl) ?_ _
              clear hHeld hb
              obtain ⟨V, hV⟩ : ∃ V, V = w.drew := ⟨_, rfl⟩
              have DV : DD V q v0 s := by rw [hV, hv0]; exact h.drew
              have Y0 : DX w V q v0 v0 := ⟨by rw [hV]; exact (Upd.refl _ w).drew, fun i hi => .inl hi⟩
              rw [hv0] at DV Y0
              have hcV : V.cell? ⟨g, k * 3 + 1, none⟩ = some (.string f.b) := by rw [hV]; exact hc1
              have hfV := fun j => DV.2.1.frozen j
              have dV := DV.c0
              have hqV := DV.1.lt
              rw [← hV]
              clear hV hv0
              go_wp2
              have hb := dV
              refine wp_region_held_drew (S := fun v => v.cell? ⟨q, 0, none⟩ = some (.slice (some ⟨g, 0, none⟩) s.L.length cap)) (by kernel_rfl) hb (fun hHeld => ?_)
              refine takeH 0 52 (v := ?_) rfl rfl (by kernel_rfl) (by kernel_rfl) (by kernel_rfl) (fun _ _ _ h => h) (Or.inl ⟨by kernel_rfl, ?_⟩) hHeld ?_
              rotate_left 1
              · (intro v hSw; (try dsimp only at hSw); clear hSw; go_simp; (try with_reducible rfl))
              try simp only [Act.put, List.setIfInBounds_toArray, List.set_cons_zero, List.set_cons_succ]
              refine takeH 1 53 (v := ?_) rfl rfl (by kernel_rfl) (by kernel_rfl) (by kernel_rfl) (fun _ _ _ h => h) (Or.inl ⟨by kernel_rfl, ?_⟩) hHeld ?_
              rotate_left 1
              · (intro v hSw; (try dsimp only at hSw); clear hSw; go_simp; (try with_reducible rfl))
              try simp only [Act.put, List.setIfInBounds_toArray, List.set_cons_zero, List.set_cons_succ]
              refine takeH 2 54 (v := ?_) rfl rfl (by kernel_rfl) (by kernel_rfl) (by kernel_rfl) (fun _ _ _ h => h) (Or.inl ⟨by kernel_rfl, ?_⟩) hHeld ?_
              rotate_left 1
              · (intro v hSw; (try dsimp only at hSw); clear hSw; go_simp; (try with_reducible rfl))
              try simp only [Act.put, List.setIfInBounds_toArray, List.set_cons_zero, List.set_cons_succ]
              refine takeH 3 55 (v := ?_) rfl rfl (by kernel_rfl) (by kernel_rfl) (by kernel_rfl) (fun _ _ _ h => h) (Or.inl ⟨by kernel_rfl, ?_⟩) hHeld ?_
              rotate_left 1
              · (intro v hSw; (try dsimp only at hSw); have q0 := hSw; clear hSw; go_simp; (try with_reducible rfl))
              try simp only [Act.put, List.setIfInBounds_toArray, List.set_cons_zero, List.set_cons_succ]
              refine takeH 4 56 (v := ?_) rfl rfl (by kernel_rfl) (by kernel_rfl) (by kernel_rfl) (fun _ _ _ h => h) (Or.inl ⟨by kernel_rfl, ?_⟩) hHeld ?_
              rotate_left 1
              · (intro v hSw; (try dsimp only at hSw); clear hSw; go_simp; (try with_reducible rfl))
              try simp only [Act.put, List.setIfInBounds_toArray, List.set_cons_zero, List.set_cons_succ]
              refine takeH 5 57 (v := ?_) rfl rfl (by kernel_rfl) (by kernel_rfl) (by kernel_rfl) (fun _ _ _ h => h) (Or.inl ⟨by kernel_rfl, ?_⟩) hHeld ?_
              rotate_left 1
              · (intro v hSw; (try dsimp only at hSw); clear hSw; go_simp; (try with_reducible rfl))
              try simp only [Act.put, List.setIfInBounds_toArray, List.set_cons_zero, List.set_cons_succ]
              refine takeH 6 58 (v := ?_) rfl rfl (by kernel_rfl) (by kernel_rfl) (by kernel_rfl) (fun _ _ _ h => h) (Or.inl ⟨by kernel_rfl, ?_⟩) hHeld ?_
              rotate_left 1
              · (intro v hSw; (try dsimp only at hSw); clear hSw; go_simp; (try with_reducible rfl))
              try simp only [Act.put, List.setIfInBounds_toArray, List.set_cons_zero, List.set_cons_succ]
              refine takeH 7 59 (v := ?_) rfl rfl (by kernel_rfl) (by kernel_rfl) (by kernel_rfl) (fun _ _ _ h => h) (Or.inl ⟨by kernel_rfl, ?_⟩) hHeld ?_
              rotate_left 1
              · (intro v hSw; (try dsimp only at hSw); clear hSw; go_simp; (try with_reducible rfl))
              try simp only [Act.put, List.setIfInBounds_toArray, List.set_cons_zero, List.set_cons_succ]
              refine takeH 8 60 (v := ?_) rfl rfl (by kernel_rfl) (by kernel_rfl) (by kernel_rfl) (fun _ _ _ h => h) (Or.inl ⟨by kernel_rfl, ?_⟩) hHeld ?_
              rotate_left 1
              · (intro v hSw; (try dsimp only at hSw); have q0 := hSw; clear hSw; go_simp; (try with_reducible rfl))
              try simp only [Act.put, List.setIfInBounds_toArray, List.set_cons_zero, List.set_cons_succ]
              refine takeH 9 61 (v := ?_) rfl rfl (by kernel_rfl) (by kernel_rfl) (by kernel_rfl) (fun _ _ _ h => h) (Or.inl ⟨by kernel_rfl, ?_⟩) hHeld ?_
              rotate_left 1
              · (intro v hSw; (try dsimp only at hSw); clear hSw; go_simp; (try with_reducible rfl))
              try simp only [Act.put, List.setIfInBounds_toArray, List.set_cons_zero, List.set_cons_succ]
              refine takeH 10 62 (v := ?_) rfl rfl (by kernel_rfl) (by kernel_rfl) (by kernel_rfl) (fun _ _ _ h => h) (Or.inl ⟨by kernel_rfl, ?_⟩) hHeld ?_
              rotate_left 1
              · (intro v hSw; (try dsimp only at hSw); clear hSw; go_simp; (try with_reducible rfl))
              try simp only [Act.put, List.setIfInBounds_toArray, List.set_cons_zero, List.set_cons_succ]
              refine takeH 11 63 (v := ?_) rfl rfl (by kernel_rfl) (by kernel_rfl) (by kernel_rfl) (fun _ _ _ h => h) (Or.inl ⟨by kernel_rfl, ?_⟩) hHeld ?_
              rotate_left 1
              · (intro v hSw; (try dsimp only at hSw); clear hSw; go_simp; (try with_reducible rfl))
              try simp only [Act.put, List.setIfInBounds_toArray, List.set_cons_zero, List.set_cons_succ]
              refine takeH 13 65 (v := ?_) rfl rfl (by kernel_rfl) (by kernel_rfl) (by kernel_rfl) (fun _ _ _ h => h) (Or.inl ⟨by kernel_rfl, ?_⟩) hHeld ?_
              rotate_left 1
              · (intro v hSw; (try dsimp only at hSw); clear hSw; go_simp; (try with_reducible rfl))
              try simp only [Act.put, List.setIfInBounds_toArray, List.set_cons_zero, List.set_cons_succ]
              refine wpAnyH_ready (rs := [12]) (by kernel_rfl) (by simp) ?_
              refine AllReadyH.cons rfl (fun Kq hKq => ?_) AllReadyH.nil
              have q0 : V.drew.cell? ⟨g, k * 3 + 1, none⟩ = _ := hcV
              go_simp
              refine hKq.out _ _ hb (fun hHeld => ?_)
              clear hKq Kq
              try simp only [Act.put, List.setIfInBounds_toArray, List.set_cons_zero, List.set_cons_succ]
              refine takeH 14 66 (v := ?_) rfl rfl (by kernel_rfl) (by kernel_rfl) (by kernel_rfl) (fun _ _ _ h => h) (Or.inl ⟨by kernel_rfl, ?_⟩) hHeld ?_
              rotate_left 1
              · (intro v hSw; (try dsimp only at hSw); clear hSw; go_simp; (try with_reducible rfl))
              try simp only [Act.put, List.setIfInBounds_toArray, List.set_cons_zero, List.set_cons_succ]
              refine takeH 15 67 (v := ?_) rfl rfl (by kernel_rfl) (by kernel_rfl) (by kernel_rfl) (fun _ _ _ h => h) (Or.inl ⟨by kernel_rfl, ?_⟩) hHeld ?_
              rotate_left 1
              · (intro v hSw; (try dsimp only at hSw); clear hSw; go_simp; (try with_reducible rfl))
              try simp only [Act.put, List.setIfInBounds_toArray, List.set_cons_zero, List.set_cons_succ]
              refine takeH 16 68 (v := ?_) rfl rfl (by kernel_rfl) (by kernel_rfl) (by kernel_rfl) (fun _ _ _ h => h) (Or.inl ⟨by kernel_rfl, ?_⟩) hHeld ?_
              rotate_left 1
              · (intro v hSw; (try dsimp only at hSw); clear hSw; go_simp; (try with_reducible rfl))
              try simp only [Act.put, List.setIfInBounds_toArray, List.set_cons_zero, List.set_cons_succ]
              refine wpAnyH_ready (rs := [17]) (by kernel_rfl) (by simp) ?_
              refine AllReadyH.cons rfl (fun Kq hKq => ?_) AllReadyH.nil
              have q0 : V.drew.cell? ⟨g, k * 3 + 1, none⟩ = _ := hcV
              have q1 : V.drew.frozen? ⟨g, k * 3 + 1, none⟩ = false := hfV _
              go_simp
              refine hKq.out _ _ ?_ (fun hHeld => ?_)
              · exact (((Upd.set (S := fun i => i = g) (p := ⟨g, k * 3 + 1, none⟩) rfl _).cell (p := ⟨q, 0, none⟩) hqV hqg).trans dV)
              clear hKq Kq
              try simp only [Act.put, List.setIfInBounds_toArray, List.set_cons_zero, List.set_cons_succ]
              refine wpAnyH_done (by kernel_rfl) ?_ _
              clear hHeld hb
              obtain ⟨W2, hW2⟩ : ∃ W2, W2 = (V.setCell ⟨g, k * 3 + 1, none⟩ (.string (f.b ++ bb))).drew := ⟨_, rfl⟩
              have D2 : DD W2 q (.slice (some ⟨g, 0, none⟩) s.L.length cap) { s with L := setF s.L ⟨x, f.b ++ bb, f.s⟩ } := by rw [hW2, hset'.out]; exact (DV.store k hk 1 (.string (f.b ++ bb)) ⟨x, f.b ++ bb, f.s⟩ (by omega) (by rw [hkf, ← hfn]; rfl)).drew
              have Y2 : DX w W2 q (.slice (some ⟨g, 0, none⟩) s.L.length cap) (.slice (some ⟨g, 0, none⟩) s.L.length cap) := Y0.step (by rw [hW2]; exact (Upd.set (S := DQ q (.slice (some ⟨g, 0, none⟩) s.L.length cap)) (p := ⟨g, k * 3 + 1, none⟩) (.inr rfl) _).drew) (fun i hi => .inl hi)
              rw [← hW2]
              clear hW2
              have hb2 := hburn W2 _ D2
              clear hburn dV hcV hfV hc1 hfz
              go_wp2_with (go_at_call 56; (with_reducible refine hb2.mono ?_); rintro e w3 ⟨rfl, v3, hD3, hU3, hK3⟩; clear hb2)
              go_ret
              have Y3 := Y2.step hU3 hK3
              exact ⟨rfl, DT.ext ⟨v3, hD3, Y3.1, Y3.2⟩ (by rw [bnD_with])⟩
    · have e1 : apD s x bb = (s, 2) := by unfold apD; rw [if_neg (by rw [hoff]; simp), if_pos qx]
      rw [e1]
      have hmx : Calls Try.prog 53 #[.string x] w fun e w2 => e = .returned (.bool false) ∧ w = w2 := (dmay_any w x hx).mono (fun e w2 ⟨p, q⟩ => ⟨by rw [p, decide_eq_false qx], q⟩)
      go_enter Try.func29, Try.ntmps29
      go_wp2_with (go_at_call 53; (with_reducible refine hmx.mono ?_); rintro e _ ⟨rfl, rfl⟩)
      go_ret
      exact ⟨rfl, DT.stay h (Below.refl _ _)⟩
  · rw [hoff] at c3
    have e1 : apD s x bb = (s, 100) := by unfold apD; rw [if_pos hoff]
    rw [e1]
    go_enter Try.func29, Try.ntmps29
    go_wp2
    go_ret
    exact ⟨rfl, DT.stay h (Below.refl _ _)⟩
end Go.Proofs.Ytgpdbifgbabnnaa
