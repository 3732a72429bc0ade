/- Package disk: Sync, Cut, Remove, Rename, Append. Conditions: the disk is right, of less than a million files; names of a fit length. Written by gen_dkD.py. -/
import Derived.Test.YtgpdbifgbabnnaaDkC
namespace Go.Proofs.Ytgpdbifgbabnnaa
open Go.RowKit Go.Maps
set_option linter.unusedVariables false
set_option linter.unusedSimpArgs false

theorem Blk.newAt (w : World) (cs : List Value) (T : TypeId) (k : Nat) (h : w.heap.size = k) : Blk (w.alloc (.cells cs.toArray T)) k cs := h ▸ Blk.new w cs T
theorem below_refl_dk (w : World) : Below w.heap.size w w.drew := (Below.refl _ w).drew

set_option maxRecDepth 100000 in
set_option maxHeartbeats 6400000 in
theorem sync_any (w : World) (d b : Nat) (s : DS) (x : ByteArray) (h : Disk w d b s) (ho : DOk s) (hL : s.L.length < 1000000) (hx : okS x) :
    Calls Try.prog 25 #[.pointer (some ⟨d, 0, none⟩), .string x] w fun e w' => e = .returned (.int .i64 (syD s x).2) ∧ Disk w' d b (syD s x).1 ∧ Upd (DiskS d b) w w' := by
  have hdl := h.lt
  have hbl := hdl.2
  have hdl := hdl.1
  have hT0 : Below w.heap.size w ((w.alloc (.cells #[.pointer (some ⟨d, 0, none⟩)] 23)).alloc (.cells #[.string x] 9)) := (((Below.refl _ _).alloc (by simp) _).alloc (by simp) _)
  have k0 : Blk ((w.alloc (.cells #[.pointer (some ⟨d, 0, none⟩)] 23)).alloc (.cells #[.string x] 9)) (w.heap.size) [.pointer (some ⟨d, 0, none⟩)] := (Blk.newAt w [.pointer (some ⟨d, 0, none⟩)] 23 (w.heap.size) (by simp)).alloc (.cells #[.string x] 9)
  have k1 : Blk ((w.alloc (.cells #[.pointer (some ⟨d, 0, none⟩)] 23)).alloc (.cells #[.string x] 9)) (w.heap.size + 1) [.string x] := Blk.newAt (w.alloc (.cells #[.pointer (some ⟨d, 0, none⟩)] 23)) [.string x] 9 (w.heap.size + 1) (by simp)
  obtain ⟨W, hW⟩ : ∃ W, W = ((w.alloc (.cells #[.pointer (some ⟨d, 0, none⟩)] 23)).alloc (.cells #[.string x] 9)) := ⟨_, rfl⟩
  rw [← hW] at hT0 k0 k1
  have hW' := Lib.hid hW; clear hW
  have D0 := h.pure hT0
  have hwl := hT0.size
  have k0l := k0.lt
  have j0 := k0.at 0 rfl
  have k1l := k1.lt
  have j1 := k1.at 0 rfl
  have hmf : ∀ (fn : Fn) (first cap : Array Value) (w : World), (Instr.makeFunc fn first cap).run Try.prog w = .ok (.func fn first cap) w := fun _ _ _ _ => rfl
  have hF : ∀ (args : Array Value) (u : World), (callFunc 49 args).run Try.prog u = .ok (.enter 49 args) u := fun _ _ => by kernel_rfl
  cases hoff : s.off
  · have hc3 := D0.c3
    rw [hoff] at hc3
    have hst := state_ok W d b false D0.c0 hc3
    cases hg : getF s.L x with
    | none =>
      have hfl : flH s.L x = none := by unfold flH; rw [hg]; rfl
      have e1 : syD s x = (s, 7) := by unfold syD; rw [if_neg (by rw [hoff]; simp), hg]
      rw [e1]
      go_enter Try.func25, Try.ntmps25
      go_wp2_with (first | (go_at_call 45; rw [← hW'.out]; (with_reducible refine hst.mono ?_); rintro e w1 ⟨rfl, rfl⟩))
      have hb := below_refl_dk W
      refine wp_region_held_drew (S := fun v => Below W.heap.size W v) (by kernel_rfl) hb (fun hHeld => ?_)
      refine takeH 0 14 (v := ?_) rfl rfl (by kernel_rfl) (by kernel_rfl) (by kernel_rfl) (fun _ _ _ h => h) (Or.inl ⟨by kernel_rfl, ?_⟩) hHeld ?_
      rotate_left 1
      · (intro v hSw; (try dsimp only at hSw); have q0 := (k0.pure hSw).at 0 rfl; clear hSw; go_simp; (try with_reducible rfl))
      try simp only [Act.put, List.setIfInBounds_toArray, List.set_cons_zero, List.set_cons_succ]
      refine takeH 1 15 (v := ?_) rfl rfl (by kernel_rfl) (by kernel_rfl) (by kernel_rfl) (fun _ _ _ h => h) (Or.inl ⟨by kernel_rfl, ?_⟩) hHeld ?_
      rotate_left 1
      · (intro v hSw; (try dsimp only at hSw); clear hSw; go_simp; (try with_reducible rfl))
      try simp only [Act.put, List.setIfInBounds_toArray, List.set_cons_zero, List.set_cons_succ]
      refine takeH 2 16 (v := ?_) rfl rfl (by kernel_rfl) (by kernel_rfl) (by kernel_rfl) (fun _ _ _ h => h) (Or.inl ⟨by kernel_rfl, ?_⟩) hHeld ?_
      rotate_left 1
      · (intro v hSw; (try dsimp only at hSw); clear hSw; go_simp; (try with_reducible rfl))
      try simp only [Act.put, List.setIfInBounds_toArray, List.set_cons_zero, List.set_cons_succ]
      refine takeH 3 17 (v := ?_) rfl rfl (by kernel_rfl) (by kernel_rfl) (by kernel_rfl) (fun _ _ _ h => h) (Or.inl ⟨by kernel_rfl, ?_⟩) hHeld ?_
      rotate_left 1
      · (intro v hSw; (try dsimp only at hSw); have q0 := (D0.pure hSw).c0; clear hSw; go_simp; (try with_reducible rfl))
      try simp only [Act.put, List.setIfInBounds_toArray, List.set_cons_zero, List.set_cons_succ]
      refine takeH 4 18 (v := ?_) rfl rfl (by kernel_rfl) (by kernel_rfl) (by kernel_rfl) (fun _ _ _ h => h) (Or.inl ⟨by kernel_rfl, ?_⟩) hHeld ?_
      rotate_left 1
      · (intro v hSw; (try dsimp only at hSw); have q0 := (k1.pure hSw).at 0 rfl; clear hSw; go_simp; (try with_reducible rfl))
      try simp only [Act.put, List.setIfInBounds_toArray, List.set_cons_zero, List.set_cons_succ]
      refine takeH 5 19 (v := ?_) rfl rfl (by kernel_rfl) (by kernel_rfl) (by kernel_rfl) (fun _ _ _ h => h) (Or.inl ⟨by kernel_rfl, ?_⟩) hHeld ?_
      rotate_left 1
      · (intro v hSw; (try dsimp only at hSw); have hlk := MapG.look_ok_run filesT (D0.2.1.pure hSw) (u := x) hx; rw [hfl] at hlk; simp only [Option.getD_some, Option.getD_none, Option.isSome_some, Option.isSome_none, evF] at hlk; clear hSw; go_simp; (try with_reducible rfl))
      try simp only [Act.put, List.setIfInBounds_toArray, List.set_cons_zero, List.set_cons_succ]
      refine takeH 6 13 (v := ?_) rfl rfl (by kernel_rfl) (by kernel_rfl) (by kernel_rfl) (fun _ _ _ h => h) (Or.inl ⟨by kernel_rfl, ?_⟩) hHeld ?_
      rotate_left 1
      · (intro v hSw; (try dsimp only at hSw); clear hSw; go_simp; (try with_reducible rfl))
      try simp only [Act.put, List.setIfInBounds_toArray, List.set_cons_zero, List.set_cons_succ]
      refine takeH 7 20 (v := ?_) rfl rfl (by kernel_rfl) (by kernel_rfl) (by kernel_rfl) (fun _ _ _ h => h) (Or.inl ⟨by kernel_rfl, ?_⟩) hHeld ?_
      rotate_left 1
      · (intro v hSw; (try dsimp only at hSw); clear hSw; go_simp; (try with_reducible rfl))
      try simp only [Act.put, List.setIfInBounds_toArray, List.set_cons_zero, List.set_cons_succ]
      refine takeH 8 21 (v := ?_) rfl rfl (by kernel_rfl) (by kernel_rfl) (by kernel_rfl) (fun _ _ _ h => h) (Or.inl ⟨by kernel_rfl, ?_⟩) hHeld ?_
      rotate_left 1
      · (intro v hSw; (try dsimp only at hSw); clear hSw; go_simp; (try with_reducible rfl))
      try simp only [Act.put, List.setIfInBounds_toArray, List.set_cons_zero, List.set_cons_succ]
      refine wpAnyH_ready (rs := [9]) (by kernel_rfl) (by simp) ?_
      refine AllReadyH.cons rfl (fun K hK => ?_) AllReadyH.nil
      go_simp
      have hb : Below W.heap.size W ((W.alloc (.cells #[.string ByteArray.empty, .int .i64 0] 72)).drew) := ((Below.refl _ W).alloc (Nat.le_refl _) _).drew
      refine hK.out _ _ hb (fun hHeld => ?_)
      clear hK K
      try simp only [Act.put, List.setIfInBounds_toArray, List.set_cons_zero, List.set_cons_succ]
      refine wpAnyH_ready (rs := [10]) (by kernel_rfl) (by simp) ?_
      refine AllReadyH.cons rfl (fun K hK => ?_) AllReadyH.nil
      go_simp
      have hb : Below W.heap.size W ((W.alloc (.cells #[.string ByteArray.empty, .int .i64 0] 72)).drew) := ((Below.refl _ W).alloc (Nat.le_refl _) _).drew
      refine hK.out _ _ hb (fun hHeld => ?_)
      clear hK K
      try simp only [Act.put, List.setIfInBounds_toArray, List.set_cons_zero, List.set_cons_succ]
      refine wpAnyH_ready (rs := [11]) (by kernel_rfl) (by simp) ?_
      refine AllReadyH.cons rfl (fun K hK => ?_) AllReadyH.nil
      go_simp
      refine hK.out _ _ hb (fun hHeld => ?_)
      clear hK K
      try simp only [Act.put, List.setIfInBounds_toArray, List.set_cons_zero, List.set_cons_succ]
      refine wpAnyH_done (by kernel_rfl) ?_ _
      have hT1 := hT0.trans (hb.mono hT0.size)
      go_wp2
      go_ret
      exact ⟨rfl, h.pure hT1, Upd.of_below hT1⟩
    | some f =>
      have hfl : flH s.L x = some (f.b, f.s) := by unfold flH; rw [hg]; rfl
      have e1 : syD s x = burnE s (setF s.L ⟨x, f.b, f.b.size⟩) false := by unfold syD; rw [if_neg (by rw [hoff]; simp), hg]
      rw [e1]
      go_enter Try.func25, Try.ntmps25
      go_wp2_with (first | (go_at_call 45; rw [← hW'.out]; (with_reducible refine hst.mono ?_); rintro e w1 ⟨rfl, rfl⟩))
      have hb := below_refl_dk W
      refine wp_region_held_drew (S := fun v => Below W.heap.size W v) (by kernel_rfl) hb (fun hHeld => ?_)
      refine takeH 0 14 (v := ?_) rfl rfl (by kernel_rfl) (by kernel_rfl) (by kernel_rfl) (fun _ _ _ h => h) (Or.inl ⟨by kernel_rfl, ?_⟩) hHeld ?_
      rotate_left 1
      · (intro v hSw; (try dsimp only at hSw); have q0 := (k0.pure hSw).at 0 rfl; clear hSw; go_simp; (try with_reducible rfl))
      try simp only [Act.put, List.setIfInBounds_toArray, List.set_cons_zero, List.set_cons_succ]
      refine takeH 1 15 (v := ?_) rfl rfl (by kernel_rfl) (by kernel_rfl) (by kernel_rfl) (fun _ _ _ h => h) (Or.inl ⟨by kernel_rfl, ?_⟩) hHeld ?_
      rotate_left 1
      · (intro v hSw; (try dsimp only at hSw); clear hSw; go_simp; (try with_reducible rfl))
      try simp only [Act.put, List.setIfInBounds_toArray, List.set_cons_zero, List.set_cons_succ]
      refine takeH 2 16 (v := ?_) rfl rfl (by kernel_rfl) (by kernel_rfl) (by kernel_rfl) (fun _ _ _ h => h) (Or.inl ⟨by kernel_rfl, ?_⟩) hHeld ?_
      rotate_left 1
      · (intro v hSw; (try dsimp only at hSw); clear hSw; go_simp; (try with_reducible rfl))
      try simp only [Act.put, List.setIfInBounds_toArray, List.set_cons_zero, List.set_cons_succ]
      refine takeH 3 17 (v := ?_) rfl rfl (by kernel_rfl) (by kernel_rfl) (by kernel_rfl) (fun _ _ _ h => h) (Or.inl ⟨by kernel_rfl, ?_⟩) hHeld ?_
      rotate_left 1
      · (intro v hSw; (try dsimp only at hSw); have q0 := (D0.pure hSw).c0; clear hSw; go_simp; (try with_reducible rfl))
      try simp only [Act.put, List.setIfInBounds_toArray, List.set_cons_zero, List.set_cons_succ]
      refine takeH 4 18 (v := ?_) rfl rfl (by kernel_rfl) (by kernel_rfl) (by kernel_rfl) (fun _ _ _ h => h) (Or.inl ⟨by kernel_rfl, ?_⟩) hHeld ?_
      rotate_left 1
      · (intro v hSw; (try dsimp only at hSw); have q0 := (k1.pure hSw).at 0 rfl; clear hSw; go_simp; (try with_reducible rfl))
      try simp only [Act.put, List.setIfInBounds_toArray, List.set_cons_zero, List.set_cons_succ]
      refine takeH 5 19 (v := ?_) rfl rfl (by kernel_rfl) (by kernel_rfl) (by kernel_rfl) (fun _ _ _ h => h) (Or.inl ⟨by kernel_rfl, ?_⟩) hHeld ?_
      rotate_left 1
      · (intro v hSw; (try dsimp only at hSw); have hlk := MapG.look_ok_run filesT (D0.2.1.pure hSw) (u := x) hx; rw [hfl] at hlk; simp only [Option.getD_some, Option.getD_none, Option.isSome_some, Option.isSome_none, evF] at hlk; clear hSw; go_simp; (try with_reducible rfl))
      try simp only [Act.put, List.setIfInBounds_toArray, List.set_cons_zero, List.set_cons_succ]
      refine takeH 6 13 (v := ?_) rfl rfl (by kernel_rfl) (by kernel_rfl) (by kernel_rfl) (fun _ _ _ h => h) (Or.inl ⟨by kernel_rfl, ?_⟩) hHeld ?_
      rotate_left 1
      · (intro v hSw; (try dsimp only at hSw); clear hSw; go_simp; (try with_reducible rfl))
      try simp only [Act.put, List.setIfInBounds_toArray, List.set_cons_zero, List.set_cons_succ]
      refine takeH 7 20 (v := ?_) rfl rfl (by kernel_rfl) (by kernel_rfl) (by kernel_rfl) (fun _ _ _ h => h) (Or.inl ⟨by kernel_rfl, ?_⟩) hHeld ?_
      rotate_left 1
      · (intro v hSw; (try dsimp only at hSw); clear hSw; go_simp; (try with_reducible rfl))
      try simp only [Act.put, List.setIfInBounds_toArray, List.set_cons_zero, List.set_cons_succ]
      refine takeH 8 21 (v := ?_) rfl rfl (by kernel_rfl) (by kernel_rfl) (by kernel_rfl) (fun _ _ _ h => h) (Or.inl ⟨by kernel_rfl, ?_⟩) hHeld ?_
      rotate_left 1
      · (intro v hSw; (try dsimp only at hSw); clear hSw; go_simp; (try with_reducible rfl))
      try simp only [Act.put, List.setIfInBounds_toArray, List.set_cons_zero, List.set_cons_succ]
      refine wpAnyH_ready (rs := [9]) (by kernel_rfl) (by simp) ?_
      refine AllReadyH.cons rfl (fun K hK => ?_) AllReadyH.nil
      go_simp
      have hb : Below W.heap.size W ((W.alloc (.cells #[.string ByteArray.empty, .int .i64 0] 72)).drew) := ((Below.refl _ W).alloc (Nat.le_refl _) _).drew
      refine hK.out _ _ hb (fun hHeld => ?_)
      clear hK K
      try simp only [Act.put, List.setIfInBounds_toArray, List.set_cons_zero, List.set_cons_succ]
      refine wpAnyH_ready (rs := [10]) (by kernel_rfl) (by simp) ?_
      refine AllReadyH.cons rfl (fun K hK => ?_) AllReadyH.nil
      go_simp
      have hb : Below W.heap.size W ((W.alloc (.cells #[.string f.b, .int .i64 f.s] 72)).drew) := ((Below.refl _ W).alloc (Nat.le_refl _) _).drew
      refine hK.out _ _ hb (fun hHeld => ?_)
      clear hK K
      try simp only [Act.put, List.setIfInBounds_toArray, List.set_cons_zero, List.set_cons_succ]
      refine wpAnyH_ready (rs := [11]) (by kernel_rfl) (by simp) ?_
      refine AllReadyH.cons rfl (fun K hK => ?_) AllReadyH.nil
      go_simp
      refine hK.out _ _ hb (fun hHeld => ?_)
      clear hK K
      try simp only [Act.put, List.setIfInBounds_toArray, List.set_cons_zero, List.set_cons_succ]
      refine wpAnyH_done (by kernel_rfl) ?_ _
      have hT1 := hT0.trans (hb.mono hT0.size)
      obtain ⟨W1, hW1⟩ : ∃ W1, W1 = (W.alloc (.cells #[.string f.b, .int .i64 f.s] 72)).drew := ⟨_, rfl⟩
      have kf : Blk W1 W.heap.size [.string f.b, .int .i64 f.s] := by rw [hW1]; exact (Blk.new W [.string f.b, .int .i64 f.s] 72).drew
      rw [← hW1] at hb hT1 ⊢
      clear hHeld hW1
      have D1 := D0.pure hb
      have kf0 := kf.at 0 rfl
      have m0 := k0.pure hb; have n0 := m0.at 0 rfl
      have m1 := k1.pure hb; have n1 := m1.at 0 rfl
      have hact := act_any W1 d b s 49 #[.pointer (some ⟨W.heap.size, 0, none⟩), .pointer (some ⟨w.heap.size, 0, none⟩), .pointer (some ⟨w.heap.size + 1, 0, none⟩)] false (setF s.L ⟨x, f.b, f.b.size⟩) D1 ho.left hF (fun u l hu hU => sy1_any u d b { s with left := l } ⟨hu, ho.rise, hL⟩ (kf.upd hU (by omega)) (m0.upd hU (by omega)) (m1.upd hU (by omega)) (by omega) (by omega) (by omega) hx)
      go_wp2_with (first | (go_at_call 47; (with_reducible refine hact.mono ?_); clear hact; rintro e w2 ⟨rfl, g1, g2⟩))
      go_ret
      exact ⟨rfl, g1, (Upd.of_below hT1).trans g2 (fun i hi _ => hi)⟩
  · have hc3 := D0.c3
    rw [hoff] at hc3
    have hst := state_ok W d b true D0.c0 hc3
    have e1 : syD s x = (s, 100) := by unfold syD; rw [if_pos hoff]
    rw [e1]
    go_enter Try.func25, Try.ntmps25
    go_wp2_with (first | (go_at_call 45; rw [← hW'.out]; (with_reducible refine hst.mono ?_); rintro e w1 ⟨rfl, rfl⟩))
    go_ret
    exact ⟨rfl, D0, Upd.of_below hT0⟩
set_option maxRecDepth 100000 in
set_option maxHeartbeats 6400000 in
theorem remove_any (w : World) (d b : Nat) (s : DS) (x : ByteArray) (h : Disk w d b s) (ho : DOk s) (hL : s.L.length < 1000000) (hx : okS x) :
    Calls Try.prog 28 #[.pointer (some ⟨d, 0, none⟩), .string x] w fun e w' => e = .returned (.int .i64 (rmD s x).2) ∧ Disk w' d b (rmD s x).1 ∧ Upd (DiskS d b) w w' := by
  have hdl := h.lt
  have hbl := hdl.2
  have hdl := hdl.1
  have hT0 : Below w.heap.size w ((w.alloc (.cells #[.pointer (some ⟨d, 0, none⟩)] 23)).alloc (.cells #[.string x] 9)) := (((Below.refl _ _).alloc (by simp) _).alloc (by simp) _)
  have k0 : Blk ((w.alloc (.cells #[.pointer (some ⟨d, 0, none⟩)] 23)).alloc (.cells #[.string x] 9)) (w.heap.size) [.pointer (some ⟨d, 0, none⟩)] := (Blk.newAt w [.pointer (some ⟨d, 0, none⟩)] 23 (w.heap.size) (by simp)).alloc (.cells #[.string x] 9)
  have k1 : Blk ((w.alloc (.cells #[.pointer (some ⟨d, 0, none⟩)] 23)).alloc (.cells #[.string x] 9)) (w.heap.size + 1) [.string x] := Blk.newAt (w.alloc (.cells #[.pointer (some ⟨d, 0, none⟩)] 23)) [.string x] 9 (w.heap.size + 1) (by simp)
  obtain ⟨W, hW⟩ : ∃ W, W = ((w.alloc (.cells #[.pointer (some ⟨d, 0, none⟩)] 23)).alloc (.cells #[.string x] 9)) := ⟨_, rfl⟩
  rw [← hW] at hT0 k0 k1
  have hW' := Lib.hid hW; clear hW
  have D0 := h.pure hT0
  have hwl := hT0.size
  have k0l := k0.lt
  have j0 := k0.at 0 rfl
  have k1l := k1.lt
  have j1 := k1.at 0 rfl
  have hmf : ∀ (fn : Fn) (first cap : Array Value) (w : World), (Instr.makeFunc fn first cap).run Try.prog w = .ok (.func fn first cap) w := fun _ _ _ _ => rfl
  have hF : ∀ (args : Array Value) (u : World), (callFunc 52 args).run Try.prog u = .ok (.enter 52 args) u := fun _ _ => by kernel_rfl
  cases hoff : s.off
  · have hc3 := D0.c3
    rw [hoff] at hc3
    have hst := state_ok W d b false D0.c0 hc3
    cases hg : getF s.L x with
    | none =>
      have hfl : flH s.L x = none := by unfold flH; rw [hg]; rfl
      have e1 : rmD s x = (s, 7) := by unfold rmD; rw [if_neg (by rw [hoff]; simp), hg]
      rw [e1]
      go_enter Try.func28, Try.ntmps28
      go_wp2_with (first | (go_at_call 45; rw [← hW'.out]; (with_reducible refine hst.mono ?_); rintro e w1 ⟨rfl, rfl⟩))
      have hb := below_refl_dk W
      refine wp_region_held_drew (S := fun v => Below W.heap.size W v) (by kernel_rfl) hb (fun hHeld => ?_)
      refine takeH 0 14 (v := ?_) rfl rfl (by kernel_rfl) (by kernel_rfl) (by kernel_rfl) (fun _ _ _ h => h) (Or.inl ⟨by kernel_rfl, ?_⟩) hHeld ?_
      rotate_left 1
      · (intro v hSw; (try dsimp only at hSw); have q0 := (k0.pure hSw).at 0 rfl; clear hSw; go_simp; (try with_reducible rfl))
      try simp only [Act.put, List.setIfInBounds_toArray, List.set_cons_zero, List.set_cons_succ]
      refine takeH 1 15 (v := ?_) rfl rfl (by kernel_rfl) (by kernel_rfl) (by kernel_rfl) (fun _ _ _ h => h) (Or.inl ⟨by kernel_rfl, ?_⟩) hHeld ?_
      rotate_left 1
      · (intro v hSw; (try dsimp only at hSw); clear hSw; go_simp; (try with_reducible rfl))
      try simp only [Act.put, List.setIfInBounds_toArray, List.set_cons_zero, List.set_cons_succ]
      refine takeH 2 16 (v := ?_) rfl rfl (by kernel_rfl) (by kernel_rfl) (by kernel_rfl) (fun _ _ _ h => h) (Or.inl ⟨by kernel_rfl, ?_⟩) hHeld ?_
      rotate_left 1
      · (intro v hSw; (try dsimp only at hSw); clear hSw; go_simp; (try with_reducible rfl))
      try simp only [Act.put, List.setIfInBounds_toArray, List.set_cons_zero, List.set_cons_succ]
      refine takeH 3 17 (v := ?_) rfl rfl (by kernel_rfl) (by kernel_rfl) (by kernel_rfl) (fun _ _ _ h => h) (Or.inl ⟨by kernel_rfl, ?_⟩) hHeld ?_
      rotate_left 1
      · (intro v hSw; (try dsimp only at hSw); have q0 := (D0.pure hSw).c0; clear hSw; go_simp; (try with_reducible rfl))
      try simp only [Act.put, List.setIfInBounds_toArray, List.set_cons_zero, List.set_cons_succ]
      refine takeH 4 18 (v := ?_) rfl rfl (by kernel_rfl) (by kernel_rfl) (by kernel_rfl) (fun _ _ _ h => h) (Or.inl ⟨by kernel_rfl, ?_⟩) hHeld ?_
      rotate_left 1
      · (intro v hSw; (try dsimp only at hSw); have q0 := (k1.pure hSw).at 0 rfl; clear hSw; go_simp; (try with_reducible rfl))
      try simp only [Act.put, List.setIfInBounds_toArray, List.set_cons_zero, List.set_cons_succ]
      refine takeH 5 19 (v := ?_) rfl rfl (by kernel_rfl) (by kernel_rfl) (by kernel_rfl) (fun _ _ _ h => h) (Or.inl ⟨by kernel_rfl, ?_⟩) hHeld ?_
      rotate_left 1
      · (intro v hSw; (try dsimp only at hSw); have hlk := MapG.look_ok_run filesT (D0.2.1.pure hSw) (u := x) hx; rw [hfl] at hlk; simp only [Option.getD_some, Option.getD_none, Option.isSome_some, Option.isSome_none, evF] at hlk; clear hSw; go_simp; (try with_reducible rfl))
      try simp only [Act.put, List.setIfInBounds_toArray, List.set_cons_zero, List.set_cons_succ]
      refine takeH 6 13 (v := ?_) rfl rfl (by kernel_rfl) (by kernel_rfl) (by kernel_rfl) (fun _ _ _ h => h) (Or.inl ⟨by kernel_rfl, ?_⟩) hHeld ?_
      rotate_left 1
      · (intro v hSw; (try dsimp only at hSw); clear hSw; go_simp; (try with_reducible rfl))
      try simp only [Act.put, List.setIfInBounds_toArray, List.set_cons_zero, List.set_cons_succ]
      refine takeH 7 20 (v := ?_) rfl rfl (by kernel_rfl) (by kernel_rfl) (by kernel_rfl) (fun _ _ _ h => h) (Or.inl ⟨by kernel_rfl, ?_⟩) hHeld ?_
      rotate_left 1
      · (intro v hSw; (try dsimp only at hSw); clear hSw; go_simp; (try with_reducible rfl))
      try simp only [Act.put, List.setIfInBounds_toArray, List.set_cons_zero, List.set_cons_succ]
      refine takeH 8 21 (v := ?_) rfl rfl (by kernel_rfl) (by kernel_rfl) (by kernel_rfl) (fun _ _ _ h => h) (Or.inl ⟨by kernel_rfl, ?_⟩) hHeld ?_
      rotate_left 1
      · (intro v hSw; (try dsimp only at hSw); clear hSw; go_simp; (try with_reducible rfl))
      try simp only [Act.put, List.setIfInBounds_toArray, List.set_cons_zero, List.set_cons_succ]
      refine wpAnyH_ready (rs := [9]) (by kernel_rfl) (by simp) ?_
      refine AllReadyH.cons rfl (fun K hK => ?_) AllReadyH.nil
      go_simp
      have hb : Below W.heap.size W ((W.alloc (.cells #[.string ByteArray.empty, .int .i64 0] 72)).drew) := ((Below.refl _ W).alloc (Nat.le_refl _) _).drew
      refine hK.out _ _ hb (fun hHeld => ?_)
      clear hK K
      try simp only [Act.put, List.setIfInBounds_toArray, List.set_cons_zero, List.set_cons_succ]
      refine wpAnyH_ready (rs := [10]) (by kernel_rfl) (by simp) ?_
      refine AllReadyH.cons rfl (fun K hK => ?_) AllReadyH.nil
      go_simp
      have hb : Below W.heap.size W ((W.alloc (.cells #[.string ByteArray.empty, .int .i64 0] 72)).drew) := ((Below.refl _ W).alloc (Nat.le_refl _) _).drew
      refine hK.out _ _ hb (fun hHeld => ?_)
      clear hK K
      try simp only [Act.put, List.setIfInBounds_toArray, List.set_cons_zero, List.set_cons_succ]
      refine wpAnyH_ready (rs := [11]) (by kernel_rfl) (by simp) ?_
      refine AllReadyH.cons rfl (fun K hK => ?_) AllReadyH.nil
      go_simp
      refine hK.out _ _ hb (fun hHeld => ?_)
      clear hK K
      try simp only [Act.put, List.setIfInBounds_toArray, List.set_cons_zero, List.set_cons_succ]
      refine wpAnyH_done (by kernel_rfl) ?_ _
      have hT1 := hT0.trans (hb.mono hT0.size)
      go_wp2
      go_ret
      exact ⟨rfl, h.pure hT1, Upd.of_below hT1⟩
    | some f =>
      have hfl : flH s.L x = some (f.b, f.s) := by unfold flH; rw [hg]; rfl
      have e1 : rmD s x = burnE s (delF s.L x) false := by unfold rmD; rw [if_neg (by rw [hoff]; simp), hg]
      rw [e1]
      go_enter Try.func28, Try.ntmps28
      go_wp2_with (first | (go_at_call 45; rw [← hW'.out]; (with_reducible refine hst.mono ?_); rintro e w1 ⟨rfl, rfl⟩))
      have hb := below_refl_dk W
      refine wp_region_held_drew (S := fun v => Below W.heap.size W v) (by kernel_rfl) hb (fun hHeld => ?_)
      refine takeH 0 14 (v := ?_) rfl rfl (by kernel_rfl) (by kernel_rfl) (by kernel_rfl) (fun _ _ _ h => h) (Or.inl ⟨by kernel_rfl, ?_⟩) hHeld ?_
      rotate_left 1
      · (intro v hSw; (try dsimp only at hSw); have q0 := (k0.pure hSw).at 0 rfl; clear hSw; go_simp; (try with_reducible rfl))
      try simp only [Act.put, List.setIfInBounds_toArray, List.set_cons_zero, List.set_cons_succ]
      refine takeH 1 15 (v := ?_) rfl rfl (by kernel_rfl) (by kernel_rfl) (by kernel_rfl) (fun _ _ _ h => h) (Or.inl ⟨by kernel_rfl, ?_⟩) hHeld ?_
      rotate_left 1
      · (intro v hSw; (try dsimp only at hSw); clear hSw; go_simp; (try with_reducible rfl))
      try simp only [Act.put, List.setIfInBounds_toArray, List.set_cons_zero, List.set_cons_succ]
      refine takeH 2 16 (v := ?_) rfl rfl (by kernel_rfl) (by kernel_rfl) (by kernel_rfl) (fun _ _ _ h => h) (Or.inl ⟨by kernel_rfl, ?_⟩) hHeld ?_
      rotate_left 1
      · (intro v hSw; (try dsimp only at hSw); clear hSw; go_simp; (try with_reducible rfl))
      try simp only [Act.put, List.setIfInBounds_toArray, List.set_cons_zero, List.set_cons_succ]
      refine takeH 3 17 (v := ?_) rfl rfl (by kernel_rfl) (by kernel_rfl) (by kernel_rfl) (fun _ _ _ h => h) (Or.inl ⟨by kernel_rfl, ?_⟩) hHeld ?_
      rotate_left 1
      · (intro v hSw; (try dsimp only at hSw); have q0 := (D0.pure hSw).c0; clear hSw; go_simp; (try with_reducible rfl))
      try simp only [Act.put, List.setIfInBounds_toArray, List.set_cons_zero, List.set_cons_succ]
      refine takeH 4 18 (v := ?_) rfl rfl (by kernel_rfl) (by kernel_rfl) (by kernel_rfl) (fun _ _ _ h => h) (Or.inl ⟨by kernel_rfl, ?_⟩) hHeld ?_
      rotate_left 1
      · (intro v hSw; (try dsimp only at hSw); have q0 := (k1.pure hSw).at 0 rfl; clear hSw; go_simp; (try with_reducible rfl))
      try simp only [Act.put, List.setIfInBounds_toArray, List.set_cons_zero, List.set_cons_succ]
      refine takeH 5 19 (v := ?_) rfl rfl (by kernel_rfl) (by kernel_rfl) (by kernel_rfl) (fun _ _ _ h => h) (Or.inl ⟨by kernel_rfl, ?_⟩) hHeld ?_
      rotate_left 1
      · (intro v hSw; (try dsimp only at hSw); have hlk := MapG.look_ok_run filesT (D0.2.1.pure hSw) (u := x) hx; rw [hfl] at hlk; simp only [Option.getD_some, Option.getD_none, Option.isSome_some, Option.isSome_none, evF] at hlk; clear hSw; go_simp; (try with_reducible rfl))
      try simp only [Act.put, List.setIfInBounds_toArray, List.set_cons_zero, List.set_cons_succ]
      refine takeH 6 13 (v := ?_) rfl rfl (by kernel_rfl) (by kernel_rfl) (by kernel_rfl) (fun _ _ _ h => h) (Or.inl ⟨by kernel_rfl, ?_⟩) hHeld ?_
      rotate_left 1
      · (intro v hSw; (try dsimp only at hSw); clear hSw; go_simp; (try with_reducible rfl))
      try simp only [Act.put, List.setIfInBounds_toArray, List.set_cons_zero, List.set_cons_succ]
      refine takeH 7 20 (v := ?_) rfl rfl (by kernel_rfl) (by kernel_rfl) (by kernel_rfl) (fun _ _ _ h => h) (Or.inl ⟨by kernel_rfl, ?_⟩) hHeld ?_
      rotate_left 1
      · (intro v hSw; (try dsimp only at hSw); clear hSw; go_simp; (try with_reducible rfl))
      try simp only [Act.put, List.setIfInBounds_toArray, List.set_cons_zero, List.set_cons_succ]
      refine takeH 8 21 (v := ?_) rfl rfl (by kernel_rfl) (by kernel_rfl) (by kernel_rfl) (fun _ _ _ h => h) (Or.inl ⟨by kernel_rfl, ?_⟩) hHeld ?_
      rotate_left 1
      · (intro v hSw; (try dsimp only at hSw); clear hSw; go_simp; (try with_reducible rfl))
      try simp only [Act.put, List.setIfInBounds_toArray, List.set_cons_zero, List.set_cons_succ]
      refine wpAnyH_ready (rs := [9]) (by kernel_rfl) (by simp) ?_
      refine AllReadyH.cons rfl (fun K hK => ?_) AllReadyH.nil
      go_simp
      have hb : Below W.heap.size W ((W.alloc (.cells #[.string ByteArray.empty, .int .i64 0] 72)).drew) := ((Below.refl _ W).alloc (Nat.le_refl _) _).drew
      refine hK.out _ _ hb (fun hHeld => ?_)
      clear hK K
      try simp only [Act.put, List.setIfInBounds_toArray, List.set_cons_zero, List.set_cons_succ]
      refine wpAnyH_ready (rs := [10]) (by kernel_rfl) (by simp) ?_
      refine AllReadyH.cons rfl (fun K hK => ?_) AllReadyH.nil
      go_simp
      have hb : Below W.heap.size W ((W.alloc (.cells #[.string f.b, .int .i64 f.s] 72)).drew) := ((Below.refl _ W).alloc (Nat.le_refl _) _).drew
      refine hK.out _ _ hb (fun hHeld => ?_)
      clear hK K
      try simp only [Act.put, List.setIfInBounds_toArray, List.set_cons_zero, List.set_cons_succ]
      refine wpAnyH_ready (rs := [11]) (by kernel_rfl) (by simp) ?_
      refine AllReadyH.cons rfl (fun K hK => ?_) AllReadyH.nil
      go_simp
      refine hK.out _ _ hb (fun hHeld => ?_)
      clear hK K
      try simp only [Act.put, List.setIfInBounds_toArray, List.set_cons_zero, List.set_cons_succ]
      refine wpAnyH_done (by kernel_rfl) ?_ _
      have hT1 := hT0.trans (hb.mono hT0.size)
      obtain ⟨W1, hW1⟩ : ∃ W1, W1 = (W.alloc (.cells #[.string f.b, .int .i64 f.s] 72)).drew := ⟨_, rfl⟩
      have kf : Blk W1 W.heap.size [.string f.b, .int .i64 f.s] := by rw [hW1]; exact (Blk.new W [.string f.b, .int .i64 f.s] 72).drew
      rw [← hW1] at hb hT1 ⊢
      clear hHeld hW1
      have D1 := D0.pure hb
      have kf0 := kf.at 0 rfl
      have m0 := k0.pure hb; have n0 := m0.at 0 rfl
      have m1 := k1.pure hb; have n1 := m1.at 0 rfl
      have hact := act_any W1 d b s 52 #[.pointer (some ⟨w.heap.size, 0, none⟩), .pointer (some ⟨w.heap.size + 1, 0, none⟩)] false (delF s.L x) D1 ho.left hF (fun u l hu hU => rm1_any u d b { s with left := l } ⟨hu, ho.rise, hL⟩ (m0.upd hU (by omega)) (m1.upd hU (by omega)) (by omega) (by omega) hx)
      go_wp2_with (first | (go_at_call 47; (with_reducible refine hact.mono ?_); clear hact; rintro e w2 ⟨rfl, g1, g2⟩))
      go_ret
      exact ⟨rfl, g1, (Upd.of_below hT1).trans g2 (fun i hi _ => hi)⟩
  · have hc3 := D0.c3
    rw [hoff] at hc3
    have hst := state_ok W d b true D0.c0 hc3
    have e1 : rmD s x = (s, 100) := by unfold rmD; rw [if_pos hoff]
    rw [e1]
    go_enter Try.func28, Try.ntmps28
    go_wp2_with (first | (go_at_call 45; rw [← hW'.out]; (with_reducible refine hst.mono ?_); rintro e w1 ⟨rfl, rfl⟩))
    go_ret
    exact ⟨rfl, D0, Upd.of_below hT0⟩
set_option maxRecDepth 100000 in
set_option maxHeartbeats 6400000 in
theorem cut_any (w : World) (d b : Nat) (s : DS) (x : ByteArray) (n : Int) (h : Disk w d b s) (ho : DOk s) (hL : s.L.length < 1000000) (hx : okS x) :
    Calls Try.prog 26 #[.pointer (some ⟨d, 0, none⟩), .string x, .int .i64 n] w fun e w' => e = .returned (.int .i64 (cuD s x n).2) ∧ Disk w' d b (cuD s x n).1 ∧ Upd (DiskS d b) w w' := by
  have hdl := h.lt
  have hbl := hdl.2
  have hdl := hdl.1
  have hT0 : Below w.heap.size w (((w.alloc (.cells #[.pointer (some ⟨d, 0, none⟩)] 23)).alloc (.cells #[.string x] 9)).alloc (.cells #[.int .i64 n] 3)) := ((((Below.refl _ _).alloc (by simp) _).alloc (by simp) _).alloc (by simp; omega) _)
  have k0 : Blk (((w.alloc (.cells #[.pointer (some ⟨d, 0, none⟩)] 23)).alloc (.cells #[.string x] 9)).alloc (.cells #[.int .i64 n] 3)) (w.heap.size) [.pointer (some ⟨d, 0, none⟩)] := ((Blk.newAt w [.pointer (some ⟨d, 0, none⟩)] 23 (w.heap.size) (by simp)).alloc (.cells #[.string x] 9)).alloc (.cells #[.int .i64 n] 3)
  have k1 : Blk (((w.alloc (.cells #[.pointer (some ⟨d, 0, none⟩)] 23)).alloc (.cells #[.string x] 9)).alloc (.cells #[.int .i64 n] 3)) (w.heap.size + 1) [.string x] := (Blk.newAt (w.alloc (.cells #[.pointer (some ⟨d, 0, none⟩)] 23)) [.string x] 9 (w.heap.size + 1) (by simp)).alloc (.cells #[.int .i64 n] 3)
  have k2 : Blk (((w.alloc (.cells #[.pointer (some ⟨d, 0, none⟩)] 23)).alloc (.cells #[.string x] 9)).alloc (.cells #[.int .i64 n] 3)) (w.heap.size + 1 + 1) [.int .i64 n] := Blk.newAt ((w.alloc (.cells #[.pointer (some ⟨d, 0, none⟩)] 23)).alloc (.cells #[.string x] 9)) [.int .i64 n] 3 (w.heap.size + 1 + 1) (by simp)
  obtain ⟨W, hW⟩ : ∃ W, W = (((w.alloc (.cells #[.pointer (some ⟨d, 0, none⟩)] 23)).alloc (.cells #[.string x] 9)).alloc (.cells #[.int .i64 n] 3)) := ⟨_, rfl⟩
  rw [← hW] at hT0 k0 k1 k2
  have hW' := Lib.hid hW; clear hW
  have D0 := h.pure hT0
  have hwl := hT0.size
  have k0l := k0.lt
  have j0 := k0.at 0 rfl
  have k1l := k1.lt
  have j1 := k1.at 0 rfl
  have k2l := k2.lt
  have j2 := k2.at 0 rfl
  have hmf : ∀ (fn : Fn) (first cap : Array Value) (w : World), (Instr.makeFunc fn first cap).run Try.prog w = .ok (.func fn first cap) w := fun _ _ _ _ => rfl
  have hF : ∀ (args : Array Value) (u : World), (callFunc 50 args).run Try.prog u = .ok (.enter 50 args) u := fun _ _ => by kernel_rfl
  cases hoff : s.off
  · have hc3 := D0.c3
    rw [hoff] at hc3
    have hst := state_ok W d b false D0.c0 hc3
    cases hg : getF s.L x with
    | none =>
      have hfl : flH s.L x = none := by unfold flH; rw [hg]; rfl
      by_cases hn : n < 0
      · have e1 : cuD s x n = (s, 2) := by unfold cuD; rw [if_neg (by rw [hoff]; simp), if_pos hn]
        rw [e1]
        go_enter Try.func26, Try.ntmps26
        go_wp2_with (first | (go_at_call 45; rw [← hW'.out]; (with_reducible refine hst.mono ?_); rintro e w1 ⟨rfl, rfl⟩))
        have hb := below_refl_dk W
        refine wp_region_held_drew (S := fun v => Below W.heap.size W v) (by kernel_rfl) hb (fun hHeld => ?_)
        refine takeH 0 16 (v := ?_) rfl rfl (by kernel_rfl) (by kernel_rfl) (by kernel_rfl) (fun _ _ _ h => h) (Or.inl ⟨by kernel_rfl, ?_⟩) hHeld ?_
        rotate_left 1
        · (intro v hSw; (try dsimp only at hSw); have q0 := (k0.pure hSw).at 0 rfl; clear hSw; go_simp; (try with_reducible rfl))
        try simp only [Act.put, List.setIfInBounds_toArray, List.set_cons_zero, List.set_cons_succ]
        refine takeH 1 17 (v := ?_) rfl rfl (by kernel_rfl) (by kernel_rfl) (by kernel_rfl) (fun _ _ _ h => h) (Or.inl ⟨by kernel_rfl, ?_⟩) hHeld ?_
        rotate_left 1
        · (intro v hSw; (try dsimp only at hSw); clear hSw; go_simp; (try with_reducible rfl))
        try simp only [Act.put, List.setIfInBounds_toArray, List.set_cons_zero, List.set_cons_succ]
        refine takeH 2 18 (v := ?_) rfl rfl (by kernel_rfl) (by kernel_rfl) (by kernel_rfl) (fun _ _ _ h => h) (Or.inl ⟨by kernel_rfl, ?_⟩) hHeld ?_
        rotate_left 1
        · (intro v hSw; (try dsimp only at hSw); clear hSw; go_simp; (try with_reducible rfl))
        try simp only [Act.put, List.setIfInBounds_toArray, List.set_cons_zero, List.set_cons_succ]
        refine takeH 3 19 (v := ?_) rfl rfl (by kernel_rfl) (by kernel_rfl) (by kernel_rfl) (fun _ _ _ h => h) (Or.inl ⟨by kernel_rfl, ?_⟩) hHeld ?_
        rotate_left 1
        · (intro v hSw; (try dsimp only at hSw); have q0 := (D0.pure hSw).c0; clear hSw; go_simp; (try with_reducible rfl))
        try simp only [Act.put, List.setIfInBounds_toArray, List.set_cons_zero, List.set_cons_succ]
        refine takeH 4 20 (v := ?_) rfl rfl (by kernel_rfl) (by kernel_rfl) (by kernel_rfl) (fun _ _ _ h => h) (Or.inl ⟨by kernel_rfl, ?_⟩) hHeld ?_
        rotate_left 1
        · (intro v hSw; (try dsimp only at hSw); have q0 := (k1.pure hSw).at 0 rfl; clear hSw; go_simp; (try with_reducible rfl))
        try simp only [Act.put, List.setIfInBounds_toArray, List.set_cons_zero, List.set_cons_succ]
        refine takeH 5 21 (v := ?_) rfl rfl (by kernel_rfl) (by kernel_rfl) (by kernel_rfl) (fun _ _ _ h => h) (Or.inl ⟨by kernel_rfl, ?_⟩) hHeld ?_
        rotate_left 1
        · (intro v hSw; (try dsimp only at hSw); have hlk := MapG.look_ok_run filesT (D0.2.1.pure hSw) (u := x) hx; rw [hfl] at hlk; simp only [Option.getD_some, Option.getD_none, Option.isSome_some, Option.isSome_none, evF] at hlk; clear hSw; go_simp; (try with_reducible rfl))
        try simp only [Act.put, List.setIfInBounds_toArray, List.set_cons_zero, List.set_cons_succ]
        refine takeH 6 15 (v := ?_) rfl rfl (by kernel_rfl) (by kernel_rfl) (by kernel_rfl) (fun _ _ _ h => h) (Or.inl ⟨by kernel_rfl, ?_⟩) hHeld ?_
        rotate_left 1
        · (intro v hSw; (try dsimp only at hSw); clear hSw; go_simp; (try with_reducible rfl))
        try simp only [Act.put, List.setIfInBounds_toArray, List.set_cons_zero, List.set_cons_succ]
        refine takeH 7 22 (v := ?_) rfl rfl (by kernel_rfl) (by kernel_rfl) (by kernel_rfl) (fun _ _ _ h => h) (Or.inl ⟨by kernel_rfl, ?_⟩) hHeld ?_
        rotate_left 1
        · (intro v hSw; (try dsimp only at hSw); clear hSw; go_simp; (try with_reducible rfl))
        try simp only [Act.put, List.setIfInBounds_toArray, List.set_cons_zero, List.set_cons_succ]
        refine takeH 8 23 (v := ?_) rfl rfl (by kernel_rfl) (by kernel_rfl) (by kernel_rfl) (fun _ _ _ h => h) (Or.inl ⟨by kernel_rfl, ?_⟩) hHeld ?_
        rotate_left 1
        · (intro v hSw; (try dsimp only at hSw); clear hSw; go_simp; (try with_reducible rfl))
        try simp only [Act.put, List.setIfInBounds_toArray, List.set_cons_zero, List.set_cons_succ]
        refine wpAnyH_ready (rs := [9]) (by kernel_rfl) (by simp) ?_
        refine AllReadyH.cons rfl (fun K hK => ?_) AllReadyH.nil
        go_simp
        have hb : Below W.heap.size W ((W.alloc (.cells #[.string ByteArray.empty, .int .i64 0] 72)).drew) := ((Below.refl _ W).alloc (Nat.le_refl _) _).drew
        refine hK.out _ _ hb (fun hHeld => ?_)
        clear hK K
        try simp only [Act.put, List.setIfInBounds_toArray, List.set_cons_zero, List.set_cons_succ]
        refine wpAnyH_ready (rs := [10]) (by kernel_rfl) (by simp) ?_
        refine AllReadyH.cons rfl (fun K hK => ?_) AllReadyH.nil
        go_simp
        have hb : Below W.heap.size W ((W.alloc (.cells #[.string ByteArray.empty, .int .i64 0] 72)).drew) := ((Below.refl _ W).alloc (Nat.le_refl _) _).drew
        refine hK.out _ _ hb (fun hHeld => ?_)
        clear hK K
        try simp only [Act.put, List.setIfInBounds_toArray, List.set_cons_zero, List.set_cons_succ]
        refine wpAnyH_ready (rs := [11]) (by kernel_rfl) (by simp) ?_
        refine AllReadyH.cons rfl (fun K hK => ?_) AllReadyH.nil
        go_simp
        refine hK.out _ _ hb (fun hHeld => ?_)
        clear hK K
        try simp only [Act.put, List.setIfInBounds_toArray, List.set_cons_zero, List.set_cons_succ]
        refine wpAnyH_done (by kernel_rfl) ?_ _
        have j2 := (k2.pure hb).at 0 rfl
        have hT1 := hT0.trans (hb.mono hT0.size)
        go_wp2
        go_ret
        exact ⟨rfl, h.pure hT1, Upd.of_below hT1⟩
      · have e1 : cuD s x n = (s, 7) := by unfold cuD; rw [if_neg (by rw [hoff]; simp), if_neg hn, hg]
        rw [e1]
        go_enter Try.func26, Try.ntmps26
        go_wp2_with (first | (go_at_call 45; rw [← hW'.out]; (with_reducible refine hst.mono ?_); rintro e w1 ⟨rfl, rfl⟩))
        have hb := below_refl_dk W
        refine wp_region_held_drew (S := fun v => Below W.heap.size W v) (by kernel_rfl) hb (fun hHeld => ?_)
        refine takeH 0 16 (v := ?_) rfl rfl (by kernel_rfl) (by kernel_rfl) (by kernel_rfl) (fun _ _ _ h => h) (Or.inl ⟨by kernel_rfl, ?_⟩) hHeld ?_
        rotate_left 1
        · (intro v hSw; (try dsimp only at hSw); have q0 := (k0.pure hSw).at 0 rfl; clear hSw; go_simp; (try with_reducible rfl))
        try simp only [Act.put, List.setIfInBounds_toArray, List.set_cons_zero, List.set_cons_succ]
        refine takeH 1 17 (v := ?_) rfl rfl (by kernel_rfl) (by kernel_rfl) (by kernel_rfl) (fun _ _ _ h => h) (Or.inl ⟨by kernel_rfl, ?_⟩) hHeld ?_
        rotate_left 1
        · (intro v hSw; (try dsimp only at hSw); clear hSw; go_simp; (try with_reducible rfl))
        try simp only [Act.put, List.setIfInBounds_toArray, List.set_cons_zero, List.set_cons_succ]
        refine takeH 2 18 (v := ?_) rfl rfl (by kernel_rfl) (by kernel_rfl) (by kernel_rfl) (fun _ _ _ h => h) (Or.inl ⟨by kernel_rfl, ?_⟩) hHeld ?_
        rotate_left 1
        · (intro v hSw; (try dsimp only at hSw); clear hSw; go_simp; (try with_reducible rfl))
        try simp only [Act.put, List.setIfInBounds_toArray, List.set_cons_zero, List.set_cons_succ]
        refine takeH 3 19 (v := ?_) rfl rfl (by kernel_rfl) (by kernel_rfl) (by kernel_rfl) (fun _ _ _ h => h) (Or.inl ⟨by kernel_rfl, ?_⟩) hHeld ?_
        rotate_left 1
        · (intro v hSw; (try dsimp only at hSw); have q0 := (D0.pure hSw).c0; clear hSw; go_simp; (try with_reducible rfl))
        try simp only [Act.put, List.setIfInBounds_toArray, List.set_cons_zero, List.set_cons_succ]
        refine takeH 4 20 (v := ?_) rfl rfl (by kernel_rfl) (by kernel_rfl) (by kernel_rfl) (fun _ _ _ h => h) (Or.inl ⟨by kernel_rfl, ?_⟩) hHeld ?_
        rotate_left 1
        · (intro v hSw; (try dsimp only at hSw); have q0 := (k1.pure hSw).at 0 rfl; clear hSw; go_simp; (try with_reducible rfl))
        try simp only [Act.put, List.setIfInBounds_toArray, List.set_cons_zero, List.set_cons_succ]
        refine takeH 5 21 (v := ?_) rfl rfl (by kernel_rfl) (by kernel_rfl) (by kernel_rfl) (fun _ _ _ h => h) (Or.inl ⟨by kernel_rfl, ?_⟩) hHeld ?_
        rotate_left 1
        · (intro v hSw; (try dsimp only at hSw); have hlk := MapG.look_ok_run filesT (D0.2.1.pure hSw) (u := x) hx; rw [hfl] at hlk; simp only [Option.getD_some, Option.getD_none, Option.isSome_some, Option.isSome_none, evF] at hlk; clear hSw; go_simp; (try with_reducible rfl))
        try simp only [Act.put, List.setIfInBounds_toArray, List.set_cons_zero, List.set_cons_succ]
        refine takeH 6 15 (v := ?_) rfl rfl (by kernel_rfl) (by kernel_rfl) (by kernel_rfl) (fun _ _ _ h => h) (Or.inl ⟨by kernel_rfl, ?_⟩) hHeld ?_
        rotate_left 1
        · (intro v hSw; (try dsimp only at hSw); clear hSw; go_simp; (try with_reducible rfl))
        try simp only [Act.put, List.setIfInBounds_toArray, List.set_cons_zero, List.set_cons_succ]
        refine takeH 7 22 (v := ?_) rfl rfl (by kernel_rfl) (by kernel_rfl) (by kernel_rfl) (fun _ _ _ h => h) (Or.inl ⟨by kernel_rfl, ?_⟩) hHeld ?_
        rotate_left 1
        · (intro v hSw; (try dsimp only at hSw); clear hSw; go_simp; (try with_reducible rfl))
        try simp only [Act.put, List.setIfInBounds_toArray, List.set_cons_zero, List.set_cons_succ]
        refine takeH 8 23 (v := ?_) rfl rfl (by kernel_rfl) (by kernel_rfl) (by kernel_rfl) (fun _ _ _ h => h) (Or.inl ⟨by kernel_rfl, ?_⟩) hHeld ?_
        rotate_left 1
        · (intro v hSw; (try dsimp only at hSw); clear hSw; go_simp; (try with_reducible rfl))
        try simp only [Act.put, List.setIfInBounds_toArray, List.set_cons_zero, List.set_cons_succ]
        refine wpAnyH_ready (rs := [9]) (by kernel_rfl) (by simp) ?_
        refine AllReadyH.cons rfl (fun K hK => ?_) AllReadyH.nil
        go_simp
        have hb : Below W.heap.size W ((W.alloc (.cells #[.string ByteArray.empty, .int .i64 0] 72)).drew) := ((Below.refl _ W).alloc (Nat.le_refl _) _).drew
        refine hK.out _ _ hb (fun hHeld => ?_)
        clear hK K
        try simp only [Act.put, List.setIfInBounds_toArray, List.set_cons_zero, List.set_cons_succ]
        refine wpAnyH_ready (rs := [10]) (by kernel_rfl) (by simp) ?_
        refine AllReadyH.cons rfl (fun K hK => ?_) AllReadyH.nil
        go_simp
        have hb : Below W.heap.size W ((W.alloc (.cells #[.string ByteArray.empty, .int .i64 0] 72)).drew) := ((Below.refl _ W).alloc (Nat.le_refl _) _).drew
        refine hK.out _ _ hb (fun hHeld => ?_)
        clear hK K
        try simp only [Act.put, List.setIfInBounds_toArray, List.set_cons_zero, List.set_cons_succ]
        refine wpAnyH_ready (rs := [11]) (by kernel_rfl) (by simp) ?_
        refine AllReadyH.cons rfl (fun K hK => ?_) AllReadyH.nil
        go_simp
        refine hK.out _ _ hb (fun hHeld => ?_)
        clear hK K
        try simp only [Act.put, List.setIfInBounds_toArray, List.set_cons_zero, List.set_cons_succ]
        refine wpAnyH_done (by kernel_rfl) ?_ _
        have j2 := (k2.pure hb).at 0 rfl
        have hT1 := hT0.trans (hb.mono hT0.size)
        go_wp2
        go_ret
        exact ⟨rfl, h.pure hT1, Upd.of_below hT1⟩
    | some f =>
      have hfl : flH s.L x = some (f.b, f.s) := by unfold flH; rw [hg]; rfl
      by_cases hn : n < 0
      · have e1 : cuD s x n = (s, 2) := by unfold cuD; rw [if_neg (by rw [hoff]; simp), if_pos hn]
        rw [e1]
        go_enter Try.func26, Try.ntmps26
        go_wp2_with (first | (go_at_call 45; rw [← hW'.out]; (with_reducible refine hst.mono ?_); rintro e w1 ⟨rfl, rfl⟩))
        have hb := below_refl_dk W
        refine wp_region_held_drew (S := fun v => Below W.heap.size W v) (by kernel_rfl) hb (fun hHeld => ?_)
        refine takeH 0 16 (v := ?_) rfl rfl (by kernel_rfl) (by kernel_rfl) (by kernel_rfl) (fun _ _ _ h => h) (Or.inl ⟨by kernel_rfl, ?_⟩) hHeld ?_
        rotate_left 1
        · (intro v hSw; (try dsimp only at hSw); have q0 := (k0.pure hSw).at 0 rfl; clear hSw; go_simp; (try with_reducible rfl))
        try simp only [Act.put, List.setIfInBounds_toArray, List.set_cons_zero, List.set_cons_succ]
        refine takeH 1 17 (v := ?_) rfl rfl (by kernel_rfl) (by kernel_rfl) (by kernel_rfl) (fun _ _ _ h => h) (Or.inl ⟨by kernel_rfl, ?_⟩) hHeld ?_
        rotate_left 1
        · (intro v hSw; (try dsimp only at hSw); clear hSw; go_simp; (try with_reducible rfl))
        try simp only [Act.put, List.setIfInBounds_toArray, List.set_cons_zero, List.set_cons_succ]
        refine takeH 2 18 (v := ?_) rfl rfl (by kernel_rfl) (by kernel_rfl) (by kernel_rfl) (fun _ _ _ h => h) (Or.inl ⟨by kernel_rfl, ?_⟩) hHeld ?_
        rotate_left 1
        · (intro v hSw; (try dsimp only at hSw); clear hSw; go_simp; (try with_reducible rfl))
        try simp only [Act.put, List.setIfInBounds_toArray, List.set_cons_zero, List.set_cons_succ]
        refine takeH 3 19 (v := ?_) rfl rfl (by kernel_rfl) (by kernel_rfl) (by kernel_rfl) (fun _ _ _ h => h) (Or.inl ⟨by kernel_rfl, ?_⟩) hHeld ?_
        rotate_left 1
        · (intro v hSw; (try dsimp only at hSw); have q0 := (D0.pure hSw).c0; clear hSw; go_simp; (try with_reducible rfl))
        try simp only [Act.put, List.setIfInBounds_toArray, List.set_cons_zero, List.set_cons_succ]
        refine takeH 4 20 (v := ?_) rfl rfl (by kernel_rfl) (by kernel_rfl) (by kernel_rfl) (fun _ _ _ h => h) (Or.inl ⟨by kernel_rfl, ?_⟩) hHeld ?_
        rotate_left 1
        · (intro v hSw; (try dsimp only at hSw); have q0 := (k1.pure hSw).at 0 rfl; clear hSw; go_simp; (try with_reducible rfl))
        try simp only [Act.put, List.setIfInBounds_toArray, List.set_cons_zero, List.set_cons_succ]
        refine takeH 5 21 (v := ?_) rfl rfl (by kernel_rfl) (by kernel_rfl) (by kernel_rfl) (fun _ _ _ h => h) (Or.inl ⟨by kernel_rfl, ?_⟩) hHeld ?_
        rotate_left 1
        · (intro v hSw; (try dsimp only at hSw); have hlk := MapG.look_ok_run filesT (D0.2.1.pure hSw) (u := x) hx; rw [hfl] at hlk; simp only [Option.getD_some, Option.getD_none, Option.isSome_some, Option.isSome_none, evF] at hlk; clear hSw; go_simp; (try with_reducible rfl))
        try simp only [Act.put, List.setIfInBounds_toArray, List.set_cons_zero, List.set_cons_succ]
        refine takeH 6 15 (v := ?_) rfl rfl (by kernel_rfl) (by kernel_rfl) (by kernel_rfl) (fun _ _ _ h => h) (Or.inl ⟨by kernel_rfl, ?_⟩) hHeld ?_
        rotate_left 1
        · (intro v hSw; (try dsimp only at hSw); clear hSw; go_simp; (try with_reducible rfl))
        try simp only [Act.put, List.setIfInBounds_toArray, List.set_cons_zero, List.set_cons_succ]
        refine takeH 7 22 (v := ?_) rfl rfl (by kernel_rfl) (by kernel_rfl) (by kernel_rfl) (fun _ _ _ h => h) (Or.inl ⟨by kernel_rfl, ?_⟩) hHeld ?_
        rotate_left 1
        · (intro v hSw; (try dsimp only at hSw); clear hSw; go_simp; (try with_reducible rfl))
        try simp only [Act.put, List.setIfInBounds_toArray, List.set_cons_zero, List.set_cons_succ]
        refine takeH 8 23 (v := ?_) rfl rfl (by kernel_rfl) (by kernel_rfl) (by kernel_rfl) (fun _ _ _ h => h) (Or.inl ⟨by kernel_rfl, ?_⟩) hHeld ?_
        rotate_left 1
        · (intro v hSw; (try dsimp only at hSw); clear hSw; go_simp; (try with_reducible rfl))
        try simp only [Act.put, List.setIfInBounds_toArray, List.set_cons_zero, List.set_cons_succ]
        refine wpAnyH_ready (rs := [9]) (by kernel_rfl) (by simp) ?_
        refine AllReadyH.cons rfl (fun K hK => ?_) AllReadyH.nil
        go_simp
        have hb : Below W.heap.size W ((W.alloc (.cells #[.string ByteArray.empty, .int .i64 0] 72)).drew) := ((Below.refl _ W).alloc (Nat.le_refl _) _).drew
        refine hK.out _ _ hb (fun hHeld => ?_)
        clear hK K
        try simp only [Act.put, List.setIfInBounds_toArray, List.set_cons_zero, List.set_cons_succ]
        refine wpAnyH_ready (rs := [10]) (by kernel_rfl) (by simp) ?_
        refine AllReadyH.cons rfl (fun K hK => ?_) AllReadyH.nil
        go_simp
        have hb : Below W.heap.size W ((W.alloc (.cells #[.string f.b, .int .i64 f.s] 72)).drew) := ((Below.refl _ W).alloc (Nat.le_refl _) _).drew
        refine hK.out _ _ hb (fun hHeld => ?_)
        clear hK K
        try simp only [Act.put, List.setIfInBounds_toArray, List.set_cons_zero, List.set_cons_succ]
        refine wpAnyH_ready (rs := [11]) (by kernel_rfl) (by simp) ?_
        refine AllReadyH.cons rfl (fun K hK => ?_) AllReadyH.nil
        go_simp
        refine hK.out _ _ hb (fun hHeld => ?_)
        clear hK K
        try simp only [Act.put, List.setIfInBounds_toArray, List.set_cons_zero, List.set_cons_succ]
        refine wpAnyH_done (by kernel_rfl) ?_ _
        have j2 := (k2.pure hb).at 0 rfl
        have hT1 := hT0.trans (hb.mono hT0.size)
        go_wp2
        go_ret
        exact ⟨rfl, h.pure hT1, Upd.of_below hT1⟩
      · by_cases hn2 : (f.b.size : Int) < n
        · have e1 : cuD s x n = (s, 2) := by unfold cuD; rw [if_neg (by rw [hoff]; simp), if_neg hn, hg]; exact if_pos hn2
          rw [e1]
          go_enter Try.func26, Try.ntmps26
          go_wp2_with (first | (go_at_call 45; rw [← hW'.out]; (with_reducible refine hst.mono ?_); rintro e w1 ⟨rfl, rfl⟩))
          have hb := below_refl_dk W
          refine wp_region_held_drew (S := fun v => Below W.heap.size W v) (by kernel_rfl) hb (fun hHeld => ?_)
          refine takeH 0 16 (v := ?_) rfl rfl (by kernel_rfl) (by kernel_rfl) (by kernel_rfl) (fun _ _ _ h => h) (Or.inl ⟨by kernel_rfl, ?_⟩) hHeld ?_
          rotate_left 1
          · (intro v hSw; (try dsimp only at hSw); have q0 := (k0.pure hSw).at 0 rfl; clear hSw; go_simp; (try with_reducible rfl))
          try simp only [Act.put, List.setIfInBounds_toArray, List.set_cons_zero, List.set_cons_succ]
          refine takeH 1 17 (v := ?_) rfl rfl (by kernel_rfl) (by kernel_rfl) (by kernel_rfl) (fun _ _ _ h => h) (Or.inl ⟨by kernel_rfl, ?_⟩) hHeld ?_
          rotate_left 1
          · (intro v hSw; (try dsimp only at hSw); clear hSw; go_simp; (try with_reducible rfl))
          try simp only [Act.put, List.setIfInBounds_toArray, List.set_cons_zero, List.set_cons_succ]
          refine takeH 2 18 (v := ?_) rfl rfl (by kernel_rfl) (by kernel_rfl) (by kernel_rfl) (fun _ _ _ h => h) (Or.inl ⟨by kernel_rfl, ?_⟩) hHeld ?_
          rotate_left 1
          · (intro v hSw; (try dsimp only at hSw); clear hSw; go_simp; (try with_reducible rfl))
          try simp only [Act.put, List.setIfInBounds_toArray, List.set_cons_zero, List.set_cons_succ]
          refine takeH 3 19 (v := ?_) rfl rfl (by kernel_rfl) (by kernel_rfl) (by kernel_rfl) (fun _ _ _ h => h) (Or.inl ⟨by kernel_rfl, ?_⟩) hHeld ?_
          rotate_left 1
          · (intro v hSw; (try dsimp only at hSw); have q0 := (D0.pure hSw).c0; clear hSw; go_simp; (try with_reducible rfl))
          try simp only [Act.put, List.setIfInBounds_toArray, List.set_cons_zero, List.set_cons_succ]
          refine takeH 4 20 (v := ?_) rfl rfl (by kernel_rfl) (by kernel_rfl) (by kernel_rfl) (fun _ _ _ h => h) (Or.inl ⟨by kernel_rfl, ?_⟩) hHeld ?_
          rotate_left 1
          · (intro v hSw; (try dsimp only at hSw); have q0 := (k1.pure hSw).at 0 rfl; clear hSw; go_simp; (try with_reducible rfl))
          try simp only [Act.put, List.setIfInBounds_toArray, List.set_cons_zero, List.set_cons_succ]
          refine takeH 5 21 (v := ?_) rfl rfl (by kernel_rfl) (by kernel_rfl) (by kernel_rfl) (fun _ _ _ h => h) (Or.inl ⟨by kernel_rfl, ?_⟩) hHeld ?_
          rotate_left 1
          · (intro v hSw; (try dsimp only at hSw); have hlk := MapG.look_ok_run filesT (D0.2.1.pure hSw) (u := x) hx; rw [hfl] at hlk; simp only [Option.getD_some, Option.getD_none, Option.isSome_some, Option.isSome_none, evF] at hlk; clear hSw; go_simp; (try with_reducible rfl))
          try simp only [Act.put, List.setIfInBounds_toArray, List.set_cons_zero, List.set_cons_succ]
          refine takeH 6 15 (v := ?_) rfl rfl (by kernel_rfl) (by kernel_rfl) (by kernel_rfl) (fun _ _ _ h => h) (Or.inl ⟨by kernel_rfl, ?_⟩) hHeld ?_
          rotate_left 1
          · (intro v hSw; (try dsimp only at hSw); clear hSw; go_simp; (try with_reducible rfl))
          try simp only [Act.put, List.setIfInBounds_toArray, List.set_cons_zero, List.set_cons_succ]
          refine takeH 7 22 (v := ?_) rfl rfl (by kernel_rfl) (by kernel_rfl) (by kernel_rfl) (fun _ _ _ h => h) (Or.inl ⟨by kernel_rfl, ?_⟩) hHeld ?_
          rotate_left 1
          · (intro v hSw; (try dsimp only at hSw); clear hSw; go_simp; (try with_reducible rfl))
          try simp only [Act.put, List.setIfInBounds_toArray, List.set_cons_zero, List.set_cons_succ]
          refine takeH 8 23 (v := ?_) rfl rfl (by kernel_rfl) (by kernel_rfl) (by kernel_rfl) (fun _ _ _ h => h) (Or.inl ⟨by kernel_rfl, ?_⟩) hHeld ?_
          rotate_left 1
          · (intro v hSw; (try dsimp only at hSw); clear hSw; go_simp; (try with_reducible rfl))
          try simp only [Act.put, List.setIfInBounds_toArray, List.set_cons_zero, List.set_cons_succ]
          refine wpAnyH_ready (rs := [9]) (by kernel_rfl) (by simp) ?_
          refine AllReadyH.cons rfl (fun K hK => ?_) AllReadyH.nil
          go_simp
          have hb : Below W.heap.size W ((W.alloc (.cells #[.string ByteArray.empty, .int .i64 0] 72)).drew) := ((Below.refl _ W).alloc (Nat.le_refl _) _).drew
          refine hK.out _ _ hb (fun hHeld => ?_)
          clear hK K
          try simp only [Act.put, List.setIfInBounds_toArray, List.set_cons_zero, List.set_cons_succ]
          refine wpAnyH_ready (rs := [10]) (by kernel_rfl) (by simp) ?_
          refine AllReadyH.cons rfl (fun K hK => ?_) AllReadyH.nil
          go_simp
          have hb : Below W.heap.size W ((W.alloc (.cells #[.string f.b, .int .i64 f.s] 72)).drew) := ((Below.refl _ W).alloc (Nat.le_refl _) _).drew
          refine hK.out _ _ hb (fun hHeld => ?_)
          clear hK K
          try simp only [Act.put, List.setIfInBounds_toArray, List.set_cons_zero, List.set_cons_succ]
          refine wpAnyH_ready (rs := [11]) (by kernel_rfl) (by simp) ?_
          refine AllReadyH.cons rfl (fun K hK => ?_) AllReadyH.nil
          go_simp
          refine hK.out _ _ hb (fun hHeld => ?_)
          clear hK K
          try simp only [Act.put, List.setIfInBounds_toArray, List.set_cons_zero, List.set_cons_succ]
          refine wpAnyH_done (by kernel_rfl) ?_ _
          have j2 := (k2.pure hb).at 0 rfl
          have hT1 := hT0.trans (hb.mono hT0.size)
          go_wp2
          go_ret
          exact ⟨rfl, h.pure hT1, Upd.of_below hT1⟩
        · have e1 : cuD s x n = burnE s (setF s.L ⟨x, cutB f.b n, minI f.s n⟩) false := by unfold cuD; rw [if_neg (by rw [hoff]; simp), if_neg hn, hg]; exact if_neg hn2
          rw [e1]
          by_cases hmn : f.s ≤ n
          · have hmi : minI f.s n = f.s := by unfold minI; rw [if_pos hmn]
            rw [hmi]; clear hmi
            go_enter Try.func26, Try.ntmps26
            go_wp2_with (first | (go_at_call 45; rw [← hW'.out]; (with_reducible refine hst.mono ?_); rintro e w1 ⟨rfl, rfl⟩))
            have hb := below_refl_dk W
            refine wp_region_held_drew (S := fun v => Below W.heap.size W v) (by kernel_rfl) hb (fun hHeld => ?_)
            refine takeH 0 16 (v := ?_) rfl rfl (by kernel_rfl) (by kernel_rfl) (by kernel_rfl) (fun _ _ _ h => h) (Or.inl ⟨by kernel_rfl, ?_⟩) hHeld ?_
            rotate_left 1
            · (intro v hSw; (try dsimp only at hSw); have q0 := (k0.pure hSw).at 0 rfl; clear hSw; go_simp; (try with_reducible rfl))
            try simp only [Act.put, List.setIfInBounds_toArray, List.set_cons_zero, List.set_cons_succ]
            refine takeH 1 17 (v := ?_) rfl rfl (by kernel_rfl) (by kernel_rfl) (by kernel_rfl) (fun _ _ _ h => h) (Or.inl ⟨by kernel_rfl, ?_⟩) hHeld ?_
            rotate_left 1
            · (intro v hSw; (try dsimp only at hSw); clear hSw; go_simp; (try with_reducible rfl))
            try simp only [Act.put, List.setIfInBounds_toArray, List.set_cons_zero, List.set_cons_succ]
            refine takeH 2 18 (v := ?_) rfl rfl (by kernel_rfl) (by kernel_rfl) (by kernel_rfl) (fun _ _ _ h => h) (Or.inl ⟨by kernel_rfl, ?_⟩) hHeld ?_
            rotate_left 1
            · (intro v hSw; (try dsimp only at hSw); clear hSw; go_simp; (try with_reducible rfl))
            try simp only [Act.put, List.setIfInBounds_toArray, List.set_cons_zero, List.set_cons_succ]
            refine takeH 3 19 (v := ?_) rfl rfl (by kernel_rfl) (by kernel_rfl) (by kernel_rfl) (fun _ _ _ h => h) (Or.inl ⟨by kernel_rfl, ?_⟩) hHeld ?_
            rotate_left 1
            · (intro v hSw; (try dsimp only at hSw); have q0 := (D0.pure hSw).c0; clear hSw; go_simp; (try with_reducible rfl))
            try simp only [Act.put, List.setIfInBounds_toArray, List.set_cons_zero, List.set_cons_succ]
            refine takeH 4 20 (v := ?_) rfl rfl (by kernel_rfl) (by kernel_rfl) (by kernel_rfl) (fun _ _ _ h => h) (Or.inl ⟨by kernel_rfl, ?_⟩) hHeld ?_
            rotate_left 1
            · (intro v hSw; (try dsimp only at hSw); have q0 := (k1.pure hSw).at 0 rfl; clear hSw; go_simp; (try with_reducible rfl))
            try simp only [Act.put, List.setIfInBounds_toArray, List.set_cons_zero, List.set_cons_succ]
            refine takeH 5 21 (v := ?_) rfl rfl (by kernel_rfl) (by kernel_rfl) (by kernel_rfl) (fun _ _ _ h => h) (Or.inl ⟨by kernel_rfl, ?_⟩) hHeld ?_
            rotate_left 1
            · (intro v hSw; (try dsimp only at hSw); have hlk := MapG.look_ok_run filesT (D0.2.1.pure hSw) (u := x) hx; rw [hfl] at hlk; simp only [Option.getD_some, Option.getD_none, Option.isSome_some, Option.isSome_none, evF] at hlk; clear hSw; go_simp; (try with_reducible rfl))
            try simp only [Act.put, List.setIfInBounds_toArray, List.set_cons_zero, List.set_cons_succ]
            refine takeH 6 15 (v := ?_) rfl rfl (by kernel_rfl) (by kernel_rfl) (by kernel_rfl) (fun _ _ _ h => h) (Or.inl ⟨by kernel_rfl, ?_⟩) hHeld ?_
            rotate_left 1
            · (intro v hSw; (try dsimp only at hSw); clear hSw; go_simp; (try with_reducible rfl))
            try simp only [Act.put, List.setIfInBounds_toArray, List.set_cons_zero, List.set_cons_succ]
            refine takeH 7 22 (v := ?_) rfl rfl (by kernel_rfl) (by kernel_rfl) (by kernel_rfl) (fun _ _ _ h => h) (Or.inl ⟨by kernel_rfl, ?_⟩) hHeld ?_
            rotate_left 1
            · (intro v hSw; (try dsimp only at hSw); clear hSw; go_simp; (try with_reducible rfl))
            try simp only [Act.put, List.setIfInBounds_toArray, List.set_cons_zero, List.set_cons_succ]
            refine takeH 8 23 (v := ?_) rfl rfl (by kernel_rfl) (by kernel_rfl) (by kernel_rfl) (fun _ _ _ h => h) (Or.inl ⟨by kernel_rfl, ?_⟩) hHeld ?_
            rotate_left 1
            · (intro v hSw; (try dsimp only at hSw); clear hSw; go_simp; (try with_reducible rfl))
            try simp only [Act.put, List.setIfInBounds_toArray, List.set_cons_zero, List.set_cons_succ]
            refine wpAnyH_ready (rs := [9]) (by kernel_rfl) (by simp) ?_
            refine AllReadyH.cons rfl (fun K hK => ?_) AllReadyH.nil
            go_simp
            have hb : Below W.heap.size W ((W.alloc (.cells #[.string ByteArray.empty, .int .i64 0] 72)).drew) := ((Below.refl _ W).alloc (Nat.le_refl _) _).drew
            refine hK.out _ _ hb (fun hHeld => ?_)
            clear hK K
            try simp only [Act.put, List.setIfInBounds_toArray, List.set_cons_zero, List.set_cons_succ]
            refine wpAnyH_ready (rs := [10]) (by kernel_rfl) (by simp) ?_
            refine AllReadyH.cons rfl (fun K hK => ?_) AllReadyH.nil
            go_simp
            have hb : Below W.heap.size W ((W.alloc (.cells #[.string f.b, .int .i64 f.s] 72)).drew) := ((Below.refl _ W).alloc (Nat.le_refl _) _).drew
            refine hK.out _ _ hb (fun hHeld => ?_)
            clear hK K
            try simp only [Act.put, List.setIfInBounds_toArray, List.set_cons_zero, List.set_cons_succ]
            refine wpAnyH_ready (rs := [11]) (by kernel_rfl) (by simp) ?_
            refine AllReadyH.cons rfl (fun K hK => ?_) AllReadyH.nil
            go_simp
            refine hK.out _ _ hb (fun hHeld => ?_)
            clear hK K
            try simp only [Act.put, List.setIfInBounds_toArray, List.set_cons_zero, List.set_cons_succ]
            refine wpAnyH_done (by kernel_rfl) ?_ _
            have hT1 := hT0.trans (hb.mono hT0.size)
            obtain ⟨W1, hW1⟩ : ∃ W1, W1 = (W.alloc (.cells #[.string f.b, .int .i64 f.s] 72)).drew := ⟨_, rfl⟩
            have kf : Blk W1 W.heap.size [.string f.b, .int .i64 f.s] := by rw [hW1]; exact (Blk.new W [.string f.b, .int .i64 f.s] 72).drew
            rw [← hW1] at hb hT1 ⊢
            clear hHeld hW1
            have D1 := D0.pure hb
            have kf0 := kf.at 0 rfl
            have m0 := k0.pure hb; have n0 := m0.at 0 rfl
            have m1 := k1.pure hb; have n1 := m1.at 0 rfl
            have m2 := k2.pure hb; have n2 := m2.at 0 rfl
            have hact := act_any W1 d b s 50 #[.pointer (some ⟨W.heap.size, 0, none⟩), .pointer (some ⟨w.heap.size + 1 + 1, 0, none⟩), .pointer (some ⟨w.heap.size, 0, none⟩), .pointer (some ⟨w.heap.size + 1, 0, none⟩)] false (setF s.L ⟨x, cutB f.b n, f.s⟩) D1 ho.left hF (fun u l hu hU => cu1a_any u d b { s with left := l } ⟨hu, ho.rise, hL⟩ (kf.upd hU (by omega)) (m2.upd hU (by omega)) (m0.upd hU (by omega)) (m1.upd hU (by omega)) (by omega) (by omega) (by omega) (by omega) hx (by omega) (by omega) (by omega))
            go_wp2_with (first | (go_at_call 47; (with_reducible refine hact.mono ?_); clear hact; rintro e w2 ⟨rfl, g1, g2⟩))
            go_ret
            exact ⟨rfl, g1, (Upd.of_below hT1).trans g2 (fun i hi _ => hi)⟩
          · have hmi : minI f.s n = n := by unfold minI; rw [if_neg hmn]
            rw [hmi]; clear hmi
            go_enter Try.func26, Try.ntmps26
            go_wp2_with (first | (go_at_call 45; rw [← hW'.out]; (with_reducible refine hst.mono ?_); rintro e w1 ⟨rfl, rfl⟩))
            have hb := below_refl_dk W
            refine wp_region_held_drew (S := fun v => Below W.heap.size W v) (by kernel_rfl) hb (fun hHeld => ?_)
            refine takeH 0 16 (v := ?_) rfl rfl (by kernel_rfl) (by kernel_rfl) (by kernel_rfl) (fun _ _ _ h => h) (Or.inl ⟨by kernel_rfl, ?_⟩) hHeld ?_
            rotate_left 1
            · (intro v hSw; (try dsimp only at hSw); have q0 := (k0.pure hSw).at 0 rfl; clear hSw; go_simp; (try with_reducible rfl))
            try simp only [Act.put, List.setIfInBounds_toArray, List.set_cons_zero, List.set_cons_succ]
            refine takeH 1 17 (v := ?_) rfl rfl (by kernel_rfl) (by kernel_rfl) (by kernel_rfl) (fun _ _ _ h => h) (Or.inl ⟨by kernel_rfl, ?_⟩) hHeld ?_
            rotate_left 1
            · (intro v hSw; (try dsimp only at hSw); clear hSw; go_simp; (try with_reducible rfl))
            try simp only [Act.put, List.setIfInBounds_toArray, List.set_cons_zero, List.set_cons_succ]
            refine takeH 2 18 (v := ?_) rfl rfl (by kernel_rfl) (by kernel_rfl) (by kernel_rfl) (fun _ _ _ h => h) (Or.inl ⟨by kernel_rfl, ?_⟩) hHeld ?_
            rotate_left 1
            · (intro v hSw; (try dsimp only at hSw); clear hSw; go_simp; (try with_reducible rfl))
            try simp only [Act.put, List.setIfInBounds_toArray, List.set_cons_zero, List.set_cons_succ]
            refine takeH 3 19 (v := ?_) rfl rfl (by kernel_rfl) (by kernel_rfl) (by kernel_rfl) (fun _ _ _ h => h) (Or.inl ⟨by kernel_rfl, ?_⟩) hHeld ?_
            rotate_left 1
            · (intro v hSw; (try dsimp only at hSw); have q0 := (D0.pure hSw).c0; clear hSw; go_simp; (try with_reducible rfl))
            try simp only [Act.put, List.setIfInBounds_toArray, List.set_cons_zero, List.set_cons_succ]
            refine takeH 4 20 (v := ?_) rfl rfl (by kernel_rfl) (by kernel_rfl) (by kernel_rfl) (fun _ _ _ h => h) (Or.inl ⟨by kernel_rfl, ?_⟩) hHeld ?_
            rotate_left 1
            · (intro v hSw; (try dsimp only at hSw); have q0 := (k1.pure hSw).at 0 rfl; clear hSw; go_simp; (try with_reducible rfl))
            try simp only [Act.put, List.setIfInBounds_toArray, List.set_cons_zero, List.set_cons_succ]
            refine takeH 5 21 (v := ?_) rfl rfl (by kernel_rfl) (by kernel_rfl) (by kernel_rfl) (fun _ _ _ h => h) (Or.inl ⟨by kernel_rfl, ?_⟩) hHeld ?_
            rotate_left 1
            · (intro v hSw; (try dsimp only at hSw); have hlk := MapG.look_ok_run filesT (D0.2.1.pure hSw) (u := x) hx; rw [hfl] at hlk; simp only [Option.getD_some, Option.getD_none, Option.isSome_some, Option.isSome_none, evF] at hlk; clear hSw; go_simp; (try with_reducible rfl))
            try simp only [Act.put, List.setIfInBounds_toArray, List.set_cons_zero, List.set_cons_succ]
            refine takeH 6 15 (v := ?_) rfl rfl (by kernel_rfl) (by kernel_rfl) (by kernel_rfl) (fun _ _ _ h => h) (Or.inl ⟨by kernel_rfl, ?_⟩) hHeld ?_
            rotate_left 1
            · (intro v hSw; (try dsimp only at hSw); clear hSw; go_simp; (try with_reducible rfl))
            try simp only [Act.put, List.setIfInBounds_toArray, List.set_cons_zero, List.set_cons_succ]
            refine takeH 7 22 (v := ?_) rfl rfl (by kernel_rfl) (by kernel_rfl) (by kernel_rfl) (fun _ _ _ h => h) (Or.inl ⟨by kernel_rfl, ?_⟩) hHeld ?_
            rotate_left 1
            · (intro v hSw; (try dsimp only at hSw); clear hSw; go_simp; (try with_reducible rfl))
            try simp only [Act.put, List.setIfInBounds_toArray, List.set_cons_zero, List.set_cons_succ]
            refine takeH 8 23 (v := ?_) rfl rfl (by kernel_rfl) (by kernel_rfl) (by kernel_rfl) (fun _ _ _ h => h) (Or.inl ⟨by kernel_rfl, ?_⟩) hHeld ?_
            rotate_left 1
            · (intro v hSw; (try dsimp only at hSw); clear hSw; go_simp; (try with_reducible rfl))
            try simp only [Act.put, List.setIfInBounds_toArray, List.set_cons_zero, List.set_cons_succ]
            refine wpAnyH_ready (rs := [9]) (by kernel_rfl) (by simp) ?_
            refine AllReadyH.cons rfl (fun K hK => ?_) AllReadyH.nil
            go_simp
            have hb : Below W.heap.size W ((W.alloc (.cells #[.string ByteArray.empty, .int .i64 0] 72)).drew) := ((Below.refl _ W).alloc (Nat.le_refl _) _).drew
            refine hK.out _ _ hb (fun hHeld => ?_)
            clear hK K
            try simp only [Act.put, List.setIfInBounds_toArray, List.set_cons_zero, List.set_cons_succ]
            refine wpAnyH_ready (rs := [10]) (by kernel_rfl) (by simp) ?_
            refine AllReadyH.cons rfl (fun K hK => ?_) AllReadyH.nil
            go_simp
            have hb : Below W.heap.size W ((W.alloc (.cells #[.string f.b, .int .i64 f.s] 72)).drew) := ((Below.refl _ W).alloc (Nat.le_refl _) _).drew
            refine hK.out _ _ hb (fun hHeld => ?_)
            clear hK K
            try simp only [Act.put, List.setIfInBounds_toArray, List.set_cons_zero, List.set_cons_succ]
            refine wpAnyH_ready (rs := [11]) (by kernel_rfl) (by simp) ?_
            refine AllReadyH.cons rfl (fun K hK => ?_) AllReadyH.nil
            go_simp
            refine hK.out _ _ hb (fun hHeld => ?_)
            clear hK K
            try simp only [Act.put, List.setIfInBounds_toArray, List.set_cons_zero, List.set_cons_succ]
            refine wpAnyH_done (by kernel_rfl) ?_ _
            have hT1 := hT0.trans (hb.mono hT0.size)
            obtain ⟨W1, hW1⟩ : ∃ W1, W1 = (W.alloc (.cells #[.string f.b, .int .i64 f.s] 72)).drew := ⟨_, rfl⟩
            have kf : Blk W1 W.heap.size [.string f.b, .int .i64 f.s] := by rw [hW1]; exact (Blk.new W [.string f.b, .int .i64 f.s] 72).drew
            rw [← hW1] at hb hT1 ⊢
            clear hHeld hW1
            have D1 := D0.pure hb
            have kf0 := kf.at 0 rfl
            have m0 := k0.pure hb; have n0 := m0.at 0 rfl
            have m1 := k1.pure hb; have n1 := m1.at 0 rfl
            have m2 := k2.pure hb; have n2 := m2.at 0 rfl
            have hact := act_any W1 d b s 50 #[.pointer (some ⟨W.heap.size, 0, none⟩), .pointer (some ⟨w.heap.size + 1 + 1, 0, none⟩), .pointer (some ⟨w.heap.size, 0, none⟩), .pointer (some ⟨w.heap.size + 1, 0, none⟩)] false (setF s.L ⟨x, cutB f.b n, n⟩) D1 ho.left hF (fun u l hu hU => cu1b_any u d b { s with left := l } ⟨hu, ho.rise, hL⟩ (kf.upd hU (by omega)) (m2.upd hU (by omega)) (m0.upd hU (by omega)) (m1.upd hU (by omega)) (by omega) (by omega) (by omega) (by omega) hx (by omega) (by omega) (by omega))
            go_wp2_with (first | (go_at_call 47; (with_reducible refine hact.mono ?_); clear hact; rintro e w2 ⟨rfl, g1, g2⟩))
            go_ret
            exact ⟨rfl, g1, (Upd.of_below hT1).trans g2 (fun i hi _ => hi)⟩
  · have hc3 := D0.c3
    rw [hoff] at hc3
    have hst := state_ok W d b true D0.c0 hc3
    have e1 : cuD s x n = (s, 100) := by unfold cuD; rw [if_pos hoff]
    rw [e1]
    go_enter Try.func26, Try.ntmps26
    go_wp2_with (first | (go_at_call 45; rw [← hW'.out]; (with_reducible refine hst.mono ?_); rintro e w1 ⟨rfl, rfl⟩))
    go_ret
    exact ⟨rfl, D0, Upd.of_below hT0⟩
set_option maxRecDepth 100000 in
set_option maxHeartbeats 6400000 in
theorem rename_any (w : World) (d b : Nat) (s : DS) (x y : ByteArray) (h : Disk w d b s) (ho : DOk s) (hL : s.L.length < 1000000) (hx : okS x) (hy : okS y) :
    Calls Try.prog 27 #[.pointer (some ⟨d, 0, none⟩), .string x, .string y] w fun e w' => e = .returned (.int .i64 (reD s x y).2) ∧ Disk w' d b (reD s x y).1 ∧ Upd (DiskS d b) w w' := by
  have hdl := h.lt
  have hbl := hdl.2
  have hdl := hdl.1
  have hT0 : Below w.heap.size w (((w.alloc (.cells #[.pointer (some ⟨d, 0, none⟩)] 23)).alloc (.cells #[.string x] 9)).alloc (.cells #[.string y] 9)) := ((((Below.refl _ _).alloc (by simp) _).alloc (by simp) _).alloc (by simp; omega) _)
  have k0 : Blk (((w.alloc (.cells #[.pointer (some ⟨d, 0, none⟩)] 23)).alloc (.cells #[.string x] 9)).alloc (.cells #[.string y] 9)) (w.heap.size) [.pointer (some ⟨d, 0, none⟩)] := ((Blk.newAt w [.pointer (some ⟨d, 0, none⟩)] 23 (w.heap.size) (by simp)).alloc (.cells #[.string x] 9)).alloc (.cells #[.string y] 9)
  have k1 : Blk (((w.alloc (.cells #[.pointer (some ⟨d, 0, none⟩)] 23)).alloc (.cells #[.string x] 9)).alloc (.cells #[.string y] 9)) (w.heap.size + 1) [.string x] := (Blk.newAt (w.alloc (.cells #[.pointer (some ⟨d, 0, none⟩)] 23)) [.string x] 9 (w.heap.size + 1) (by simp)).alloc (.cells #[.string y] 9)
  have k2 : Blk (((w.alloc (.cells #[.pointer (some ⟨d, 0, none⟩)] 23)).alloc (.cells #[.string x] 9)).alloc (.cells #[.string y] 9)) (w.heap.size + 1 + 1) [.string y] := Blk.newAt ((w.alloc (.cells #[.pointer (some ⟨d, 0, none⟩)] 23)).alloc (.cells #[.string x] 9)) [.string y] 9 (w.heap.size + 1 + 1) (by simp)
  obtain ⟨W, hW⟩ : ∃ W, W = (((w.alloc (.cells #[.pointer (some ⟨d, 0, none⟩)] 23)).alloc (.cells #[.string x] 9)).alloc (.cells #[.string y] 9)) := ⟨_, rfl⟩
  rw [← hW] at hT0 k0 k1 k2
  have hW' := Lib.hid hW; clear hW
  have D0 := h.pure hT0
  have hwl := hT0.size
  have k0l := k0.lt
  have j0 := k0.at 0 rfl
  have k1l := k1.lt
  have j1 := k1.at 0 rfl
  have k2l := k2.lt
  have j2 := k2.at 0 rfl
  have hmf : ∀ (fn : Fn) (first cap : Array Value) (w : World), (Instr.makeFunc fn first cap).run Try.prog w = .ok (.func fn first cap) w := fun _ _ _ _ => rfl
  have hF : ∀ (args : Array Value) (u : World), (callFunc 51 args).run Try.prog u = .ok (.enter 51 args) u := fun _ _ => by kernel_rfl
  cases hoff : s.off
  · have hc3 := D0.c3
    rw [hoff] at hc3
    have hst := state_ok W d b false D0.c0 hc3
    by_cases qx : MayN x
    · by_cases qy : MayN y
      · cases hg : getF s.L x with
        | none =>
          have hfl : flH s.L x = none := by unfold flH; rw [hg]; rfl
          have e1 : reD s x y = (s, 7) := by unfold reD; rw [if_neg (by rw [hoff]; simp), if_neg (fun q => q.elim (fun q => q qx) (fun q => q qy)), hg]
          rw [e1]
          have hmx : Calls Try.prog 46 #[.string x] W fun e w2 => e = .returned (.bool true) ∧ W = w2 := (may_any W x).mono (fun e w2 ⟨p, q⟩ => ⟨by rw [p, decide_eq_true qx], q⟩)
          have hmy : Calls Try.prog 46 #[.string y] W fun e w2 => e = .returned (.bool true) ∧ W = w2 := (may_any W y).mono (fun e w2 ⟨p, q⟩ => ⟨by rw [p, decide_eq_true qy], q⟩)
          go_enter Try.func27, Try.ntmps27
          go_wp2_with (first | (go_at_call 45; rw [← hW'.out]; (with_reducible refine hst.mono ?_); rintro e w1 ⟨rfl, rfl⟩) | (go_at_call 46; (first | (with_reducible refine hmx.mono ?_) | (with_reducible refine hmy.mono ?_)); rintro e w2 ⟨rfl, rfl⟩))
          clear hmx hmy
          have hb := below_refl_dk W
          refine wp_region_held_drew (S := fun v => Below W.heap.size W v) (by kernel_rfl) hb (fun hHeld => ?_)
          refine takeH 0 24 (v := ?_) rfl rfl (by kernel_rfl) (by kernel_rfl) (by kernel_rfl) (fun _ _ _ h => h) (Or.inl ⟨by kernel_rfl, ?_⟩) hHeld ?_
          rotate_left 1
          · (intro v hSw; (try dsimp only at hSw); have q0 := (k0.pure hSw).at 0 rfl; clear hSw; go_simp; (try with_reducible rfl))
          try simp only [Act.put, List.setIfInBounds_toArray, List.set_cons_zero, List.set_cons_succ]
          refine takeH 1 25 (v := ?_) rfl rfl (by kernel_rfl) (by kernel_rfl) (by kernel_rfl) (fun _ _ _ h => h) (Or.inl ⟨by kernel_rfl, ?_⟩) hHeld ?_
          rotate_left 1
          · (intro v hSw; (try dsimp only at hSw); clear hSw; go_simp; (try with_reducible rfl))
          try simp only [Act.put, List.setIfInBounds_toArray, List.set_cons_zero, List.set_cons_succ]
          refine takeH 2 26 (v := ?_) rfl rfl (by kernel_rfl) (by kernel_rfl) (by kernel_rfl) (fun _ _ _ h => h) (Or.inl ⟨by kernel_rfl, ?_⟩) hHeld ?_
          rotate_left 1
          · (intro v hSw; (try dsimp only at hSw); clear hSw; go_simp; (try with_reducible rfl))
          try simp only [Act.put, List.setIfInBounds_toArray, List.set_cons_zero, List.set_cons_succ]
          refine takeH 3 27 (v := ?_) rfl rfl (by kernel_rfl) (by kernel_rfl) (by kernel_rfl) (fun _ _ _ h => h) (Or.inl ⟨by kernel_rfl, ?_⟩) hHeld ?_
          rotate_left 1
          · (intro v hSw; (try dsimp only at hSw); have q0 := (D0.pure hSw).c0; clear hSw; go_simp; (try with_reducible rfl))
          try simp only [Act.put, List.setIfInBounds_toArray, List.set_cons_zero, List.set_cons_succ]
          refine takeH 4 28 (v := ?_) rfl rfl (by kernel_rfl) (by kernel_rfl) (by kernel_rfl) (fun _ _ _ h => h) (Or.inl ⟨by kernel_rfl, ?_⟩) hHeld ?_
          rotate_left 1
          · (intro v hSw; (try dsimp only at hSw); have q0 := (k1.pure hSw).at 0 rfl; clear hSw; go_simp; (try with_reducible rfl))
          try simp only [Act.put, List.setIfInBounds_toArray, List.set_cons_zero, List.set_cons_succ]
          refine takeH 5 29 (v := ?_) rfl rfl (by kernel_rfl) (by kernel_rfl) (by kernel_rfl) (fun _ _ _ h => h) (Or.inl ⟨by kernel_rfl, ?_⟩) hHeld ?_
          rotate_left 1
          · (intro v hSw; (try dsimp only at hSw); have hlk := MapG.look_ok_run filesT (D0.2.1.pure hSw) (u := x) hx; rw [hfl] at hlk; simp only [Option.getD_some, Option.getD_none, Option.isSome_some, Option.isSome_none, evF] at hlk; clear hSw; go_simp; (try with_reducible rfl))
          try simp only [Act.put, List.setIfInBounds_toArray, List.set_cons_zero, List.set_cons_succ]
          refine takeH 6 23 (v := ?_) rfl rfl (by kernel_rfl) (by kernel_rfl) (by kernel_rfl) (fun _ _ _ h => h) (Or.inl ⟨by kernel_rfl, ?_⟩) hHeld ?_
          rotate_left 1
          · (intro v hSw; (try dsimp only at hSw); clear hSw; go_simp; (try with_reducible rfl))
          try simp only [Act.put, List.setIfInBounds_toArray, List.set_cons_zero, List.set_cons_succ]
          refine takeH 7 30 (v := ?_) rfl rfl (by kernel_rfl) (by kernel_rfl) (by kernel_rfl) (fun _ _ _ h => h) (Or.inl ⟨by kernel_rfl, ?_⟩) hHeld ?_
          rotate_left 1
          · (intro v hSw; (try dsimp only at hSw); clear hSw; go_simp; (try with_reducible rfl))
          try simp only [Act.put, List.setIfInBounds_toArray, List.set_cons_zero, List.set_cons_succ]
          refine takeH 8 31 (v := ?_) rfl rfl (by kernel_rfl) (by kernel_rfl) (by kernel_rfl) (fun _ _ _ h => h) (Or.inl ⟨by kernel_rfl, ?_⟩) hHeld ?_
          rotate_left 1
          · (intro v hSw; (try dsimp only at hSw); clear hSw; go_simp; (try with_reducible rfl))
          try simp only [Act.put, List.setIfInBounds_toArray, List.set_cons_zero, List.set_cons_succ]
          refine wpAnyH_ready (rs := [9]) (by kernel_rfl) (by simp) ?_
          refine AllReadyH.cons rfl (fun K hK => ?_) AllReadyH.nil
          go_simp
          have hb : Below W.heap.size W ((W.alloc (.cells #[.string ByteArray.empty, .int .i64 0] 72)).drew) := ((Below.refl _ W).alloc (Nat.le_refl _) _).drew
          refine hK.out _ _ hb (fun hHeld => ?_)
          clear hK K
          try simp only [Act.put, List.setIfInBounds_toArray, List.set_cons_zero, List.set_cons_succ]
          refine wpAnyH_ready (rs := [10]) (by kernel_rfl) (by simp) ?_
          refine AllReadyH.cons rfl (fun K hK => ?_) AllReadyH.nil
          go_simp
          have hb : Below W.heap.size W ((W.alloc (.cells #[.string ByteArray.empty, .int .i64 0] 72)).drew) := ((Below.refl _ W).alloc (Nat.le_refl _) _).drew
          refine hK.out _ _ hb (fun hHeld => ?_)
          clear hK K
          try simp only [Act.put, List.setIfInBounds_toArray, List.set_cons_zero, List.set_cons_succ]
          refine wpAnyH_ready (rs := [11]) (by kernel_rfl) (by simp) ?_
          refine AllReadyH.cons rfl (fun K hK => ?_) AllReadyH.nil
          go_simp
          refine hK.out _ _ hb (fun hHeld => ?_)
          clear hK K
          try simp only [Act.put, List.setIfInBounds_toArray, List.set_cons_zero, List.set_cons_succ]
          refine wpAnyH_done (by kernel_rfl) ?_ _
          have hT1 := hT0.trans (hb.mono hT0.size)
          go_wp2
          go_ret
          exact ⟨rfl, h.pure hT1, Upd.of_below hT1⟩
        | some f =>
          have hfl : flH s.L x = some (f.b, f.s) := by unfold flH; rw [hg]; rfl
          have e1 : reD s x y = burnE s (setF (delF s.L x) ⟨y, f.b, f.s⟩) false := by unfold reD; rw [if_neg (by rw [hoff]; simp), if_neg (fun q => q.elim (fun q => q qx) (fun q => q qy)), hg]
          rw [e1]
          have hmx : Calls Try.prog 46 #[.string x] W fun e w2 => e = .returned (.bool true) ∧ W = w2 := (may_any W x).mono (fun e w2 ⟨p, q⟩ => ⟨by rw [p, decide_eq_true qx], q⟩)
          have hmy : Calls Try.prog 46 #[.string y] W fun e w2 => e = .returned (.bool true) ∧ W = w2 := (may_any W y).mono (fun e w2 ⟨p, q⟩ => ⟨by rw [p, decide_eq_true qy], q⟩)
          go_enter Try.func27, Try.ntmps27
          go_wp2_with (first | (go_at_call 45; rw [← hW'.out]; (with_reducible refine hst.mono ?_); rintro e w1 ⟨rfl, rfl⟩) | (go_at_call 46; (first | (with_reducible refine hmx.mono ?_) | (with_reducible refine hmy.mono ?_)); rintro e w2 ⟨rfl, rfl⟩))
          clear hmx hmy
          have hb := below_refl_dk W
          refine wp_region_held_drew (S := fun v => Below W.heap.size W v) (by kernel_rfl) hb (fun hHeld => ?_)
          refine takeH 0 24 (v := ?_) rfl rfl (by kernel_rfl) (by kernel_rfl) (by kernel_rfl) (fun _ _ _ h => h) (Or.inl ⟨by kernel_rfl, ?_⟩) hHeld ?_
          rotate_left 1
          · (intro v hSw; (try dsimp only at hSw); have q0 := (k0.pure hSw).at 0 rfl; clear hSw; go_simp; (try with_reducible rfl))
          try simp only [Act.put, List.setIfInBounds_toArray, List.set_cons_zero, List.set_cons_succ]
          refine takeH 1 25 (v := ?_) rfl rfl (by kernel_rfl) (by kernel_rfl) (by kernel_rfl) (fun _ _ _ h => h) (Or.inl ⟨by kernel_rfl, ?_⟩) hHeld ?_
          rotate_left 1
          · (intro v hSw; (try dsimp only at hSw); clear hSw; go_simp; (try with_reducible rfl))
          try simp only [Act.put, List.setIfInBounds_toArray, List.set_cons_zero, List.set_cons_succ]
          refine takeH 2 26 (v := ?_) rfl rfl (by kernel_rfl) (by kernel_rfl) (by kernel_rfl) (fun _ _ _ h => h) (Or.inl ⟨by kernel_rfl, ?_⟩) hHeld ?_
          rotate_left 1
          · (intro v hSw; (try dsimp only at hSw); clear hSw; go_simp; (try with_reducible rfl))
          try simp only [Act.put, List.setIfInBounds_toArray, List.set_cons_zero, List.set_cons_succ]
          refine takeH 3 27 (v := ?_) rfl rfl (by kernel_rfl) (by kernel_rfl) (by kernel_rfl) (fun _ _ _ h => h) (Or.inl ⟨by kernel_rfl, ?_⟩) hHeld ?_
          rotate_left 1
          · (intro v hSw; (try dsimp only at hSw); have q0 := (D0.pure hSw).c0; clear hSw; go_simp; (try with_reducible rfl))
          try simp only [Act.put, List.setIfInBounds_toArray, List.set_cons_zero, List.set_cons_succ]
          refine takeH 4 28 (v := ?_) rfl rfl (by kernel_rfl) (by kernel_rfl) (by kernel_rfl) (fun _ _ _ h => h) (Or.inl ⟨by kernel_rfl, ?_⟩) hHeld ?_
          rotate_left 1
          · (intro v hSw; (try dsimp only at hSw); have q0 := (k1.pure hSw).at 0 rfl; clear hSw; go_simp; (try with_reducible rfl))
          try simp only [Act.put, List.setIfInBounds_toArray, List.set_cons_zero, List.set_cons_succ]
          refine takeH 5 29 (v := ?_) rfl rfl (by kernel_rfl) (by kernel_rfl) (by kernel_rfl) (fun _ _ _ h => h) (Or.inl ⟨by kernel_rfl, ?_⟩) hHeld ?_
          rotate_left 1
          · (intro v hSw; (try dsimp only at hSw); have hlk := MapG.look_ok_run filesT (D0.2.1.pure hSw) (u := x) hx; rw [hfl] at hlk; simp only [Option.getD_some, Option.getD_none, Option.isSome_some, Option.isSome_none, evF] at hlk; clear hSw; go_simp; (try with_reducible rfl))
          try simp only [Act.put, List.setIfInBounds_toArray, List.set_cons_zero, List.set_cons_succ]
          refine takeH 6 23 (v := ?_) rfl rfl (by kernel_rfl) (by kernel_rfl) (by kernel_rfl) (fun _ _ _ h => h) (Or.inl ⟨by kernel_rfl, ?_⟩) hHeld ?_
          rotate_left 1
          · (intro v hSw; (try dsimp only at hSw); clear hSw; go_simp; (try with_reducible rfl))
          try simp only [Act.put, List.setIfInBounds_toArray, List.set_cons_zero, List.set_cons_succ]
          refine takeH 7 30 (v := ?_) rfl rfl (by kernel_rfl) (by kernel_rfl) (by kernel_rfl) (fun _ _ _ h => h) (Or.inl ⟨by kernel_rfl, ?_⟩) hHeld ?_
          rotate_left 1
          · (intro v hSw; (try dsimp only at hSw); clear hSw; go_simp; (try with_reducible rfl))
          try simp only [Act.put, List.setIfInBounds_toArray, List.set_cons_zero, List.set_cons_succ]
          refine takeH 8 31 (v := ?_) rfl rfl (by kernel_rfl) (by kernel_rfl) (by kernel_rfl) (fun _ _ _ h => h) (Or.inl ⟨by kernel_rfl, ?_⟩) hHeld ?_
          rotate_left 1
          · (intro v hSw; (try dsimp only at hSw); clear hSw; go_simp; (try with_reducible rfl))
          try simp only [Act.put, List.setIfInBounds_toArray, List.set_cons_zero, List.set_cons_succ]
          refine wpAnyH_ready (rs := [9]) (by kernel_rfl) (by simp) ?_
          refine AllReadyH.cons rfl (fun K hK => ?_) AllReadyH.nil
          go_simp
          have hb : Below W.heap.size W ((W.alloc (.cells #[.string ByteArray.empty, .int .i64 0] 72)).drew) := ((Below.refl _ W).alloc (Nat.le_refl _) _).drew
          refine hK.out _ _ hb (fun hHeld => ?_)
          clear hK K
          try simp only [Act.put, List.setIfInBounds_toArray, List.set_cons_zero, List.set_cons_succ]
          refine wpAnyH_ready (rs := [10]) (by kernel_rfl) (by simp) ?_
          refine AllReadyH.cons rfl (fun K hK => ?_) AllReadyH.nil
          go_simp
          have hb : Below W.heap.size W ((W.alloc (.cells #[.string f.b, .int .i64 f.s] 72)).drew) := ((Below.refl _ W).alloc (Nat.le_refl _) _).drew
          refine hK.out _ _ hb (fun hHeld => ?_)
          clear hK K
          try simp only [Act.put, List.setIfInBounds_toArray, List.set_cons_zero, List.set_cons_succ]
          refine wpAnyH_ready (rs := [11]) (by kernel_rfl) (by simp) ?_
          refine AllReadyH.cons rfl (fun K hK => ?_) AllReadyH.nil
          go_simp
          refine hK.out _ _ hb (fun hHeld => ?_)
          clear hK K
          try simp only [Act.put, List.setIfInBounds_toArray, List.set_cons_zero, List.set_cons_succ]
          refine wpAnyH_done (by kernel_rfl) ?_ _
          have hT1 := hT0.trans (hb.mono hT0.size)
          obtain ⟨W1, hW1⟩ : ∃ W1, W1 = (W.alloc (.cells #[.string f.b, .int .i64 f.s] 72)).drew := ⟨_, rfl⟩
          have kf : Blk W1 W.heap.size [.string f.b, .int .i64 f.s] := by rw [hW1]; exact (Blk.new W [.string f.b, .int .i64 f.s] 72).drew
          rw [← hW1] at hb hT1 ⊢
          clear hHeld hW1
          have D1 := D0.pure hb
          have kf0 := kf.at 0 rfl
          have m0 := k0.pure hb; have n0 := m0.at 0 rfl
          have m1 := k1.pure hb; have n1 := m1.at 0 rfl
          have m2 := k2.pure hb; have n2 := m2.at 0 rfl
          have hact := act_any W1 d b s 51 #[.pointer (some ⟨w.heap.size, 0, none⟩), .pointer (some ⟨w.heap.size + 1, 0, none⟩), .pointer (some ⟨W.heap.size, 0, none⟩), .pointer (some ⟨w.heap.size + 1 + 1, 0, none⟩)] false (setF (delF s.L x) ⟨y, f.b, f.s⟩) D1 ho.left hF (fun u l hu hU => re1_any u d b { s with left := l } ⟨hu, ho.rise, hL⟩ (kf.upd hU (by omega)) (m0.upd hU (by omega)) (m1.upd hU (by omega)) (m2.upd hU (by omega)) (by omega) (by omega) (by omega) (by omega) hx hy)
          go_wp2_with (first | (go_at_call 47; (with_reducible refine hact.mono ?_); clear hact; rintro e w2 ⟨rfl, g1, g2⟩))
          go_ret
          exact ⟨rfl, g1, (Upd.of_below hT1).trans g2 (fun i hi _ => hi)⟩
      · have e1 : reD s x y = (s, 2) := by unfold reD; rw [if_neg (by rw [hoff]; simp), if_pos (.inr qy)]
        rw [e1]
        have hmx : Calls Try.prog 46 #[.string x] W fun e w2 => e = .returned (.bool true) ∧ W = w2 := (may_any W x).mono (fun e w2 ⟨p, q⟩ => ⟨by rw [p, decide_eq_true qx], q⟩)
        have hmy : Calls Try.prog 46 #[.string y] W fun e w2 => e = .returned (.bool false) ∧ W = w2 := (may_any W y).mono (fun e w2 ⟨p, q⟩ => ⟨by rw [p, decide_eq_false qy], q⟩)
        go_enter Try.func27, Try.ntmps27
        go_wp2_with (first | (go_at_call 45; rw [← hW'.out]; (with_reducible refine hst.mono ?_); rintro e w1 ⟨rfl, rfl⟩) | (go_at_call 46; (first | (with_reducible refine hmx.mono ?_) | (with_reducible refine hmy.mono ?_)); rintro e w2 ⟨rfl, rfl⟩))
        go_ret
        exact ⟨rfl, D0, Upd.of_below hT0⟩
    · have e1 : reD s x y = (s, 2) := by unfold reD; rw [if_neg (by rw [hoff]; simp), if_pos (.inl qx)]
      rw [e1]
      have hmx : Calls Try.prog 46 #[.string x] W fun e w2 => e = .returned (.bool false) ∧ W = w2 := (may_any W x).mono (fun e w2 ⟨p, q⟩ => ⟨by rw [p, decide_eq_false qx], q⟩)
      go_enter Try.func27, Try.ntmps27
      go_wp2_with (first | (go_at_call 45; rw [← hW'.out]; (with_reducible refine hst.mono ?_); rintro e w1 ⟨rfl, rfl⟩) | (go_at_call 46; (with_reducible refine hmx.mono ?_); rintro e w2 ⟨rfl, rfl⟩))
      go_ret
      exact ⟨rfl, D0, Upd.of_below hT0⟩
  · have hc3 := D0.c3
    rw [hoff] at hc3
    have hst := state_ok W d b true D0.c0 hc3
    have e1 : reD s x y = (s, 100) := by unfold reD; rw [if_pos hoff]
    rw [e1]
    go_enter Try.func27, Try.ntmps27
    go_wp2_with (first | (go_at_call 45; rw [← hW'.out]; (with_reducible refine hst.mono ?_); rintro e w1 ⟨rfl, rfl⟩))
    go_ret
    exact ⟨rfl, D0, Upd.of_below hT0⟩
set_option maxRecDepth 100000 in
set_option maxHeartbeats 6400000 in
theorem append_any (w : World) (d b : Nat) (s : DS) (x bb : ByteArray) (h : Disk w d b s) (ho : DOk s) (hL : s.L.length < 1000000) (hx : okS x) (hbb : bb.size ≤ 1000000) :
    Calls Try.prog 24 #[.pointer (some ⟨d, 0, none⟩), .string x, .string bb] w fun e w' => e = .returned (.int .i64 (apD s x bb).2) ∧ Disk w' d b (apD s x bb).1 ∧ Upd (DiskS d b) w w' := by
  have hdl := h.lt
  have hbl := hdl.2
  have hdl := hdl.1
  have hT0 : Below w.heap.size w (((w.alloc (.cells #[.pointer (some ⟨d, 0, none⟩)] 23)).alloc (.cells #[.string x] 9)).alloc (.cells #[.string bb] 9)) := ((((Below.refl _ _).alloc (by simp) _).alloc (by simp) _).alloc (by simp; omega) _)
  have k0 : Blk (((w.alloc (.cells #[.pointer (some ⟨d, 0, none⟩)] 23)).alloc (.cells #[.string x] 9)).alloc (.cells #[.string bb] 9)) (w.heap.size) [.pointer (some ⟨d, 0, none⟩)] := ((Blk.newAt w [.pointer (some ⟨d, 0, none⟩)] 23 (w.heap.size) (by simp)).alloc (.cells #[.string x] 9)).alloc (.cells #[.string bb] 9)
  have k1 : Blk (((w.alloc (.cells #[.pointer (some ⟨d, 0, none⟩)] 23)).alloc (.cells #[.string x] 9)).alloc (.cells #[.string bb] 9)) (w.heap.size + 1) [.string x] := (Blk.newAt (w.alloc (.cells #[.pointer (some ⟨d, 0, none⟩)] 23)) [.string x] 9 (w.heap.size + 1) (by simp)).alloc (.cells #[.string bb] 9)
  have k2 : Blk (((w.alloc (.cells #[.pointer (some ⟨d, 0, none⟩)] 23)).alloc (.cells #[.string x] 9)).alloc (.cells #[.string bb] 9)) (w.heap.size + 1 + 1) [.string bb] := Blk.newAt ((w.alloc (.cells #[.pointer (some ⟨d, 0, none⟩)] 23)).alloc (.cells #[.string x] 9)) [.string bb] 9 (w.heap.size + 1 + 1) (by simp)
  obtain ⟨W, hW⟩ : ∃ W, W = (((w.alloc (.cells #[.pointer (some ⟨d, 0, none⟩)] 23)).alloc (.cells #[.string x] 9)).alloc (.cells #[.string bb] 9)) := ⟨_, rfl⟩
  rw [← hW] at hT0 k0 k1 k2
  have hW' := Lib.hid hW; clear hW
  have D0 := h.pure hT0
  have hwl := hT0.size
  have k0l := k0.lt
  have j0 := k0.at 0 rfl
  have k1l := k1.lt
  have j1 := k1.at 0 rfl
  have k2l := k2.lt
  have j2 := k2.at 0 rfl
  have hmf : ∀ (fn : Fn) (first cap : Array Value) (w : World), (Instr.makeFunc fn first cap).run Try.prog w = .ok (.func fn first cap) w := fun _ _ _ _ => rfl
  have hF : ∀ (args : Array Value) (u : World), (callFunc 48 args).run Try.prog u = .ok (.enter 48 args) u := fun _ _ => by kernel_rfl
  cases hoff : s.off
  · have hc3 := D0.c3
    rw [hoff] at hc3
    have hst := state_ok W d b false D0.c0 hc3
    by_cases qx : MayN x
    · have hgd : (flH s.L x).getD (ByteArray.empty, 0) = (oldB s.L x, oldS s.L x) := by unfold flH oldB oldS; cases getF s.L x <;> rfl
      have hz := szF_old (L := s.L) x
      have hz2 : szF s.L x ≤ 1048576 := by unfold szF; cases hg : getF s.L x with | none => simp | some f => exact (by have := (ho.file f (getF_some hg).1).2.2.2; simp; omega)
      have hu1 := usedF_nonneg s.L
      have hu2 := ho.room
      have hu3 := hu2.2
      have hu2 := hu2.1
      have e0 : apD s x bb = if 1048576 - szF s.L x < bb.size then (s, 3) else if s.room - usedF s.L < bb.size then (s, 6) else burnE s (setF s.L ⟨x, oldB s.L x ++ bb, oldS s.L x⟩) true := by unfold apD; rw [if_neg (by rw [hoff]; simp), if_neg (fun q => q qx)]
      rw [e0]
      obtain ⟨fb, hfb⟩ : ∃ fb, oldB s.L x = fb := ⟨_, rfl⟩
      obtain ⟨fs, hfs⟩ : ∃ fs, oldS s.L x = fs := ⟨_, rfl⟩
      obtain ⟨U, hU0⟩ : ∃ U, usedF s.L = U := ⟨_, rfl⟩
      rw [hfb, hfs] at hgd ⊢
      rw [hfb] at hz
      rw [← hz] at hz2 ⊢
      rw [hU0] at hu1 hu2 ⊢
      have hUs := Lib.hid hU0; clear hU0
      clear e0 hz hfb hfs
      have hmx : Calls Try.prog 46 #[.string x] W fun e w2 => e = .returned (.bool true) ∧ W = w2 := (may_any W x).mono (fun e w2 ⟨p, q⟩ => ⟨by rw [p, decide_eq_true qx], q⟩)
      by_cases c1 : 1048576 - (fb.size : Int) < bb.size
      · skip
        rw [if_pos c1]
        go_enter Try.func24, Try.ntmps24
        go_wp2_with (first | (go_at_call 45; rw [← hW'.out]; (with_reducible refine hst.mono ?_); rintro e w1 ⟨rfl, rfl⟩) | (go_at_call 46; (with_reducible refine hmx.mono ?_); rintro e w2 ⟨rfl, rfl⟩))
        clear hmx
        have hb := below_refl_dk W
        refine wp_region_held_drew (S := fun v => Below W.heap.size W v) (by kernel_rfl) hb (fun hHeld => ?_)
        refine takeH 0 17 (v := ?_) rfl rfl (by kernel_rfl) (by kernel_rfl) (by kernel_rfl) (fun _ _ _ h => h) (Or.inl ⟨by kernel_rfl, ?_⟩) hHeld ?_
        rotate_left 1
        · (intro v hSw; (try dsimp only at hSw); have q0 := (k0.pure hSw).at 0 rfl; clear hSw; go_simp; (try with_reducible rfl))
        try simp only [Act.put, List.setIfInBounds_toArray, List.set_cons_zero, List.set_cons_succ]
        refine takeH 1 18 (v := ?_) rfl rfl (by kernel_rfl) (by kernel_rfl) (by kernel_rfl) (fun _ _ _ h => h) (Or.inl ⟨by kernel_rfl, ?_⟩) hHeld ?_
        rotate_left 1
        · (intro v hSw; (try dsimp only at hSw); clear hSw; go_simp; (try with_reducible rfl))
        try simp only [Act.put, List.setIfInBounds_toArray, List.set_cons_zero, List.set_cons_succ]
        refine takeH 2 19 (v := ?_) rfl rfl (by kernel_rfl) (by kernel_rfl) (by kernel_rfl) (fun _ _ _ h => h) (Or.inl ⟨by kernel_rfl, ?_⟩) hHeld ?_
        rotate_left 1
        · (intro v hSw; (try dsimp only at hSw); clear hSw; go_simp; (try with_reducible rfl))
        try simp only [Act.put, List.setIfInBounds_toArray, List.set_cons_zero, List.set_cons_succ]
        refine takeH 3 20 (v := ?_) rfl rfl (by kernel_rfl) (by kernel_rfl) (by kernel_rfl) (fun _ _ _ h => h) (Or.inl ⟨by kernel_rfl, ?_⟩) hHeld ?_
        rotate_left 1
        · (intro v hSw; (try dsimp only at hSw); have q0 := (D0.pure hSw).c0; clear hSw; go_simp; (try with_reducible rfl))
        try simp only [Act.put, List.setIfInBounds_toArray, List.set_cons_zero, List.set_cons_succ]
        refine takeH 4 21 (v := ?_) rfl rfl (by kernel_rfl) (by kernel_rfl) (by kernel_rfl) (fun _ _ _ h => h) (Or.inl ⟨by kernel_rfl, ?_⟩) hHeld ?_
        rotate_left 1
        · (intro v hSw; (try dsimp only at hSw); have q0 := (k1.pure hSw).at 0 rfl; clear hSw; go_simp; (try with_reducible rfl))
        try simp only [Act.put, List.setIfInBounds_toArray, List.set_cons_zero, List.set_cons_succ]
        refine takeH 5 22 (v := ?_) rfl rfl (by kernel_rfl) (by kernel_rfl) (by kernel_rfl) (fun _ _ _ h => h) (Or.inl ⟨by kernel_rfl, ?_⟩) hHeld ?_
        rotate_left 1
        · (intro v hSw; (try dsimp only at hSw); have hlk := MapG.look_run filesT (D0.2.1.pure hSw) (u := x) hx; rw [hgd] at hlk; simp only [evF] at hlk; clear hSw; go_simp; (try with_reducible rfl))
        try simp only [Act.put, List.setIfInBounds_toArray, List.set_cons_zero, List.set_cons_succ]
        refine wpAnyH_ready (rs := [6]) (by kernel_rfl) (by simp) ?_
        refine AllReadyH.cons rfl (fun K hK => ?_) AllReadyH.nil
        go_simp
        have hb : Below W.heap.size W ((W.alloc (.cells #[.string ByteArray.empty, .int .i64 0] 72)).drew) := ((Below.refl _ W).alloc (Nat.le_refl _) _).drew
        refine hK.out _ _ hb (fun hHeld => ?_)
        clear hK K
        try simp only [Act.put, List.setIfInBounds_toArray, List.set_cons_zero, List.set_cons_succ]
        refine wpAnyH_ready (rs := [7]) (by kernel_rfl) (by simp) ?_
        refine AllReadyH.cons rfl (fun K hK => ?_) AllReadyH.nil
        go_simp
        have hb : Below W.heap.size W ((W.alloc (.cells #[.string fb, .int .i64 fs] 72)).drew) := ((Below.refl _ W).alloc (Nat.le_refl _) _).drew
        refine hK.out _ _ hb (fun hHeld => ?_)
        clear hK K
        try simp only [Act.put, List.setIfInBounds_toArray, List.set_cons_zero, List.set_cons_succ]
        refine wpAnyH_done (by kernel_rfl) ?_ _
        obtain ⟨V, hV⟩ : ∃ V, V = (W.alloc (.cells #[.string fb, .int .i64 fs] 72)).drew := ⟨_, rfl⟩
        have kf : Blk V W.heap.size [.string fb, .int .i64 fs] := by rw [hV]; exact (Blk.new W [.string fb, .int .i64 fs] 72).drew
        rw [← hV] at hb ⊢
        clear hHeld hV
        have hT1 := hT0.trans (hb.mono hT0.size)
        have DV := D0.pure hb
        have v0 := k0.pure hb; have u0 := v0.at 0 rfl
        have v1 := k1.pure hb; have u1 := v1.at 0 rfl
        have v2 := k2.pure hb; have u2 := v2.at 0 rfl
        have kf0 := kf.at 0 rfl
        clear hb
        go_wp2
        go_ret
        exact ⟨rfl, h.pure hT1, Upd.of_below hT1⟩
      · by_cases c2 : s.room - U < bb.size
        · skip
          rw [if_neg c1, if_pos c2]
          go_enter Try.func24, Try.ntmps24
          go_wp2_with (first | (go_at_call 45; rw [← hW'.out]; (with_reducible refine hst.mono ?_); rintro e w1 ⟨rfl, rfl⟩) | (go_at_call 46; (with_reducible refine hmx.mono ?_); rintro e w2 ⟨rfl, rfl⟩))
          clear hmx
          have hb := below_refl_dk W
          refine wp_region_held_drew (S := fun v => Below W.heap.size W v) (by kernel_rfl) hb (fun hHeld => ?_)
          refine takeH 0 17 (v := ?_) rfl rfl (by kernel_rfl) (by kernel_rfl) (by kernel_rfl) (fun _ _ _ h => h) (Or.inl ⟨by kernel_rfl, ?_⟩) hHeld ?_
          rotate_left 1
          · (intro v hSw; (try dsimp only at hSw); have q0 := (k0.pure hSw).at 0 rfl; clear hSw; go_simp; (try with_reducible rfl))
          try simp only [Act.put, List.setIfInBounds_toArray, List.set_cons_zero, List.set_cons_succ]
          refine takeH 1 18 (v := ?_) rfl rfl (by kernel_rfl) (by kernel_rfl) (by kernel_rfl) (fun _ _ _ h => h) (Or.inl ⟨by kernel_rfl, ?_⟩) hHeld ?_
          rotate_left 1
          · (intro v hSw; (try dsimp only at hSw); clear hSw; go_simp; (try with_reducible rfl))
          try simp only [Act.put, List.setIfInBounds_toArray, List.set_cons_zero, List.set_cons_succ]
          refine takeH 2 19 (v := ?_) rfl rfl (by kernel_rfl) (by kernel_rfl) (by kernel_rfl) (fun _ _ _ h => h) (Or.inl ⟨by kernel_rfl, ?_⟩) hHeld ?_
          rotate_left 1
          · (intro v hSw; (try dsimp only at hSw); clear hSw; go_simp; (try with_reducible rfl))
          try simp only [Act.put, List.setIfInBounds_toArray, List.set_cons_zero, List.set_cons_succ]
          refine takeH 3 20 (v := ?_) rfl rfl (by kernel_rfl) (by kernel_rfl) (by kernel_rfl) (fun _ _ _ h => h) (Or.inl ⟨by kernel_rfl, ?_⟩) hHeld ?_
          rotate_left 1
          · (intro v hSw; (try dsimp only at hSw); have q0 := (D0.pure hSw).c0; clear hSw; go_simp; (try with_reducible rfl))
          try simp only [Act.put, List.setIfInBounds_toArray, List.set_cons_zero, List.set_cons_succ]
          refine takeH 4 21 (v := ?_) rfl rfl (by kernel_rfl) (by kernel_rfl) (by kernel_rfl) (fun _ _ _ h => h) (Or.inl ⟨by kernel_rfl, ?_⟩) hHeld ?_
          rotate_left 1
          · (intro v hSw; (try dsimp only at hSw); have q0 := (k1.pure hSw).at 0 rfl; clear hSw; go_simp; (try with_reducible rfl))
          try simp only [Act.put, List.setIfInBounds_toArray, List.set_cons_zero, List.set_cons_succ]
          refine takeH 5 22 (v := ?_) rfl rfl (by kernel_rfl) (by kernel_rfl) (by kernel_rfl) (fun _ _ _ h => h) (Or.inl ⟨by kernel_rfl, ?_⟩) hHeld ?_
          rotate_left 1
          · (intro v hSw; (try dsimp only at hSw); have hlk := MapG.look_run filesT (D0.2.1.pure hSw) (u := x) hx; rw [hgd] at hlk; simp only [evF] at hlk; clear hSw; go_simp; (try with_reducible rfl))
          try simp only [Act.put, List.setIfInBounds_toArray, List.set_cons_zero, List.set_cons_succ]
          refine wpAnyH_ready (rs := [6]) (by kernel_rfl) (by simp) ?_
          refine AllReadyH.cons rfl (fun K hK => ?_) AllReadyH.nil
          go_simp
          have hb : Below W.heap.size W ((W.alloc (.cells #[.string ByteArray.empty, .int .i64 0] 72)).drew) := ((Below.refl _ W).alloc (Nat.le_refl _) _).drew
          refine hK.out _ _ hb (fun hHeld => ?_)
          clear hK K
          try simp only [Act.put, List.setIfInBounds_toArray, List.set_cons_zero, List.set_cons_succ]
          refine wpAnyH_ready (rs := [7]) (by kernel_rfl) (by simp) ?_
          refine AllReadyH.cons rfl (fun K hK => ?_) AllReadyH.nil
          go_simp
          have hb : Below W.heap.size W ((W.alloc (.cells #[.string fb, .int .i64 fs] 72)).drew) := ((Below.refl _ W).alloc (Nat.le_refl _) _).drew
          refine hK.out _ _ hb (fun hHeld => ?_)
          clear hK K
          try simp only [Act.put, List.setIfInBounds_toArray, List.set_cons_zero, List.set_cons_succ]
          refine wpAnyH_done (by kernel_rfl) ?_ _
          obtain ⟨V, hV⟩ : ∃ V, V = (W.alloc (.cells #[.string fb, .int .i64 fs] 72)).drew := ⟨_, rfl⟩
          have kf : Blk V W.heap.size [.string fb, .int .i64 fs] := by rw [hV]; exact (Blk.new W [.string fb, .int .i64 fs] 72).drew
          rw [← hV] at hb ⊢
          clear hHeld hV
          have hT1 := hT0.trans (hb.mono hT0.size)
          have DV := D0.pure hb
          have v0 := k0.pure hb; have u0 := v0.at 0 rfl
          have v1 := k1.pure hb; have u1 := v1.at 0 rfl
          have v2 := k2.pure hb; have u2 := v2.at 0 rfl
          have kf0 := kf.at 0 rfl
          clear hb
          go_wp2
          have hb := below_refl_dk V
          refine wp_region_held_drew (S := fun v => Below V.heap.size V v) (by kernel_rfl) hb (fun hHeld => ?_)
          refine takeH 0 30 (v := ?_) rfl rfl (by kernel_rfl) (by kernel_rfl) (by kernel_rfl) (fun _ _ _ h => h) (Or.inl ⟨by kernel_rfl, ?_⟩) hHeld ?_
          rotate_left 1
          · (intro v hSw; (try dsimp only at hSw); have q0 := (v2.pure hSw).at 0 rfl; clear hSw; go_simp; (try with_reducible rfl))
          try simp only [Act.put, List.setIfInBounds_toArray, List.set_cons_zero, List.set_cons_succ]
          refine takeH 1 31 (v := ?_) rfl rfl (by kernel_rfl) (by kernel_rfl) (by kernel_rfl) (fun _ _ _ h => h) (Or.inl ⟨by kernel_rfl, ?_⟩) hHeld ?_
          rotate_left 1
          · (intro v hSw; (try dsimp only at hSw); clear hSw; go_simp; (try with_reducible rfl))
          try simp only [Act.put, List.setIfInBounds_toArray, List.set_cons_zero, List.set_cons_succ]
          refine takeH 2 32 (v := ?_) rfl rfl (by kernel_rfl) (by kernel_rfl) (by kernel_rfl) (fun _ _ _ h => h) (Or.inl ⟨by kernel_rfl, ?_⟩) hHeld ?_
          rotate_left 1
          · (intro v hSw; (try dsimp only at hSw); have q0 := (v0.pure hSw).at 0 rfl; clear hSw; go_simp; (try with_reducible rfl))
          try simp only [Act.put, List.setIfInBounds_toArray, List.set_cons_zero, List.set_cons_succ]
          refine takeH 3 33 (v := ?_) rfl rfl (by kernel_rfl) (by kernel_rfl) (by kernel_rfl) (fun _ _ _ h => h) (Or.inl ⟨by kernel_rfl, ?_⟩) hHeld ?_
          rotate_left 1
          · (intro v hSw; (try dsimp only at hSw); clear hSw; go_simp; (try with_reducible rfl))
          try simp only [Act.put, List.setIfInBounds_toArray, List.set_cons_zero, List.set_cons_succ]
          refine takeH 4 34 (v := ?_) rfl rfl (by kernel_rfl) (by kernel_rfl) (by kernel_rfl) (fun _ _ _ h => h) (Or.inl ⟨by kernel_rfl, ?_⟩) hHeld ?_
          rotate_left 1
          · (intro v hSw; (try dsimp only at hSw); clear hSw; go_simp; (try with_reducible rfl))
          try simp only [Act.put, List.setIfInBounds_toArray, List.set_cons_zero, List.set_cons_succ]
          refine takeH 5 35 (v := ?_) rfl rfl (by kernel_rfl) (by kernel_rfl) (by kernel_rfl) (fun _ _ _ h => h) (Or.inl ⟨by kernel_rfl, ?_⟩) hHeld ?_
          rotate_left 1
          · (intro v hSw; (try dsimp only at hSw); have q0 := (DV.pure hSw).c1; clear hSw; go_simp; (try with_reducible rfl))
          try simp only [Act.put, List.setIfInBounds_toArray, List.set_cons_zero, List.set_cons_succ]
          refine takeH 6 36 (v := ?_) rfl rfl (by kernel_rfl) (by kernel_rfl) (by kernel_rfl) (fun _ _ _ h => h) (Or.inl ⟨by kernel_rfl, ?_⟩) hHeld ?_
          rotate_left 1
          · (intro v hSw; (try dsimp only at hSw); have q0 := (v0.pure hSw).at 0 rfl; clear hSw; go_simp; (try with_reducible rfl))
          try simp only [Act.put, List.setIfInBounds_toArray, List.set_cons_zero, List.set_cons_succ]
          refine wpAnyH_ready (rs := [7]) (by kernel_rfl) (by simp) ?_
          refine AllReadyH.cons rfl (fun K hK => ?_) AllReadyH.nil
          go_simp
          (go_at_call 16; refine (used_any V.drew d b s (DV.pure (below_refl_dk V)) ho).mono ?_; rw [hUs.out]; rintro e w5 ⟨rfl, hB5⟩)
          have hb : Below V.heap.size V w5 := (below_refl_dk V).trans hB5
          refine hK.out _ _ hb (fun hHeld => ?_)
          clear hK K
          try simp only [Act.put, List.setIfInBounds_toArray, List.set_cons_zero, List.set_cons_succ]
          refine takeH 8 38 (v := ?_) rfl rfl (by kernel_rfl) (by kernel_rfl) (by kernel_rfl) (fun _ _ _ h => h) (Or.inl ⟨by kernel_rfl, ?_⟩) hHeld ?_
          rotate_left 1
          · (intro v hSw; (try dsimp only at hSw); have hwr : IntKind.i64.wrap (s.room - U) = s.room - U := IntWalk.i64_in _ (by omega); clear hSw; go_simp; (try with_reducible rfl))
          try simp only [Act.put, List.setIfInBounds_toArray, List.set_cons_zero, List.set_cons_succ]
          refine takeH 9 39 (v := ?_) rfl rfl (by kernel_rfl) (by kernel_rfl) (by kernel_rfl) (fun _ _ _ h => h) (Or.inl ⟨by kernel_rfl, ?_⟩) hHeld ?_
          rotate_left 1
          · (intro v hSw; (try dsimp only at hSw); clear hSw; go_simp; (try with_reducible rfl))
          try simp only [Act.put, List.setIfInBounds_toArray, List.set_cons_zero, List.set_cons_succ]
          refine wpAnyH_done (by kernel_rfl) ?_ _
          have hT2 := hT1.trans (hb.mono hT1.size)
          clear hHeld
          go_wp2
          go_ret
          exact ⟨rfl, h.pure hT2, Upd.of_below hT2⟩
        · skip
          rw [if_neg c1, if_neg c2]
          go_enter Try.func24, Try.ntmps24
          go_wp2_with (first | (go_at_call 45; rw [← hW'.out]; (with_reducible refine hst.mono ?_); rintro e w1 ⟨rfl, rfl⟩) | (go_at_call 46; (with_reducible refine hmx.mono ?_); rintro e w2 ⟨rfl, rfl⟩))
          clear hmx
          have hb := below_refl_dk W
          refine wp_region_held_drew (S := fun v => Below W.heap.size W v) (by kernel_rfl) hb (fun hHeld => ?_)
          refine takeH 0 17 (v := ?_) rfl rfl (by kernel_rfl) (by kernel_rfl) (by kernel_rfl) (fun _ _ _ h => h) (Or.inl ⟨by kernel_rfl, ?_⟩) hHeld ?_
          rotate_left 1
          · (intro v hSw; (try dsimp only at hSw); have q0 := (k0.pure hSw).at 0 rfl; clear hSw; go_simp; (try with_reducible rfl))
          try simp only [Act.put, List.setIfInBounds_toArray, List.set_cons_zero, List.set_cons_succ]
          refine takeH 1 18 (v := ?_) rfl rfl (by kernel_rfl) (by kernel_rfl) (by kernel_rfl) (fun _ _ _ h => h) (Or.inl ⟨by kernel_rfl, ?_⟩) hHeld ?_
          rotate_left 1
          · (intro v hSw; (try dsimp only at hSw); clear hSw; go_simp; (try with_reducible rfl))
          try simp only [Act.put, List.setIfInBounds_toArray, List.set_cons_zero, List.set_cons_succ]
          refine takeH 2 19 (v := ?_) rfl rfl (by kernel_rfl) (by kernel_rfl) (by kernel_rfl) (fun _ _ _ h => h) (Or.inl ⟨by kernel_rfl, ?_⟩) hHeld ?_
          rotate_left 1
          · (intro v hSw; (try dsimp only at hSw); clear hSw; go_simp; (try with_reducible rfl))
          try simp only [Act.put, List.setIfInBounds_toArray, List.set_cons_zero, List.set_cons_succ]
          refine takeH 3 20 (v := ?_) rfl rfl (by kernel_rfl) (by kernel_rfl) (by kernel_rfl) (fun _ _ _ h => h) (Or.inl ⟨by kernel_rfl, ?_⟩) hHeld ?_
          rotate_left 1
          · (intro v hSw; (try dsimp only at hSw); have q0 := (D0.pure hSw).c0; clear hSw; go_simp; (try with_reducible rfl))
          try simp only [Act.put, List.setIfInBounds_toArray, List.set_cons_zero, List.set_cons_succ]
          refine takeH 4 21 (v := ?_) rfl rfl (by kernel_rfl) (by kernel_rfl) (by kernel_rfl) (fun _ _ _ h => h) (Or.inl ⟨by kernel_rfl, ?_⟩) hHeld ?_
          rotate_left 1
          · (intro v hSw; (try dsimp only at hSw); have q0 := (k1.pure hSw).at 0 rfl; clear hSw; go_simp; (try with_reducible rfl))
          try simp only [Act.put, List.setIfInBounds_toArray, List.set_cons_zero, List.set_cons_succ]
          refine takeH 5 22 (v := ?_) rfl rfl (by kernel_rfl) (by kernel_rfl) (by kernel_rfl) (fun _ _ _ h => h) (Or.inl ⟨by kernel_rfl, ?_⟩) hHeld ?_
          rotate_left 1
          · (intro v hSw; (try dsimp only at hSw); have hlk := MapG.look_run filesT (D0.2.1.pure hSw) (u := x) hx; rw [hgd] at hlk; simp only [evF] at hlk; clear hSw; go_simp; (try with_reducible rfl))
          try simp only [Act.put, List.setIfInBounds_toArray, List.set_cons_zero, List.set_cons_succ]
          refine wpAnyH_ready (rs := [6]) (by kernel_rfl) (by simp) ?_
          refine AllReadyH.cons rfl (fun K hK => ?_) AllReadyH.nil
          go_simp
          have hb : Below W.heap.size W ((W.alloc (.cells #[.string ByteArray.empty, .int .i64 0] 72)).drew) := ((Below.refl _ W).alloc (Nat.le_refl _) _).drew
          refine hK.out _ _ hb (fun hHeld => ?_)
          clear hK K
          try simp only [Act.put, List.setIfInBounds_toArray, List.set_cons_zero, List.set_cons_succ]
          refine wpAnyH_ready (rs := [7]) (by kernel_rfl) (by simp) ?_
          refine AllReadyH.cons rfl (fun K hK => ?_) AllReadyH.nil
          go_simp
          have hb : Below W.heap.size W ((W.alloc (.cells #[.string fb, .int .i64 fs] 72)).drew) := ((Below.refl _ W).alloc (Nat.le_refl _) _).drew
          refine hK.out _ _ hb (fun hHeld => ?_)
          clear hK K
          try simp only [Act.put, List.setIfInBounds_toArray, List.set_cons_zero, List.set_cons_succ]
          refine wpAnyH_done (by kernel_rfl) ?_ _
          obtain ⟨V, hV⟩ : ∃ V, V = (W.alloc (.cells #[.string fb, .int .i64 fs] 72)).drew := ⟨_, rfl⟩
          have kf : Blk V W.heap.size [.string fb, .int .i64 fs] := by rw [hV]; exact (Blk.new W [.string fb, .int .i64 fs] 72).drew
          rw [← hV] at hb ⊢
          clear hHeld hV
          have hT1 := hT0.trans (hb.mono hT0.size)
          have DV := D0.pure hb
          have v0 := k0.pure hb; have u0 := v0.at 0 rfl
          have v1 := k1.pure hb; have u1 := v1.at 0 rfl
          have v2 := k2.pure hb; have u2 := v2.at 0 rfl
          have kf0 := kf.at 0 rfl
          clear hb
          go_wp2
          have hb := below_refl_dk V
          refine wp_region_held_drew (S := fun v => Below V.heap.size V v) (by kernel_rfl) hb (fun hHeld => ?_)
          refine takeH 0 30 (v := ?_) rfl rfl (by kernel_rfl) (by kernel_rfl) (by kernel_rfl) (fun _ _ _ h => h) (Or.inl ⟨by kernel_rfl, ?_⟩) hHeld ?_
          rotate_left 1
          · (intro v hSw; (try dsimp only at hSw); have q0 := (v2.pure hSw).at 0 rfl; clear hSw; go_simp; (try with_reducible rfl))
          try simp only [Act.put, List.setIfInBounds_toArray, List.set_cons_zero, List.set_cons_succ]
          refine takeH 1 31 (v := ?_) rfl rfl (by kernel_rfl) (by kernel_rfl) (by kernel_rfl) (fun _ _ _ h => h) (Or.inl ⟨by kernel_rfl, ?_⟩) hHeld ?_
          rotate_left 1
          · (intro v hSw; (try dsimp only at hSw); clear hSw; go_simp; (try with_reducible rfl))
          try simp only [Act.put, List.setIfInBounds_toArray, List.set_cons_zero, List.set_cons_succ]
          refine takeH 2 32 (v := ?_) rfl rfl (by kernel_rfl) (by kernel_rfl) (by kernel_rfl) (fun _ _ _ h => h) (Or.inl ⟨by kernel_rfl, ?_⟩) hHeld ?_
          rotate_left 1
          · (intro v hSw; (try dsimp only at hSw); have q0 := (v0.pure hSw).at 0 rfl; clear hSw; go_simp; (try with_reducible rfl))
          try simp only [Act.put, List.setIfInBounds_toArray, List.set_cons_zero, List.set_cons_succ]
          refine takeH 3 33 (v := ?_) rfl rfl (by kernel_rfl) (by kernel_rfl) (by kernel_rfl) (fun _ _ _ h => h) (Or.inl ⟨by kernel_rfl, ?_⟩) hHeld ?_
          rotate_left 1
          · (intro v hSw; (try dsimp only at hSw); clear hSw; go_simp; (try with_reducible rfl))
          try simp only [Act.put, List.setIfInBounds_toArray, List.set_cons_zero, List.set_cons_succ]
          refine takeH 4 34 (v := ?_) rfl rfl (by kernel_rfl) (by kernel_rfl) (by kernel_rfl) (fun _ _ _ h => h) (Or.inl ⟨by kernel_rfl, ?_⟩) hHeld ?_
          rotate_left 1
          · (intro v hSw; (try dsimp only at hSw); clear hSw; go_simp; (try with_reducible rfl))
          try simp only [Act.put, List.setIfInBounds_toArray, List.set_cons_zero, List.set_cons_succ]
          refine takeH 5 35 (v := ?_) rfl rfl (by kernel_rfl) (by kernel_rfl) (by kernel_rfl) (fun _ _ _ h => h) (Or.inl ⟨by kernel_rfl, ?_⟩) hHeld ?_
          rotate_left 1
          · (intro v hSw; (try dsimp only at hSw); have q0 := (DV.pure hSw).c1; clear hSw; go_simp; (try with_reducible rfl))
          try simp only [Act.put, List.setIfInBounds_toArray, List.set_cons_zero, List.set_cons_succ]
          refine takeH 6 36 (v := ?_) rfl rfl (by kernel_rfl) (by kernel_rfl) (by kernel_rfl) (fun _ _ _ h => h) (Or.inl ⟨by kernel_rfl, ?_⟩) hHeld ?_
          rotate_left 1
          · (intro v hSw; (try dsimp only at hSw); have q0 := (v0.pure hSw).at 0 rfl; clear hSw; go_simp; (try with_reducible rfl))
          try simp only [Act.put, List.setIfInBounds_toArray, List.set_cons_zero, List.set_cons_succ]
          refine wpAnyH_ready (rs := [7]) (by kernel_rfl) (by simp) ?_
          refine AllReadyH.cons rfl (fun K hK => ?_) AllReadyH.nil
          go_simp
          (go_at_call 16; refine (used_any V.drew d b s (DV.pure (below_refl_dk V)) ho).mono ?_; rw [hUs.out]; rintro e w5 ⟨rfl, hB5⟩)
          have hb : Below V.heap.size V w5 := (below_refl_dk V).trans hB5
          refine hK.out _ _ hb (fun hHeld => ?_)
          clear hK K
          try simp only [Act.put, List.setIfInBounds_toArray, List.set_cons_zero, List.set_cons_succ]
          refine takeH 8 38 (v := ?_) rfl rfl (by kernel_rfl) (by kernel_rfl) (by kernel_rfl) (fun _ _ _ h => h) (Or.inl ⟨by kernel_rfl, ?_⟩) hHeld ?_
          rotate_left 1
          · (intro v hSw; (try dsimp only at hSw); have hwr : IntKind.i64.wrap (s.room - U) = s.room - U := IntWalk.i64_in _ (by omega); clear hSw; go_simp; (try with_reducible rfl))
          try simp only [Act.put, List.setIfInBounds_toArray, List.set_cons_zero, List.set_cons_succ]
          refine takeH 9 39 (v := ?_) rfl rfl (by kernel_rfl) (by kernel_rfl) (by kernel_rfl) (fun _ _ _ h => h) (Or.inl ⟨by kernel_rfl, ?_⟩) hHeld ?_
          rotate_left 1
          · (intro v hSw; (try dsimp only at hSw); clear hSw; go_simp; (try with_reducible rfl))
          try simp only [Act.put, List.setIfInBounds_toArray, List.set_cons_zero, List.set_cons_succ]
          refine wpAnyH_done (by kernel_rfl) ?_ _
          have hT2 := hT1.trans (hb.mono hT1.size)
          clear hHeld
          have D1 := DV.pure hb
          have kf2 := kf.pure hb
          have m0 := v0.pure hb; have n0 := m0.at 0 rfl
          have m1 := v1.pure hb; have n1 := m1.at 0 rfl
          have m2 := v2.pure hb; have n2 := m2.at 0 rfl
          have hact := act_any w5 d b s 48 #[.pointer (some ⟨W.heap.size, 0, none⟩), .pointer (some ⟨w.heap.size + 1 + 1, 0, none⟩), .pointer (some ⟨w.heap.size, 0, none⟩), .pointer (some ⟨w.heap.size + 1, 0, none⟩)] true (setF s.L ⟨x, fb ++ bb, fs⟩) D1 ho.left hF (fun u l hu hU => ap1_any u d b { s with left := l } ⟨hu, ho.rise, hL⟩ (kf2.upd hU (by omega)) (m2.upd hU (by omega)) (m0.upd hU (by omega)) (m1.upd hU (by omega)) (by omega) (by omega) (by omega) (by omega) hx (by omega))
          go_wp2_with (first | (go_at_call 47; (with_reducible refine hact.mono ?_); clear hact; rintro e w6 ⟨rfl, g1, g2⟩))
          go_ret
          exact ⟨rfl, g1, (Upd.of_below hT2).trans g2 (fun i hi _ => hi)⟩
    · have e1 : apD s x bb = (s, 2) := by unfold apD; rw [if_neg (by rw [hoff]; simp), if_pos qx]
      rw [e1]
      have hmx : Calls Try.prog 46 #[.string x] W fun e w2 => e = .returned (.bool false) ∧ W = w2 := (may_any W x).mono (fun e w2 ⟨p, q⟩ => ⟨by rw [p, decide_eq_false qx], q⟩)
      go_enter Try.func24, Try.ntmps24
      go_wp2_with (first | (go_at_call 45; rw [← hW'.out]; (with_reducible refine hst.mono ?_); rintro e w1 ⟨rfl, rfl⟩) | (go_at_call 46; (with_reducible refine hmx.mono ?_); rintro e w2 ⟨rfl, rfl⟩))
      go_ret
      exact ⟨rfl, D0, Upd.of_below hT0⟩
  · have hc3 := D0.c3
    rw [hoff] at hc3
    have hst := state_ok W d b true D0.c0 hc3
    have e1 : apD s x bb = (s, 100) := by unfold apD; rw [if_pos hoff]
    rw [e1]
    go_enter Try.func24, Try.ntmps24
    go_wp2_with (first | (go_at_call 45; rw [← hW'.out]; (with_reducible refine hst.mono ?_); rintro e w1 ⟨rfl, rfl⟩))
    go_ret
    exact ⟨rfl, D0, Upd.of_below hT0⟩
end Go.Proofs.Ytgpdbifgbabnnaa
