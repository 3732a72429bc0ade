/- Package disk: the closures that Append, Sync, Cut, Rename and Remove hand to act. Conditions: the closures' variables are there, apart from the map. Written by gen_dkC.py. -/
import Derived.Test.YtgpdbifgbabnnaaDkB
import Derived.Test.YtgpdbifgbabnnaaMapR
namespace Go.Proofs.Ytgpdbifgbabnnaa
open Go.RowKit Go.Maps
set_option linter.unusedVariables false
set_option linter.unusedSimpArgs false

theorem files_set {w : World} {b : Nat} {L : List Fl} {f : Fl} {cnt : Nat} (hr : Rises L) (hc : cnt = L.length) (h : MapG Try.prog 9 klS okS decF w b (fun i => if i = f.n then some (f.b, f.s) else flH L i) (if (flH L f.n).isSome then cnt else cnt + 1)) : FilesM w b (setF L f) (setF L f).length := by
  have e : (setF L f).length = if (flH L f.n).isSome then cnt else cnt + 1 := by
    subst hc
    unfold flH
    cases hg : getF L f.n with
    | none => simp [length_setF_new hg]
    | some g => simp [length_setF_old hr hg]
  rw [← e] at h
  exact h.ext fun x _ => flH_set hr x
theorem files_del {w : World} {b : Nat} {L : List Fl} {x : ByteArray} {cnt : Nat} (hr : Rises L) (hc : cnt = L.length) (h : MapG Try.prog 9 klS okS decF w b (fun i => if i = x then none else flH L i) (if (flH L x).isSome then cnt - 1 else cnt)) : FilesM w b (delF L x) (delF L x).length := by
  have e : (delF L x).length = if (flH L x).isSome then cnt - 1 else cnt := by
    subst hc
    unfold flH
    cases hg : getF L x with
    | none => simp [delF_none hg]
    | some g => have := length_delF hr hg; simp; omega
  rw [← e] at h
  exact h.ext fun y _ => flH_del y
theorem upd_drew {S : Nat → Prop} (u : World) : Upd S u u.drew := (Upd.refl S u).drew
theorem upd_dr_grown {u w2 : World} {b : Nat} (h : u.drew.grownBy w2 (some b)) : Upd (fun k => k = b) u w2 :=
  (upd_drew u).trans (Upd.grown (S := fun k => k = b) h (fun k hk => by injection hk with hk; exact hk.symm)) (fun i hi _ => hi)
/-- What a closure finds: the disk, and its variables, apart from the map. -/
structure Cl (u : World) (d b : Nat) (s : DS) : Prop where
  disk : Disk u d b s
  rise : Rises s.L
  len : s.L.length < 1000000

set_option maxRecDepth 100000 in
set_option maxHeartbeats 3200000 in
theorem ap1_any (u : World) (d b : Nat) (s : DS) (h : Cl u d b s) {pf pb pd pn : Nat} {x bb fb : ByteArray} {fs : Int} (hf : Blk u pf [.string fb, .int .i64 fs]) (hbb : Blk u pb [.string bb]) (hpd : Blk u pd [.pointer (some ⟨d, 0, none⟩)]) (hn : Blk u pn [.string x]) (nf : pf ≠ b) (nb : pb ≠ b) (nd : pd ≠ b) (nn : pn ≠ b) (hx : okS x) (hsz : fb.size + bb.size < 1000000000) :
    Calls Try.prog 48 #[.pointer (some ⟨pf, 0, none⟩), .pointer (some ⟨pb, 0, none⟩), .pointer (some ⟨pd, 0, none⟩), .pointer (some ⟨pn, 0, none⟩)] u fun e w' => e = .returned (.tuple #[]) ∧ FilesM w' b (setF s.L ⟨x, fb ++ bb, fs⟩) (setF s.L ⟨x, fb ++ bb, fs⟩).length ∧ Upd (fun k => k = b) u w' := by
  have hm := h.disk.2.1
  have hdd := h.disk.1
  have hbd := h.disk.2.2
  have hr := h.rise
  have hlen := h.len
  clear h
  have hz2 : ¬ 9223372036854775807 < fb.size + bb.size := by omega
  go_enter Try.func48, Try.ntmps48
  have hb := upd_drew (S := fun k => k = b) u
  refine wp_region_held_drew (S := fun v => Upd (fun k => k = b) u v) (by kernel_rfl) hb (fun hHeld => ?_)
  refine takeH 0 4 (v := ?_) rfl rfl (by kernel_rfl) (by kernel_rfl) (by kernel_rfl) (fun _ _ _ h => h) (Or.inl ⟨by kernel_rfl, ?_⟩) hHeld ?_
  rotate_left 1
  · (intro v hSw; (try dsimp only at hSw); have q0 := (hpd.upd hSw nd).at 0 rfl; clear hSw; go_simp; (try with_reducible rfl))
  try simp only [Act.put, List.setIfInBounds_toArray, List.set_cons_zero, List.set_cons_succ]
  refine takeH 1 5 (v := ?_) rfl rfl (by kernel_rfl) (by kernel_rfl) (by kernel_rfl) (fun _ _ _ h => h) (Or.inl ⟨by kernel_rfl, ?_⟩) hHeld ?_
  rotate_left 1
  · (intro v hSw; (try dsimp only at hSw); clear hSw; go_simp; (try with_reducible rfl))
  try simp only [Act.put, List.setIfInBounds_toArray, List.set_cons_zero, List.set_cons_succ]
  refine takeH 2 6 (v := ?_) rfl rfl (by kernel_rfl) (by kernel_rfl) (by kernel_rfl) (fun _ _ _ h => h) (Or.inl ⟨by kernel_rfl, ?_⟩) hHeld ?_
  rotate_left 1
  · (intro v hSw; (try dsimp only at hSw); clear hSw; go_simp; (try with_reducible rfl))
  try simp only [Act.put, List.setIfInBounds_toArray, List.set_cons_zero, List.set_cons_succ]
  refine takeH 3 7 (v := ?_) rfl rfl (by kernel_rfl) (by kernel_rfl) (by kernel_rfl) (fun _ _ _ h => h) (Or.inl ⟨by kernel_rfl, ?_⟩) hHeld ?_
  rotate_left 1
  · (intro v hSw; (try dsimp only at hSw); have q0 := (hdd.upd hSw hbd.symm).at 0 rfl; clear hSw; go_simp; (try with_reducible rfl))
  try simp only [Act.put, List.setIfInBounds_toArray, List.set_cons_zero, List.set_cons_succ]
  refine takeH 4 8 (v := ?_) rfl rfl (by kernel_rfl) (by kernel_rfl) (by kernel_rfl) (fun _ _ _ h => h) (Or.inl ⟨by kernel_rfl, ?_⟩) hHeld ?_
  rotate_left 1
  · (intro v hSw; (try dsimp only at hSw); have q0 := (hn.upd hSw nn).at 0 rfl; clear hSw; go_simp; (try with_reducible rfl))
  try simp only [Act.put, List.setIfInBounds_toArray, List.set_cons_zero, List.set_cons_succ]
  refine takeH 5 9 (v := ?_) rfl rfl (by kernel_rfl) (by kernel_rfl) (by kernel_rfl) (fun _ _ _ h => h) (Or.inl ⟨by kernel_rfl, ?_⟩) hHeld ?_
  rotate_left 1
  · (intro v hSw; (try dsimp only at hSw); clear hSw; go_simp; (try with_reducible rfl))
  try simp only [Act.put, List.setIfInBounds_toArray, List.set_cons_zero, List.set_cons_succ]
  refine takeH 6 10 (v := ?_) rfl rfl (by kernel_rfl) (by kernel_rfl) (by kernel_rfl) (fun _ _ _ h => h) (Or.inl ⟨by kernel_rfl, ?_⟩) hHeld ?_
  rotate_left 1
  · (intro v hSw; (try dsimp only at hSw); have q0 := (hf.upd hSw nf).at 0 rfl; clear hSw; go_simp; (try with_reducible rfl))
  try simp only [Act.put, List.setIfInBounds_toArray, List.set_cons_zero, List.set_cons_succ]
  refine takeH 7 11 (v := ?_) rfl rfl (by kernel_rfl) (by kernel_rfl) (by kernel_rfl) (fun _ _ _ h => h) (Or.inl ⟨by kernel_rfl, ?_⟩) hHeld ?_
  rotate_left 1
  · (intro v hSw; (try dsimp only at hSw); have q0 := (hbb.upd hSw nb).at 0 rfl; clear hSw; go_simp; (try with_reducible rfl))
  try simp only [Act.put, List.setIfInBounds_toArray, List.set_cons_zero, List.set_cons_succ]
  refine takeH 8 12 (v := ?_) rfl rfl (by kernel_rfl) (by kernel_rfl) (by kernel_rfl) (fun _ _ _ h => h) (Or.inl ⟨by kernel_rfl, ?_⟩) hHeld ?_
  rotate_left 1
  · (intro v hSw; (try dsimp only at hSw); clear hSw; go_simp; (try with_reducible rfl))
  try simp only [Act.put, List.setIfInBounds_toArray, List.set_cons_zero, List.set_cons_succ]
  refine takeH 9 13 (v := ?_) rfl rfl (by kernel_rfl) (by kernel_rfl) (by kernel_rfl) (fun _ _ _ h => h) (Or.inl ⟨by kernel_rfl, ?_⟩) hHeld ?_
  rotate_left 1
  · (intro v hSw; (try dsimp only at hSw); clear hSw; go_simp; (try with_reducible rfl))
  try simp only [Act.put, List.setIfInBounds_toArray, List.set_cons_zero, List.set_cons_succ]
  refine takeH 10 14 (v := ?_) rfl rfl (by kernel_rfl) (by kernel_rfl) (by kernel_rfl) (fun _ _ _ h => h) (Or.inl ⟨by kernel_rfl, ?_⟩) hHeld ?_
  rotate_left 1
  · (intro v hSw; (try dsimp only at hSw); have q1 := (hf.upd hSw nf).at 1 rfl; clear hSw; go_simp; (try with_reducible rfl))
  try simp only [Act.put, List.setIfInBounds_toArray, List.set_cons_zero, List.set_cons_succ]
  refine takeH 11 15 (v := ?_) rfl rfl (by kernel_rfl) (by kernel_rfl) (by kernel_rfl) (fun _ _ _ h => h) (Or.inl ⟨by kernel_rfl, ?_⟩) hHeld ?_
  rotate_left 1
  · (intro v hSw; (try dsimp only at hSw); clear hSw; go_simp; (try with_reducible rfl))
  try simp only [Act.put, List.setIfInBounds_toArray, List.set_cons_zero, List.set_cons_succ]
  refine wpAnyH_ready (rs := [12]) (by kernel_rfl) (by simp) ?_
  refine AllReadyH.cons rfl (fun K hK => ?_) AllReadyH.nil
  obtain ⟨w2, hrun, hm2, hg2⟩ := (hm.drew).put_run filesT (by unfold maxLen; omega) (u := x) hx (fb ++ bb, fs)
  unfold evF at hrun
  have hb := upd_dr_grown hg2
  go_simp
  refine hK.out _ _ hb (fun hHeld => ?_)
  clear hK K
  try simp only [Act.put, List.setIfInBounds_toArray, List.set_cons_zero, List.set_cons_succ]
  refine wpAnyH_done (by kernel_rfl) ?_ _
  have hmm := hm2
  go_end0
  exact ⟨rfl, files_set hr rfl hm2, hb⟩
set_option maxRecDepth 100000 in
set_option maxHeartbeats 3200000 in
theorem sy1_any (u : World) (d b : Nat) (s : DS) (h : Cl u d b s) {pf pd pn : Nat} {x fb : ByteArray} {fs : Int} (hf : Blk u pf [.string fb, .int .i64 fs]) (hpd : Blk u pd [.pointer (some ⟨d, 0, none⟩)]) (hn : Blk u pn [.string x]) (nf : pf ≠ b) (nd : pd ≠ b) (nn : pn ≠ b) (hx : okS x) :
    Calls Try.prog 49 #[.pointer (some ⟨pf, 0, none⟩), .pointer (some ⟨pd, 0, none⟩), .pointer (some ⟨pn, 0, none⟩)] u fun e w' => e = .returned (.tuple #[]) ∧ FilesM w' b (setF s.L ⟨x, fb, fb.size⟩) (setF s.L ⟨x, fb, fb.size⟩).length ∧ Upd (fun k => k = b) u w' := by
  have hm := h.disk.2.1
  have hdd := h.disk.1
  have hbd := h.disk.2.2
  have hr := h.rise
  have hlen := h.len
  clear h
  go_enter Try.func49, Try.ntmps49
  have hb := upd_drew (S := fun k => k = b) u
  refine wp_region_held_drew (S := fun v => Upd (fun k => k = b) u v) (by kernel_rfl) hb (fun hHeld => ?_)
  refine takeH 0 3 (v := ?_) rfl rfl (by kernel_rfl) (by kernel_rfl) (by kernel_rfl) (fun _ _ _ h => h) (Or.inl ⟨by kernel_rfl, ?_⟩) hHeld ?_
  rotate_left 1
  · (intro v hSw; (try dsimp only at hSw); have q0 := (hpd.upd hSw nd).at 0 rfl; clear hSw; go_simp; (try with_reducible rfl))
  try simp only [Act.put, List.setIfInBounds_toArray, List.set_cons_zero, List.set_cons_succ]
  refine takeH 1 4 (v := ?_) rfl rfl (by kernel_rfl) (by kernel_rfl) (by kernel_rfl) (fun _ _ _ h => h) (Or.inl ⟨by kernel_rfl, ?_⟩) hHeld ?_
  rotate_left 1
  · (intro v hSw; (try dsimp only at hSw); clear hSw; go_simp; (try with_reducible rfl))
  try simp only [Act.put, List.setIfInBounds_toArray, List.set_cons_zero, List.set_cons_succ]
  refine takeH 2 5 (v := ?_) rfl rfl (by kernel_rfl) (by kernel_rfl) (by kernel_rfl) (fun _ _ _ h => h) (Or.inl ⟨by kernel_rfl, ?_⟩) hHeld ?_
  rotate_left 1
  · (intro v hSw; (try dsimp only at hSw); clear hSw; go_simp; (try with_reducible rfl))
  try simp only [Act.put, List.setIfInBounds_toArray, List.set_cons_zero, List.set_cons_succ]
  refine takeH 3 6 (v := ?_) rfl rfl (by kernel_rfl) (by kernel_rfl) (by kernel_rfl) (fun _ _ _ h => h) (Or.inl ⟨by kernel_rfl, ?_⟩) hHeld ?_
  rotate_left 1
  · (intro v hSw; (try dsimp only at hSw); have q0 := (hdd.upd hSw hbd.symm).at 0 rfl; clear hSw; go_simp; (try with_reducible rfl))
  try simp only [Act.put, List.setIfInBounds_toArray, List.set_cons_zero, List.set_cons_succ]
  refine takeH 4 7 (v := ?_) rfl rfl (by kernel_rfl) (by kernel_rfl) (by kernel_rfl) (fun _ _ _ h => h) (Or.inl ⟨by kernel_rfl, ?_⟩) hHeld ?_
  rotate_left 1
  · (intro v hSw; (try dsimp only at hSw); have q0 := (hn.upd hSw nn).at 0 rfl; clear hSw; go_simp; (try with_reducible rfl))
  try simp only [Act.put, List.setIfInBounds_toArray, List.set_cons_zero, List.set_cons_succ]
  refine takeH 5 8 (v := ?_) rfl rfl (by kernel_rfl) (by kernel_rfl) (by kernel_rfl) (fun _ _ _ h => h) (Or.inl ⟨by kernel_rfl, ?_⟩) hHeld ?_
  rotate_left 1
  · (intro v hSw; (try dsimp only at hSw); clear hSw; go_simp; (try with_reducible rfl))
  try simp only [Act.put, List.setIfInBounds_toArray, List.set_cons_zero, List.set_cons_succ]
  refine takeH 6 9 (v := ?_) rfl rfl (by kernel_rfl) (by kernel_rfl) (by kernel_rfl) (fun _ _ _ h => h) (Or.inl ⟨by kernel_rfl, ?_⟩) hHeld ?_
  rotate_left 1
  · (intro v hSw; (try dsimp only at hSw); have q0 := (hf.upd hSw nf).at 0 rfl; clear hSw; go_simp; (try with_reducible rfl))
  try simp only [Act.put, List.setIfInBounds_toArray, List.set_cons_zero, List.set_cons_succ]
  refine takeH 7 10 (v := ?_) rfl rfl (by kernel_rfl) (by kernel_rfl) (by kernel_rfl) (fun _ _ _ h => h) (Or.inl ⟨by kernel_rfl, ?_⟩) hHeld ?_
  rotate_left 1
  · (intro v hSw; (try dsimp only at hSw); clear hSw; go_simp; (try with_reducible rfl))
  try simp only [Act.put, List.setIfInBounds_toArray, List.set_cons_zero, List.set_cons_succ]
  refine takeH 8 11 (v := ?_) rfl rfl (by kernel_rfl) (by kernel_rfl) (by kernel_rfl) (fun _ _ _ h => h) (Or.inl ⟨by kernel_rfl, ?_⟩) hHeld ?_
  rotate_left 1
  · (intro v hSw; (try dsimp only at hSw); have q0 := (hf.upd hSw nf).at 0 rfl; clear hSw; go_simp; (try with_reducible rfl))
  try simp only [Act.put, List.setIfInBounds_toArray, List.set_cons_zero, List.set_cons_succ]
  refine takeH 9 12 (v := ?_) rfl rfl (by kernel_rfl) (by kernel_rfl) (by kernel_rfl) (fun _ _ _ h => h) (Or.inl ⟨by kernel_rfl, ?_⟩) hHeld ?_
  rotate_left 1
  · (intro v hSw; (try dsimp only at hSw); clear hSw; go_simp; (try with_reducible rfl))
  try simp only [Act.put, List.setIfInBounds_toArray, List.set_cons_zero, List.set_cons_succ]
  refine takeH 10 13 (v := ?_) rfl rfl (by kernel_rfl) (by kernel_rfl) (by kernel_rfl) (fun _ _ _ h => h) (Or.inl ⟨by kernel_rfl, ?_⟩) hHeld ?_
  rotate_left 1
  · (intro v hSw; (try dsimp only at hSw); clear hSw; go_simp; (try with_reducible rfl))
  try simp only [Act.put, List.setIfInBounds_toArray, List.set_cons_zero, List.set_cons_succ]
  refine wpAnyH_ready (rs := [11]) (by kernel_rfl) (by simp) ?_
  refine AllReadyH.cons rfl (fun K hK => ?_) AllReadyH.nil
  obtain ⟨w2, hrun, hm2, hg2⟩ := (hm.drew).put_run filesT (by unfold maxLen; omega) (u := x) hx (fb, (fb.size : Int))
  unfold evF at hrun
  have hb := upd_dr_grown hg2
  go_simp
  refine hK.out _ _ hb (fun hHeld => ?_)
  clear hK K
  try simp only [Act.put, List.setIfInBounds_toArray, List.set_cons_zero, List.set_cons_succ]
  refine wpAnyH_done (by kernel_rfl) ?_ _
  have hmm := hm2
  go_end0
  exact ⟨rfl, files_set hr rfl hm2, hb⟩
set_option maxRecDepth 100000 in
set_option maxHeartbeats 3200000 in
theorem cu1a_any (u : World) (d b : Nat) (s : DS) (h : Cl u d b s) {pf pb pd pn : Nat} {x fb : ByteArray} {fs n : Int} (hf : Blk u pf [.string fb, .int .i64 fs]) (hbb : Blk u pb [.int .i64 n]) (hpd : Blk u pd [.pointer (some ⟨d, 0, none⟩)]) (hn : Blk u pn [.string x]) (nf : pf ≠ b) (nb : pb ≠ b) (nd : pd ≠ b) (nn : pn ≠ b) (hx : okS x) (hn0 : 0 ≤ n) (hn1 : n ≤ fb.size) (hmn : fs ≤ n) :
    Calls Try.prog 50 #[.pointer (some ⟨pf, 0, none⟩), .pointer (some ⟨pb, 0, none⟩), .pointer (some ⟨pd, 0, none⟩), .pointer (some ⟨pn, 0, none⟩)] u fun e w' => e = .returned (.tuple #[]) ∧ FilesM w' b (setF s.L ⟨x, cutB fb n, fs⟩) (setF s.L ⟨x, cutB fb n, fs⟩).length ∧ Upd (fun k => k = b) u w' := by
  have hm := h.disk.2.1
  have hdd := h.disk.1
  have hbd := h.disk.2.2
  have hr := h.rise
  have hlen := h.len
  clear h
  have hm3 : ¬ n < fs := by omega
  clear hmn
  go_enter Try.func50, Try.ntmps50
  have hb := upd_drew (S := fun k => k = b) u
  refine wp_region_held_drew (S := fun v => Upd (fun k => k = b) u v) (by kernel_rfl) hb (fun hHeld => ?_)
  refine takeH 0 4 (v := ?_) rfl rfl (by kernel_rfl) (by kernel_rfl) (by kernel_rfl) (fun _ _ _ h => h) (Or.inl ⟨by kernel_rfl, ?_⟩) hHeld ?_
  rotate_left 1
  · (intro v hSw; (try dsimp only at hSw); have q0 := (hpd.upd hSw nd).at 0 rfl; clear hSw; go_simp; (try with_reducible rfl))
  try simp only [Act.put, List.setIfInBounds_toArray, List.set_cons_zero, List.set_cons_succ]
  refine takeH 1 5 (v := ?_) rfl rfl (by kernel_rfl) (by kernel_rfl) (by kernel_rfl) (fun _ _ _ h => h) (Or.inl ⟨by kernel_rfl, ?_⟩) hHeld ?_
  rotate_left 1
  · (intro v hSw; (try dsimp only at hSw); clear hSw; go_simp; (try with_reducible rfl))
  try simp only [Act.put, List.setIfInBounds_toArray, List.set_cons_zero, List.set_cons_succ]
  refine takeH 2 6 (v := ?_) rfl rfl (by kernel_rfl) (by kernel_rfl) (by kernel_rfl) (fun _ _ _ h => h) (Or.inl ⟨by kernel_rfl, ?_⟩) hHeld ?_
  rotate_left 1
  · (intro v hSw; (try dsimp only at hSw); clear hSw; go_simp; (try with_reducible rfl))
  try simp only [Act.put, List.setIfInBounds_toArray, List.set_cons_zero, List.set_cons_succ]
  refine takeH 3 7 (v := ?_) rfl rfl (by kernel_rfl) (by kernel_rfl) (by kernel_rfl) (fun _ _ _ h => h) (Or.inl ⟨by kernel_rfl, ?_⟩) hHeld ?_
  rotate_left 1
  · (intro v hSw; (try dsimp only at hSw); have q0 := (hdd.upd hSw hbd.symm).at 0 rfl; clear hSw; go_simp; (try with_reducible rfl))
  try simp only [Act.put, List.setIfInBounds_toArray, List.set_cons_zero, List.set_cons_succ]
  refine takeH 4 8 (v := ?_) rfl rfl (by kernel_rfl) (by kernel_rfl) (by kernel_rfl) (fun _ _ _ h => h) (Or.inl ⟨by kernel_rfl, ?_⟩) hHeld ?_
  rotate_left 1
  · (intro v hSw; (try dsimp only at hSw); have q0 := (hn.upd hSw nn).at 0 rfl; clear hSw; go_simp; (try with_reducible rfl))
  try simp only [Act.put, List.setIfInBounds_toArray, List.set_cons_zero, List.set_cons_succ]
  refine takeH 5 9 (v := ?_) rfl rfl (by kernel_rfl) (by kernel_rfl) (by kernel_rfl) (fun _ _ _ h => h) (Or.inl ⟨by kernel_rfl, ?_⟩) hHeld ?_
  rotate_left 1
  · (intro v hSw; (try dsimp only at hSw); clear hSw; go_simp; (try with_reducible rfl))
  try simp only [Act.put, List.setIfInBounds_toArray, List.set_cons_zero, List.set_cons_succ]
  refine takeH 6 10 (v := ?_) rfl rfl (by kernel_rfl) (by kernel_rfl) (by kernel_rfl) (fun _ _ _ h => h) (Or.inl ⟨by kernel_rfl, ?_⟩) hHeld ?_
  rotate_left 1
  · (intro v hSw; (try dsimp only at hSw); have q0 := (hf.upd hSw nf).at 0 rfl; clear hSw; go_simp; (try with_reducible rfl))
  try simp only [Act.put, List.setIfInBounds_toArray, List.set_cons_zero, List.set_cons_succ]
  refine takeH 7 11 (v := ?_) rfl rfl (by kernel_rfl) (by kernel_rfl) (by kernel_rfl) (fun _ _ _ h => h) (Or.inl ⟨by kernel_rfl, ?_⟩) hHeld ?_
  rotate_left 1
  · (intro v hSw; (try dsimp only at hSw); have q0 := (hbb.upd hSw nb).at 0 rfl; clear hSw; go_simp; (try with_reducible rfl))
  try simp only [Act.put, List.setIfInBounds_toArray, List.set_cons_zero, List.set_cons_succ]
  refine takeH 8 12 (v := ?_) rfl rfl (by kernel_rfl) (by kernel_rfl) (by kernel_rfl) (fun _ _ _ h => h) (Or.inl ⟨by kernel_rfl, ?_⟩) hHeld ?_
  rotate_left 1
  · (intro v hSw; (try dsimp only at hSw); clear hSw; go_simp; (try with_reducible rfl))
  try simp only [Act.put, List.setIfInBounds_toArray, List.set_cons_zero, List.set_cons_succ]
  refine takeH 9 13 (v := ?_) rfl rfl (by kernel_rfl) (by kernel_rfl) (by kernel_rfl) (fun _ _ _ h => h) (Or.inl ⟨by kernel_rfl, ?_⟩) hHeld ?_
  rotate_left 1
  · (intro v hSw; (try dsimp only at hSw); clear hSw; go_simp; (try with_reducible rfl))
  try simp only [Act.put, List.setIfInBounds_toArray, List.set_cons_zero, List.set_cons_succ]
  refine takeH 10 14 (v := ?_) rfl rfl (by kernel_rfl) (by kernel_rfl) (by kernel_rfl) (fun _ _ _ h => h) (Or.inl ⟨by kernel_rfl, ?_⟩) hHeld ?_
  rotate_left 1
  · (intro v hSw; (try dsimp only at hSw); have q1 := (hf.upd hSw nf).at 1 rfl; clear hSw; go_simp; (try with_reducible rfl))
  try simp only [Act.put, List.setIfInBounds_toArray, List.set_cons_zero, List.set_cons_succ]
  refine takeH 11 15 (v := ?_) rfl rfl (by kernel_rfl) (by kernel_rfl) (by kernel_rfl) (fun _ _ _ h => h) (Or.inl ⟨by kernel_rfl, ?_⟩) hHeld ?_
  rotate_left 1
  · (intro v hSw; (try dsimp only at hSw); have q0 := (hbb.upd hSw nb).at 0 rfl; clear hSw; go_simp; (try with_reducible rfl))
  try simp only [Act.put, List.setIfInBounds_toArray, List.set_cons_zero, List.set_cons_succ]
  refine takeH 12 16 (v := ?_) rfl rfl (by kernel_rfl) (by kernel_rfl) (by kernel_rfl) (fun _ _ _ h => h) (Or.inl ⟨by kernel_rfl, ?_⟩) hHeld ?_
  rotate_left 1
  · (intro v hSw; (try dsimp only at hSw); clear hSw; go_simp; (try with_reducible rfl))
  try simp only [Act.put, List.setIfInBounds_toArray, List.set_cons_zero, List.set_cons_succ]
  refine takeH 13 17 (v := ?_) rfl rfl (by kernel_rfl) (by kernel_rfl) (by kernel_rfl) (fun _ _ _ h => h) (Or.inl ⟨by kernel_rfl, ?_⟩) hHeld ?_
  rotate_left 1
  · (intro v hSw; (try dsimp only at hSw); clear hSw; go_simp; (try with_reducible rfl))
  try simp only [Act.put, List.setIfInBounds_toArray, List.set_cons_zero, List.set_cons_succ]
  refine wpAnyH_ready (rs := [14]) (by kernel_rfl) (by simp) ?_
  refine AllReadyH.cons rfl (fun K hK => ?_) AllReadyH.nil
  obtain ⟨w2, hrun, hm2, hg2⟩ := (hm.drew).put_run filesT (by unfold maxLen; omega) (u := x) hx (cutB fb n, fs)
  unfold evF at hrun
  have hb := upd_dr_grown hg2
  unfold cutB at hrun
  go_simp
  refine hK.out _ _ hb (fun hHeld => ?_)
  clear hK K
  try simp only [Act.put, List.setIfInBounds_toArray, List.set_cons_zero, List.set_cons_succ]
  refine wpAnyH_done (by kernel_rfl) ?_ _
  have hmm := hm2
  go_end0
  exact ⟨rfl, files_set hr rfl hm2, hb⟩
set_option maxRecDepth 100000 in
set_option maxHeartbeats 3200000 in
theorem cu1b_any (u : World) (d b : Nat) (s : DS) (h : Cl u d b s) {pf pb pd pn : Nat} {x fb : ByteArray} {fs n : Int} (hf : Blk u pf [.string fb, .int .i64 fs]) (hbb : Blk u pb [.int .i64 n]) (hpd : Blk u pd [.pointer (some ⟨d, 0, none⟩)]) (hn : Blk u pn [.string x]) (nf : pf ≠ b) (nb : pb ≠ b) (nd : pd ≠ b) (nn : pn ≠ b) (hx : okS x) (hn0 : 0 ≤ n) (hn1 : n ≤ fb.size) (hmn : ¬ fs ≤ n) :
    Calls Try.prog 50 #[.pointer (some ⟨pf, 0, none⟩), .pointer (some ⟨pb, 0, none⟩), .pointer (some ⟨pd, 0, none⟩), .pointer (some ⟨pn, 0, none⟩)] u fun e w' => e = .returned (.tuple #[]) ∧ FilesM w' b (setF s.L ⟨x, cutB fb n, n⟩) (setF s.L ⟨x, cutB fb n, n⟩).length ∧ Upd (fun k => k = b) u w' := by
  have hm := h.disk.2.1
  have hdd := h.disk.1
  have hbd := h.disk.2.2
  have hr := h.rise
  have hlen := h.len
  clear h
  have hm3 : n < fs := by omega
  clear hmn
  go_enter Try.func50, Try.ntmps50
  have hb := upd_drew (S := fun k => k = b) u
  refine wp_region_held_drew (S := fun v => Upd (fun k => k = b) u v) (by kernel_rfl) hb (fun hHeld => ?_)
  refine takeH 0 4 (v := ?_) rfl rfl (by kernel_rfl) (by kernel_rfl) (by kernel_rfl) (fun _ _ _ h => h) (Or.inl ⟨by kernel_rfl, ?_⟩) hHeld ?_
  rotate_left 1
  · (intro v hSw; (try dsimp only at hSw); have q0 := (hpd.upd hSw nd).at 0 rfl; clear hSw; go_simp; (try with_reducible rfl))
  try simp only [Act.put, List.setIfInBounds_toArray, List.set_cons_zero, List.set_cons_succ]
  refine takeH 1 5 (v := ?_) rfl rfl (by kernel_rfl) (by kernel_rfl) (by kernel_rfl) (fun _ _ _ h => h) (Or.inl ⟨by kernel_rfl, ?_⟩) hHeld ?_
  rotate_left 1
  · (intro v hSw; (try dsimp only at hSw); clear hSw; go_simp; (try with_reducible rfl))
  try simp only [Act.put, List.setIfInBounds_toArray, List.set_cons_zero, List.set_cons_succ]
  refine takeH 2 6 (v := ?_) rfl rfl (by kernel_rfl) (by kernel_rfl) (by kernel_rfl) (fun _ _ _ h => h) (Or.inl ⟨by kernel_rfl, ?_⟩) hHeld ?_
  rotate_left 1
  · (intro v hSw; (try dsimp only at hSw); clear hSw; go_simp; (try with_reducible rfl))
  try simp only [Act.put, List.setIfInBounds_toArray, List.set_cons_zero, List.set_cons_succ]
  refine takeH 3 7 (v := ?_) rfl rfl (by kernel_rfl) (by kernel_rfl) (by kernel_rfl) (fun _ _ _ h => h) (Or.inl ⟨by kernel_rfl, ?_⟩) hHeld ?_
  rotate_left 1
  · (intro v hSw; (try dsimp only at hSw); have q0 := (hdd.upd hSw hbd.symm).at 0 rfl; clear hSw; go_simp; (try with_reducible rfl))
  try simp only [Act.put, List.setIfInBounds_toArray, List.set_cons_zero, List.set_cons_succ]
  refine takeH 4 8 (v := ?_) rfl rfl (by kernel_rfl) (by kernel_rfl) (by kernel_rfl) (fun _ _ _ h => h) (Or.inl ⟨by kernel_rfl, ?_⟩) hHeld ?_
  rotate_left 1
  · (intro v hSw; (try dsimp only at hSw); have q0 := (hn.upd hSw nn).at 0 rfl; clear hSw; go_simp; (try with_reducible rfl))
  try simp only [Act.put, List.setIfInBounds_toArray, List.set_cons_zero, List.set_cons_succ]
  refine takeH 5 9 (v := ?_) rfl rfl (by kernel_rfl) (by kernel_rfl) (by kernel_rfl) (fun _ _ _ h => h) (Or.inl ⟨by kernel_rfl, ?_⟩) hHeld ?_
  rotate_left 1
  · (intro v hSw; (try dsimp only at hSw); clear hSw; go_simp; (try with_reducible rfl))
  try simp only [Act.put, List.setIfInBounds_toArray, List.set_cons_zero, List.set_cons_succ]
  refine takeH 6 10 (v := ?_) rfl rfl (by kernel_rfl) (by kernel_rfl) (by kernel_rfl) (fun _ _ _ h => h) (Or.inl ⟨by kernel_rfl, ?_⟩) hHeld ?_
  rotate_left 1
  · (intro v hSw; (try dsimp only at hSw); have q0 := (hf.upd hSw nf).at 0 rfl; clear hSw; go_simp; (try with_reducible rfl))
  try simp only [Act.put, List.setIfInBounds_toArray, List.set_cons_zero, List.set_cons_succ]
  refine takeH 7 11 (v := ?_) rfl rfl (by kernel_rfl) (by kernel_rfl) (by kernel_rfl) (fun _ _ _ h => h) (Or.inl ⟨by kernel_rfl, ?_⟩) hHeld ?_
  rotate_left 1
  · (intro v hSw; (try dsimp only at hSw); have q0 := (hbb.upd hSw nb).at 0 rfl; clear hSw; go_simp; (try with_reducible rfl))
  try simp only [Act.put, List.setIfInBounds_toArray, List.set_cons_zero, List.set_cons_succ]
  refine takeH 8 12 (v := ?_) rfl rfl (by kernel_rfl) (by kernel_rfl) (by kernel_rfl) (fun _ _ _ h => h) (Or.inl ⟨by kernel_rfl, ?_⟩) hHeld ?_
  rotate_left 1
  · (intro v hSw; (try dsimp only at hSw); clear hSw; go_simp; (try with_reducible rfl))
  try simp only [Act.put, List.setIfInBounds_toArray, List.set_cons_zero, List.set_cons_succ]
  refine takeH 9 13 (v := ?_) rfl rfl (by kernel_rfl) (by kernel_rfl) (by kernel_rfl) (fun _ _ _ h => h) (Or.inl ⟨by kernel_rfl, ?_⟩) hHeld ?_
  rotate_left 1
  · (intro v hSw; (try dsimp only at hSw); clear hSw; go_simp; (try with_reducible rfl))
  try simp only [Act.put, List.setIfInBounds_toArray, List.set_cons_zero, List.set_cons_succ]
  refine takeH 10 14 (v := ?_) rfl rfl (by kernel_rfl) (by kernel_rfl) (by kernel_rfl) (fun _ _ _ h => h) (Or.inl ⟨by kernel_rfl, ?_⟩) hHeld ?_
  rotate_left 1
  · (intro v hSw; (try dsimp only at hSw); have q1 := (hf.upd hSw nf).at 1 rfl; clear hSw; go_simp; (try with_reducible rfl))
  try simp only [Act.put, List.setIfInBounds_toArray, List.set_cons_zero, List.set_cons_succ]
  refine takeH 11 15 (v := ?_) rfl rfl (by kernel_rfl) (by kernel_rfl) (by kernel_rfl) (fun _ _ _ h => h) (Or.inl ⟨by kernel_rfl, ?_⟩) hHeld ?_
  rotate_left 1
  · (intro v hSw; (try dsimp only at hSw); have q0 := (hbb.upd hSw nb).at 0 rfl; clear hSw; go_simp; (try with_reducible rfl))
  try simp only [Act.put, List.setIfInBounds_toArray, List.set_cons_zero, List.set_cons_succ]
  refine takeH 12 16 (v := ?_) rfl rfl (by kernel_rfl) (by kernel_rfl) (by kernel_rfl) (fun _ _ _ h => h) (Or.inl ⟨by kernel_rfl, ?_⟩) hHeld ?_
  rotate_left 1
  · (intro v hSw; (try dsimp only at hSw); clear hSw; go_simp; (try with_reducible rfl))
  try simp only [Act.put, List.setIfInBounds_toArray, List.set_cons_zero, List.set_cons_succ]
  refine takeH 13 17 (v := ?_) rfl rfl (by kernel_rfl) (by kernel_rfl) (by kernel_rfl) (fun _ _ _ h => h) (Or.inl ⟨by kernel_rfl, ?_⟩) hHeld ?_
  rotate_left 1
  · (intro v hSw; (try dsimp only at hSw); clear hSw; go_simp; (try with_reducible rfl))
  try simp only [Act.put, List.setIfInBounds_toArray, List.set_cons_zero, List.set_cons_succ]
  refine wpAnyH_ready (rs := [14]) (by kernel_rfl) (by simp) ?_
  refine AllReadyH.cons rfl (fun K hK => ?_) AllReadyH.nil
  obtain ⟨w2, hrun, hm2, hg2⟩ := (hm.drew).put_run filesT (by unfold maxLen; omega) (u := x) hx (cutB fb n, n)
  unfold evF at hrun
  have hb := upd_dr_grown hg2
  unfold cutB at hrun
  go_simp
  refine hK.out _ _ hb (fun hHeld => ?_)
  clear hK K
  try simp only [Act.put, List.setIfInBounds_toArray, List.set_cons_zero, List.set_cons_succ]
  refine wpAnyH_done (by kernel_rfl) ?_ _
  have hmm := hm2
  go_end0
  exact ⟨rfl, files_set hr rfl hm2, hb⟩
set_option maxRecDepth 100000 in
set_option maxHeartbeats 3200000 in
theorem rm1_any (u : World) (d b : Nat) (s : DS) (h : Cl u d b s) {pd pn : Nat} {x : ByteArray} (hpd : Blk u pd [.pointer (some ⟨d, 0, none⟩)]) (hn : Blk u pn [.string x]) (nd : pd ≠ b) (nn : pn ≠ b) (hx : okS x) :
    Calls Try.prog 52 #[.pointer (some ⟨pd, 0, none⟩), .pointer (some ⟨pn, 0, none⟩)] u fun e w' => e = .returned (.tuple #[]) ∧ FilesM w' b (delF s.L x) (delF s.L x).length ∧ Upd (fun k => k = b) u w' := by
  have hm := h.disk.2.1
  have hdd := h.disk.1
  have hbd := h.disk.2.2
  have hr := h.rise
  have hlen := h.len
  clear h
  go_enter Try.func52, Try.ntmps52
  have hb := upd_drew (S := fun k => k = b) u
  refine wp_region_held_drew (S := fun v => Upd (fun k => k = b) u v) (by kernel_rfl) hb (fun hHeld => ?_)
  refine takeH 0 2 (v := ?_) rfl rfl (by kernel_rfl) (by kernel_rfl) (by kernel_rfl) (fun _ _ _ h => h) (Or.inl ⟨by kernel_rfl, ?_⟩) hHeld ?_
  rotate_left 1
  · (intro v hSw; (try dsimp only at hSw); have q0 := (hpd.upd hSw nd).at 0 rfl; clear hSw; go_simp; (try with_reducible rfl))
  try simp only [Act.put, List.setIfInBounds_toArray, List.set_cons_zero, List.set_cons_succ]
  refine takeH 1 3 (v := ?_) rfl rfl (by kernel_rfl) (by kernel_rfl) (by kernel_rfl) (fun _ _ _ h => h) (Or.inl ⟨by kernel_rfl, ?_⟩) hHeld ?_
  rotate_left 1
  · (intro v hSw; (try dsimp only at hSw); clear hSw; go_simp; (try with_reducible rfl))
  try simp only [Act.put, List.setIfInBounds_toArray, List.set_cons_zero, List.set_cons_succ]
  refine takeH 2 4 (v := ?_) rfl rfl (by kernel_rfl) (by kernel_rfl) (by kernel_rfl) (fun _ _ _ h => h) (Or.inl ⟨by kernel_rfl, ?_⟩) hHeld ?_
  rotate_left 1
  · (intro v hSw; (try dsimp only at hSw); clear hSw; go_simp; (try with_reducible rfl))
  try simp only [Act.put, List.setIfInBounds_toArray, List.set_cons_zero, List.set_cons_succ]
  refine takeH 3 5 (v := ?_) rfl rfl (by kernel_rfl) (by kernel_rfl) (by kernel_rfl) (fun _ _ _ h => h) (Or.inl ⟨by kernel_rfl, ?_⟩) hHeld ?_
  rotate_left 1
  · (intro v hSw; (try dsimp only at hSw); have q0 := (hdd.upd hSw hbd.symm).at 0 rfl; clear hSw; go_simp; (try with_reducible rfl))
  try simp only [Act.put, List.setIfInBounds_toArray, List.set_cons_zero, List.set_cons_succ]
  refine takeH 4 6 (v := ?_) rfl rfl (by kernel_rfl) (by kernel_rfl) (by kernel_rfl) (fun _ _ _ h => h) (Or.inl ⟨by kernel_rfl, ?_⟩) hHeld ?_
  rotate_left 1
  · (intro v hSw; (try dsimp only at hSw); have q0 := (hn.upd hSw nn).at 0 rfl; clear hSw; go_simp; (try with_reducible rfl))
  try simp only [Act.put, List.setIfInBounds_toArray, List.set_cons_zero, List.set_cons_succ]
  refine wpAnyH_ready (rs := [5]) (by kernel_rfl) (by simp) ?_
  refine AllReadyH.cons rfl (fun K hK => ?_) AllReadyH.nil
  obtain ⟨w2, hrun, hm2, hg2⟩ := (hm.drew).del_run filesT (u := x) hx 0
  have hb := upd_dr_grown hg2
  go_simp
  refine hK.out _ _ hb (fun hHeld => ?_)
  clear hK K
  try simp only [Act.put, List.setIfInBounds_toArray, List.set_cons_zero, List.set_cons_succ]
  refine wpAnyH_done (by kernel_rfl) ?_ _
  have hmm := hm2
  go_end0
  exact ⟨rfl, files_del hr rfl hm2, hb⟩
set_option maxRecDepth 100000 in
set_option maxHeartbeats 3200000 in
theorem re1_any (u : World) (d b : Nat) (s : DS) (h : Cl u d b s) {pd pn pf pt : Nat} {x y fb : ByteArray} {fs : Int} (hf : Blk u pf [.string fb, .int .i64 fs]) (hpd : Blk u pd [.pointer (some ⟨d, 0, none⟩)]) (hn : Blk u pn [.string x]) (ht : Blk u pt [.string y]) (nf : pf ≠ b) (nd : pd ≠ b) (nn : pn ≠ b) (nt : pt ≠ b) (hx : okS x) (hy : okS y) :
    Calls Try.prog 51 #[.pointer (some ⟨pd, 0, none⟩), .pointer (some ⟨pn, 0, none⟩), .pointer (some ⟨pf, 0, none⟩), .pointer (some ⟨pt, 0, none⟩)] u fun e w' => e = .returned (.tuple #[]) ∧ FilesM w' b (setF (delF s.L x) ⟨y, fb, fs⟩) (setF (delF s.L x) ⟨y, fb, fs⟩).length ∧ Upd (fun k => k = b) u w' := by
  have hm := h.disk.2.1
  have hdd := h.disk.1
  have hbd := h.disk.2.2
  have hr := h.rise
  have hlen := h.len
  clear h
  go_enter Try.func51, Try.ntmps51
  go_wp2
  have hb := upd_drew (S := fun k => k = b) u
  refine wp_region_held_drew (S := fun v => Upd (fun k => k = b) u v) (by kernel_rfl) hb (fun hHeld => ?_)
  refine takeH 0 4 (v := ?_) rfl rfl (by kernel_rfl) (by kernel_rfl) (by kernel_rfl) (fun _ _ _ h => h) (Or.inl ⟨by kernel_rfl, ?_⟩) hHeld ?_
  rotate_left 1
  · (intro v hSw; (try dsimp only at hSw); have q0 := (hpd.upd hSw nd).at 0 rfl; clear hSw; go_simp; (try with_reducible rfl))
  try simp only [Act.put, List.setIfInBounds_toArray, List.set_cons_zero, List.set_cons_succ]
  refine takeH 1 5 (v := ?_) rfl rfl (by kernel_rfl) (by kernel_rfl) (by kernel_rfl) (fun _ _ _ h => h) (Or.inl ⟨by kernel_rfl, ?_⟩) hHeld ?_
  rotate_left 1
  · (intro v hSw; (try dsimp only at hSw); clear hSw; go_simp; (try with_reducible rfl))
  try simp only [Act.put, List.setIfInBounds_toArray, List.set_cons_zero, List.set_cons_succ]
  refine takeH 2 6 (v := ?_) rfl rfl (by kernel_rfl) (by kernel_rfl) (by kernel_rfl) (fun _ _ _ h => h) (Or.inl ⟨by kernel_rfl, ?_⟩) hHeld ?_
  rotate_left 1
  · (intro v hSw; (try dsimp only at hSw); clear hSw; go_simp; (try with_reducible rfl))
  try simp only [Act.put, List.setIfInBounds_toArray, List.set_cons_zero, List.set_cons_succ]
  refine takeH 3 7 (v := ?_) rfl rfl (by kernel_rfl) (by kernel_rfl) (by kernel_rfl) (fun _ _ _ h => h) (Or.inl ⟨by kernel_rfl, ?_⟩) hHeld ?_
  rotate_left 1
  · (intro v hSw; (try dsimp only at hSw); have q0 := (hdd.upd hSw hbd.symm).at 0 rfl; clear hSw; go_simp; (try with_reducible rfl))
  try simp only [Act.put, List.setIfInBounds_toArray, List.set_cons_zero, List.set_cons_succ]
  refine takeH 4 8 (v := ?_) rfl rfl (by kernel_rfl) (by kernel_rfl) (by kernel_rfl) (fun _ _ _ h => h) (Or.inl ⟨by kernel_rfl, ?_⟩) hHeld ?_
  rotate_left 1
  · (intro v hSw; (try dsimp only at hSw); have q0 := (hn.upd hSw nn).at 0 rfl; clear hSw; go_simp; (try with_reducible rfl))
  try simp only [Act.put, List.setIfInBounds_toArray, List.set_cons_zero, List.set_cons_succ]
  refine wpAnyH_ready (rs := [5]) (by kernel_rfl) (by simp) ?_
  refine AllReadyH.cons rfl (fun K hK => ?_) AllReadyH.nil
  obtain ⟨w2, hrun, hm2, hg2⟩ := (hm.drew).del_run filesT (u := x) hx 0
  have hb := upd_dr_grown hg2
  go_simp
  refine hK.out _ _ hb (fun hHeld => ?_)
  clear hK K
  try simp only [Act.put, List.setIfInBounds_toArray, List.set_cons_zero, List.set_cons_succ]
  refine wpAnyH_done (by kernel_rfl) ?_ _
  have hm3 := files_del hr rfl hm2
  have hr2 := delF_rises (x := x) hr
  have hl2 : (delF s.L x).length < 1000000 := Nat.lt_of_le_of_lt (List.length_filter_le _ _) hlen
  have hU1 := hb
  clear hb hrun hHeld hm2
  go_wp2
  have hb := hU1.drew
  refine wp_region_held_drew (S := fun v => Upd (fun k => k = b) u v) (by kernel_rfl) hb (fun hHeld => ?_)
  refine takeH 0 9 (v := ?_) rfl rfl (by kernel_rfl) (by kernel_rfl) (by kernel_rfl) (fun _ _ _ h => h) (Or.inl ⟨by kernel_rfl, ?_⟩) hHeld ?_
  rotate_left 1
  · (intro v hSw; (try dsimp only at hSw); have q0 := (hpd.upd hSw nd).at 0 rfl; clear hSw; go_simp; (try with_reducible rfl))
  try simp only [Act.put, List.setIfInBounds_toArray, List.set_cons_zero, List.set_cons_succ]
  refine takeH 1 10 (v := ?_) rfl rfl (by kernel_rfl) (by kernel_rfl) (by kernel_rfl) (fun _ _ _ h => h) (Or.inl ⟨by kernel_rfl, ?_⟩) hHeld ?_
  rotate_left 1
  · (intro v hSw; (try dsimp only at hSw); clear hSw; go_simp; (try with_reducible rfl))
  try simp only [Act.put, List.setIfInBounds_toArray, List.set_cons_zero, List.set_cons_succ]
  refine takeH 2 11 (v := ?_) rfl rfl (by kernel_rfl) (by kernel_rfl) (by kernel_rfl) (fun _ _ _ h => h) (Or.inl ⟨by kernel_rfl, ?_⟩) hHeld ?_
  rotate_left 1
  · (intro v hSw; (try dsimp only at hSw); clear hSw; go_simp; (try with_reducible rfl))
  try simp only [Act.put, List.setIfInBounds_toArray, List.set_cons_zero, List.set_cons_succ]
  refine takeH 3 12 (v := ?_) rfl rfl (by kernel_rfl) (by kernel_rfl) (by kernel_rfl) (fun _ _ _ h => h) (Or.inl ⟨by kernel_rfl, ?_⟩) hHeld ?_
  rotate_left 1
  · (intro v hSw; (try dsimp only at hSw); have q0 := (hdd.upd hSw hbd.symm).at 0 rfl; clear hSw; go_simp; (try with_reducible rfl))
  try simp only [Act.put, List.setIfInBounds_toArray, List.set_cons_zero, List.set_cons_succ]
  refine takeH 4 13 (v := ?_) rfl rfl (by kernel_rfl) (by kernel_rfl) (by kernel_rfl) (fun _ _ _ h => h) (Or.inl ⟨by kernel_rfl, ?_⟩) hHeld ?_
  rotate_left 1
  · (intro v hSw; (try dsimp only at hSw); have q0 := (ht.upd hSw nt).at 0 rfl; clear hSw; go_simp; (try with_reducible rfl))
  try simp only [Act.put, List.setIfInBounds_toArray, List.set_cons_zero, List.set_cons_succ]
  refine takeH 5 14 (v := ?_) rfl rfl (by kernel_rfl) (by kernel_rfl) (by kernel_rfl) (fun _ _ _ h => h) (Or.inl ⟨by kernel_rfl, ?_⟩) hHeld ?_
  rotate_left 1
  · (intro v hSw; (try dsimp only at hSw); have q0 := (hf.upd hSw nf).at 0 rfl; have q1 := (hf.upd hSw nf).at 1 rfl; clear hSw; go_simp; (try with_reducible rfl))
  try simp only [Act.put, List.setIfInBounds_toArray, List.set_cons_zero, List.set_cons_succ]
  refine wpAnyH_ready (rs := [6]) (by kernel_rfl) (by simp) ?_
  refine AllReadyH.cons rfl (fun K hK => ?_) AllReadyH.nil
  obtain ⟨w3, hrun, hm2, hg3⟩ := (hm3.drew).put_run filesT (by unfold maxLen; omega) (u := y) hy (fb, fs)
  unfold evF at hrun
  have hb := hU1.trans (upd_dr_grown hg3) (fun i hi _ => hi)
  go_simp
  refine hK.out _ _ hb (fun hHeld => ?_)
  clear hK K
  try simp only [Act.put, List.setIfInBounds_toArray, List.set_cons_zero, List.set_cons_succ]
  refine wpAnyH_done (by kernel_rfl) ?_ _
  have hmm := hm2
  go_end0
  exact ⟨rfl, files_set hr2 rfl hm2, hb⟩
end Go.Proofs.Ytgpdbifgbabnnaa
