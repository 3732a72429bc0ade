/- The laws' 'same' at two disks in one state, and 'great'. Conditions: the disks are right, of less than 900000 files. Written by gen_dlB.py. -/
import Derived.Test.YtgpdbifgbabnnaaDrD
import Derived.Test.YtgpdbifgbabnnaaDkE
import Derived.Test.YtgpdbifgbabnnaaDkG0
namespace Go.Proofs.Ytgpdbifgbabnnaa
open Go.RowKit
set_option linter.unusedVariables false
set_option linter.unusedSimpArgs false
theorem rdD_at {s : DS} (ho : DOk s) (hoff : s.off = false) {k : Nat} (hk : k < s.L.length) : rdD s s.L[k].n = (s.L[k].b, s.L[k].s, 0) := by
  unfold rdD
  rw [if_neg (by rw [hoff]; simp), getF_at ho.rise hk]
set_option maxRecDepth 100000 in
set_option maxHeartbeats 12800000 in
theorem same_any (hLi : ListOk) (w : World) (d b q : Nat) (v : Value) (s : DS) (hD : Disk w d b s) (hQ : DD w q v s) (ho : DOk s) (hL : s.L.length < 900000) :
    Calls Try.prog 13 #[.pointer (some ⟨d, 0, none⟩), .pointer (some ⟨q, 0, none⟩)] w fun e w' => e = .returned (.bool true) ∧ Below w.heap.size w w' := by
  have cL := hLi w d b s hD ho (by omega)
  have hD' := Lib.hid hD; have hQ' := Lib.hid hQ; have hLi' := Lib.hid hLi
  clear hLi
  clear hD hQ
  go_enter Try.func13, Try.ntmps13
  go_wp2_with (first
    | (go_at_call 14; (with_reducible refine cL.mono ?_); clear cL; rintro e w1 ⟨l1, rfl, O1, B1⟩; obtain ⟨la, lc, rfl⟩ := O1.lens)
    | (go_at_call 38; (with_reducible refine (dlist_any w1 q v s (hQ'.out.pure B1) (by omega)).mono ?_); rintro e w2 ⟨l2, rfl, O2, B2⟩; obtain ⟨ma, mc, rfl⟩ := O2.lens))
  have A2 := B1.trans (B2.mono B1.size)
  have O1w := O1.pure B2
  have hn : (s.L.map Fl.n).length = s.L.length := List.length_map ..
  rw [hn] at O1 O1w O2
  have D2 := hD'.out.pure A2
  have Q2 := hQ'.out.pure A2
  have O1' := Lib.hid O1w; have O2' := Lib.hid O2
  clear O1 O1w O2 B1 B2
  have hz2 := A2.size
  have hb := ((Below.refl _ w2).drew : Below w2.heap.size w2 w2.drew)
  refine wp_region_held_drew (S := fun v => Below w2.heap.size w2 v) (by kernel_rfl) hb (fun hHeld => ?_)
  refine takeH 0 17 (v := ?_) rfl rfl (by kernel_rfl) (by kernel_rfl) (by kernel_rfl) (fun _ _ _ h => h) (Or.inl ⟨by kernel_rfl, ?_⟩) hHeld ?_
  rotate_left 1
  · (intro v hSw; (try dsimp only at hSw); clear hSw; go_simp; (try with_reducible rfl))
  try simp only [Act.put, List.setIfInBounds_toArray, List.set_cons_zero, List.set_cons_succ]
  refine takeH 1 18 (v := ?_) rfl rfl (by kernel_rfl) (by kernel_rfl) (by kernel_rfl) (fun _ _ _ h => h) (Or.inl ⟨by kernel_rfl, ?_⟩) hHeld ?_
  rotate_left 1
  · (intro v hSw; (try dsimp only at hSw); clear hSw; go_simp; (try with_reducible rfl))
  try simp only [Act.put, List.setIfInBounds_toArray, List.set_cons_zero, List.set_cons_succ]
  refine takeH 2 19 (v := ?_) rfl rfl (by kernel_rfl) (by kernel_rfl) (by kernel_rfl) (fun _ _ _ h => h) (Or.inl ⟨by kernel_rfl, ?_⟩) hHeld ?_
  rotate_left 1
  · (intro v hSw; (try dsimp only at hSw); clear hSw; go_simp; (try with_reducible rfl))
  try simp only [Act.put, List.setIfInBounds_toArray, List.set_cons_zero, List.set_cons_succ]
  refine takeH 3 20 (v := ?_) rfl rfl (by kernel_rfl) (by kernel_rfl) (by kernel_rfl) (fun _ _ _ h => h) (Or.inl ⟨by kernel_rfl, ?_⟩) hHeld ?_
  rotate_left 1
  · (intro v hSw; (try dsimp only at hSw); clear hSw; go_simp; (try with_reducible rfl))
  try simp only [Act.put, List.setIfInBounds_toArray, List.set_cons_zero, List.set_cons_succ]
  refine takeH 4 21 (v := ?_) rfl rfl (by kernel_rfl) (by kernel_rfl) (by kernel_rfl) (fun _ _ _ h => h) (Or.inl ⟨by kernel_rfl, ?_⟩) hHeld ?_
  rotate_left 1
  · (intro v hSw; (try dsimp only at hSw); clear hSw; go_simp; (try with_reducible rfl))
  try simp only [Act.put, List.setIfInBounds_toArray, List.set_cons_zero, List.set_cons_succ]
  refine takeH 5 22 (v := ?_) rfl rfl (by kernel_rfl) (by kernel_rfl) (by kernel_rfl) (fun _ _ _ h => h) (Or.inl ⟨by kernel_rfl, ?_⟩) hHeld ?_
  rotate_left 1
  · (intro v hSw; (try dsimp only at hSw); clear hSw; go_simp; (try with_reducible rfl))
  try simp only [Act.put, List.setIfInBounds_toArray, List.set_cons_zero, List.set_cons_succ]
  refine takeH 6 23 (v := ?_) rfl rfl (by kernel_rfl) (by kernel_rfl) (by kernel_rfl) (fun _ _ _ h => h) (Or.inl ⟨by kernel_rfl, ?_⟩) hHeld ?_
  rotate_left 1
  · (intro v hSw; (try dsimp only at hSw); clear hSw; go_simp; (try with_reducible rfl))
  try simp only [Act.put, List.setIfInBounds_toArray, List.set_cons_zero, List.set_cons_succ]
  refine takeH 8 25 (v := ?_) rfl rfl (by kernel_rfl) (by kernel_rfl) (by kernel_rfl) (fun _ _ _ h => h) (Or.inl ⟨by kernel_rfl, ?_⟩) hHeld ?_
  rotate_left 1
  · (intro v hSw; (try dsimp only at hSw); clear hSw; go_simp; (try with_reducible rfl))
  try simp only [Act.put, List.setIfInBounds_toArray, List.set_cons_zero, List.set_cons_succ]
  refine wpAnyH_ready (rs := [7]) (by kernel_rfl) (by simp) ?_
  refine AllReadyH.cons rfl (fun Kq hKq => ?_) AllReadyH.nil
  go_simp
  (go_at_call 16; (with_reducible refine (used_any _ d b s (D2.pure hb) ho).mono ?_); rintro e w3 ⟨rfl, B3⟩)
  have hb : Below w2.heap.size w2 w3 := hb.trans (B3.mono hb.size)
  refine hKq.out _ _ hb (fun hHeld => ?_)
  clear hKq Kq
  try simp only [Act.put, List.setIfInBounds_toArray, List.set_cons_zero, List.set_cons_succ]
  refine wpAnyH_ready (rs := [9]) (by kernel_rfl) (by simp) ?_
  refine AllReadyH.cons rfl (fun Kq hKq => ?_) AllReadyH.nil
  go_simp
  (go_at_call 39; (with_reducible refine (dused_any _ q v s (Q2.pure hb) ho (by omega)).mono ?_); rintro e _ ⟨rfl, rfl⟩)
  refine hKq.out _ _ hb (fun hHeld => ?_)
  clear hKq Kq
  try simp only [Act.put, List.setIfInBounds_toArray, List.set_cons_zero, List.set_cons_succ]
  refine takeH 10 27 (v := ?_) rfl rfl (by kernel_rfl) (by kernel_rfl) (by kernel_rfl) (fun _ _ _ h => h) (Or.inl ⟨by kernel_rfl, ?_⟩) hHeld ?_
  rotate_left 1
  · (intro v hSw; (try dsimp only at hSw); clear hSw; go_simp; (try with_reducible rfl))
  try simp only [Act.put, List.setIfInBounds_toArray, List.set_cons_zero, List.set_cons_succ]
  refine takeH 11 28 (v := ?_) rfl rfl (by kernel_rfl) (by kernel_rfl) (by kernel_rfl) (fun _ _ _ h => h) (Or.inl ⟨by kernel_rfl, ?_⟩) hHeld ?_
  rotate_left 1
  · (intro v hSw; (try dsimp only at hSw); clear hSw; go_simp; (try with_reducible rfl))
  try simp only [Act.put, List.setIfInBounds_toArray, List.set_cons_zero, List.set_cons_succ]
  refine takeH 12 29 (v := ?_) rfl rfl (by kernel_rfl) (by kernel_rfl) (by kernel_rfl) (fun _ _ _ h => h) (Or.inl ⟨by kernel_rfl, ?_⟩) hHeld ?_
  rotate_left 1
  · (intro v hSw; (try dsimp only at hSw); clear hSw; go_simp; (try with_reducible rfl))
  try simp only [Act.put, List.setIfInBounds_toArray, List.set_cons_zero, List.set_cons_succ]
  refine takeH 13 30 (v := ?_) rfl rfl (by kernel_rfl) (by kernel_rfl) (by kernel_rfl) (fun _ _ _ h => h) (Or.inl ⟨by kernel_rfl, ?_⟩) hHeld ?_
  rotate_left 1
  · (intro v hSw; (try dsimp only at hSw); clear hSw; go_simp; (try with_reducible rfl))
  try simp only [Act.put, List.setIfInBounds_toArray, List.set_cons_zero, List.set_cons_succ]
  refine takeH 15 32 (v := ?_) rfl rfl (by kernel_rfl) (by kernel_rfl) (by kernel_rfl) (fun _ _ _ h => h) (Or.inl ⟨by kernel_rfl, ?_⟩) hHeld ?_
  rotate_left 1
  · (intro v hSw; (try dsimp only at hSw); clear hSw; go_simp; (try with_reducible rfl))
  try simp only [Act.put, List.setIfInBounds_toArray, List.set_cons_zero, List.set_cons_succ]
  refine takeH 16 33 (v := ?_) rfl rfl (by kernel_rfl) (by kernel_rfl) (by kernel_rfl) (fun _ _ _ h => h) (Or.inl ⟨by kernel_rfl, ?_⟩) hHeld ?_
  rotate_left 1
  · (intro v hSw; (try dsimp only at hSw); clear hSw; go_simp; (try with_reducible rfl))
  try simp only [Act.put, List.setIfInBounds_toArray, List.set_cons_zero, List.set_cons_succ]
  refine takeH 17 34 (v := ?_) rfl rfl (by kernel_rfl) (by kernel_rfl) (by kernel_rfl) (fun _ _ _ h => h) (Or.inl ⟨by kernel_rfl, ?_⟩) hHeld ?_
  rotate_left 1
  · (intro v hSw; (try dsimp only at hSw); clear hSw; go_simp; (try with_reducible rfl))
  try simp only [Act.put, List.setIfInBounds_toArray, List.set_cons_zero, List.set_cons_succ]
  refine takeH 18 35 (v := ?_) rfl rfl (by kernel_rfl) (by kernel_rfl) (by kernel_rfl) (fun _ _ _ h => h) (Or.inl ⟨by kernel_rfl, ?_⟩) hHeld ?_
  rotate_left 1
  · (intro v hSw; (try dsimp only at hSw); have q0 := (Q2.pure hSw).c3; clear hSw; go_simp; (try with_reducible rfl))
  try simp only [Act.put, List.setIfInBounds_toArray, List.set_cons_zero, List.set_cons_succ]
  refine wpAnyH_ready (rs := [14]) (by kernel_rfl) (by simp) ?_
  refine AllReadyH.cons rfl (fun Kq hKq => ?_) AllReadyH.nil
  go_simp
  (go_at_call 17; (with_reducible refine (down_ok _ d b s.off (D2.pure hb).c0 (D2.pure hb).c3).mono ?_); rintro e _ ⟨rfl, rfl⟩)
  refine hKq.out _ _ hb (fun hHeld => ?_)
  clear hKq Kq
  try simp only [Act.put, List.setIfInBounds_toArray, List.set_cons_zero, List.set_cons_succ]
  refine takeH 19 36 (v := ?_) rfl rfl (by kernel_rfl) (by kernel_rfl) (by kernel_rfl) (fun _ _ _ h => h) (Or.inl ⟨by kernel_rfl, ?_⟩) hHeld ?_
  rotate_left 1
  · (intro v hSw; (try dsimp only at hSw); clear hSw; go_simp; (try with_reducible rfl))
  try simp only [Act.put, List.setIfInBounds_toArray, List.set_cons_zero, List.set_cons_succ]
  refine takeH 20 37 (v := ?_) rfl rfl (by kernel_rfl) (by kernel_rfl) (by kernel_rfl) (fun _ _ _ h => h) (Or.inl ⟨by kernel_rfl, ?_⟩) hHeld ?_
  rotate_left 1
  · (intro v hSw; (try dsimp only at hSw); clear hSw; go_simp; (try with_reducible rfl))
  try simp only [Act.put, List.setIfInBounds_toArray, List.set_cons_zero, List.set_cons_succ]
  refine wpAnyH_done (by kernel_rfl) ?_ _
  clear hHeld
  have A3 := A2.trans (hb.mono A2.size)
  have B3' := hb
  clear hb
  have O1n := Lib.hid (O1'.out.pure B3'); have O2n := Lib.hid (O2'.out.pure B3')
  have D3 := D2.pure B3'
  have Q3 := Q2.pure B3'
  clear O1' O2' D2 Q2 B3' A2 hD' hQ'
  go_wp2
  go_loopw [7] (fun s7 wr => ∃ k : Nat, k ≤ s.L.length ∧ s7 = .int .i64 k ∧ Below w3.heap.size w3 wr) (fun s7 _ => s.L.length - (intOf s7).toNat)
  case atStart => exact ⟨0, by omega, rfl, by first | exact Below.refl _ _ | exact (Below.refl _ _).drew⟩
  case round =>
    obtain ⟨k, hk, rfl, hB⟩ := hrel
    by_cases hlt : k < s.L.length
    · have hkn : k < (s.L.map Fl.n).length := by rw [hn]; exact hlt
      obtain ⟨g1, c1, e1, h1, -⟩ := Own.atd strEnc_len (O1n.out.pure hB) k hkn
      obtain ⟨g2, c2, e2, h2, -⟩ := Own.atd strEnc_len (O2n.out.pure hB) k hkn
      have hnm : (s.L.map Fl.n)[k] = s.L[k].n := by simp
      have i1 := h1 0 (.string s.L[k].n) (by rw [hnm]; rfl)
      have i2 := h2 0 (.string s.L[k].n) (by rw [hnm]; rfl)
      simp only [Value.slice.injEq, Nat.mul_one, Nat.add_zero, and_true, true_and, hn] at e1 e2 i1 i2
      obtain ⟨rfl, rfl⟩ := e1
      obtain ⟨rfl, rfl⟩ := e2
      clear h1 h2 hnm
      go_wp2
      have hb := ((Below.refl _ wr).drew : Below wr.heap.size wr wr.drew)
      refine wp_region_held_drew (S := fun v => Below wr.heap.size wr v) (by kernel_rfl) hb (fun hHeld => ?_)
      refine takeH 0 44 (v := ?_) rfl rfl (by kernel_rfl) (by kernel_rfl) (by kernel_rfl) (fun _ _ _ h => h) (Or.inl ⟨by kernel_rfl, ?_⟩) hHeld ?_
      rotate_left 1
      · (intro v hSw; (try dsimp only at hSw); clear hSw; go_simp; (try with_reducible rfl))
      try simp only [Act.put, List.setIfInBounds_toArray, List.set_cons_zero, List.set_cons_succ]
      refine takeH 1 45 (v := ?_) rfl rfl (by kernel_rfl) (by kernel_rfl) (by kernel_rfl) (fun _ _ _ h => h) (Or.inl ⟨by kernel_rfl, ?_⟩) hHeld ?_
      rotate_left 1
      · (intro v hSw; (try dsimp only at hSw); clear hSw; go_simp; (try with_reducible rfl))
      try simp only [Act.put, List.setIfInBounds_toArray, List.set_cons_zero, List.set_cons_succ]
      refine takeH 2 46 (v := ?_) rfl rfl (by kernel_rfl) (by kernel_rfl) (by kernel_rfl) (fun _ _ _ h => h) (Or.inl ⟨by kernel_rfl, ?_⟩) hHeld ?_
      rotate_left 1
      · (intro v hSw; (try dsimp only at hSw); clear hSw; go_simp; (try with_reducible rfl))
      try simp only [Act.put, List.setIfInBounds_toArray, List.set_cons_zero, List.set_cons_succ]
      refine takeH 3 47 (v := ?_) rfl rfl (by kernel_rfl) (by kernel_rfl) (by kernel_rfl) (fun _ _ _ h => h) (Or.inl ⟨by kernel_rfl, ?_⟩) hHeld ?_
      rotate_left 1
      · (intro v hSw; (try dsimp only at hSw); have q0 := (hSw.cell (World.block_lt_of_cell? wr _ i1)).trans i1; clear hSw; go_simp; (try with_reducible rfl))
      try simp only [Act.put, List.setIfInBounds_toArray, List.set_cons_zero, List.set_cons_succ]
      refine takeH 4 48 (v := ?_) rfl rfl (by kernel_rfl) (by kernel_rfl) (by kernel_rfl) (fun _ _ _ h => h) (Or.inl ⟨by kernel_rfl, ?_⟩) hHeld ?_
      rotate_left 1
      · (intro v hSw; (try dsimp only at hSw); clear hSw; go_simp; (try with_reducible rfl))
      try simp only [Act.put, List.setIfInBounds_toArray, List.set_cons_zero, List.set_cons_succ]
      refine takeH 5 49 (v := ?_) rfl rfl (by kernel_rfl) (by kernel_rfl) (by kernel_rfl) (fun _ _ _ h => h) (Or.inl ⟨by kernel_rfl, ?_⟩) hHeld ?_
      rotate_left 1
      · (intro v hSw; (try dsimp only at hSw); clear hSw; go_simp; (try with_reducible rfl))
      try simp only [Act.put, List.setIfInBounds_toArray, List.set_cons_zero, List.set_cons_succ]
      refine takeH 6 50 (v := ?_) rfl rfl (by kernel_rfl) (by kernel_rfl) (by kernel_rfl) (fun _ _ _ h => h) (Or.inl ⟨by kernel_rfl, ?_⟩) hHeld ?_
      rotate_left 1
      · (intro v hSw; (try dsimp only at hSw); clear hSw; go_simp; (try with_reducible rfl))
      try simp only [Act.put, List.setIfInBounds_toArray, List.set_cons_zero, List.set_cons_succ]
      refine takeH 7 51 (v := ?_) rfl rfl (by kernel_rfl) (by kernel_rfl) (by kernel_rfl) (fun _ _ _ h => h) (Or.inl ⟨by kernel_rfl, ?_⟩) hHeld ?_
      rotate_left 1
      · (intro v hSw; (try dsimp only at hSw); have q0 := (hSw.cell (World.block_lt_of_cell? wr _ i2)).trans i2; clear hSw; go_simp; (try with_reducible rfl))
      try simp only [Act.put, List.setIfInBounds_toArray, List.set_cons_zero, List.set_cons_succ]
      refine takeH 8 52 (v := ?_) rfl rfl (by kernel_rfl) (by kernel_rfl) (by kernel_rfl) (fun _ _ _ h => h) (Or.inl ⟨by kernel_rfl, ?_⟩) hHeld ?_
      rotate_left 1
      · (intro v hSw; (try dsimp only at hSw); clear hSw; go_simp; (try with_reducible rfl))
      try simp only [Act.put, List.setIfInBounds_toArray, List.set_cons_zero, List.set_cons_succ]
      refine wpAnyH_done (by kernel_rfl) ?_ _
      clear hHeld
      have hBn := hB.trans (hb.mono hB.size)
      clear hb
      go_wp2
      go_roundw
      case rel => exact ⟨k + 1, by omega, by go_num, hBn⟩
      case measure => simp [intOf]; omega
    · obtain ⟨wo, rfl⟩ : ∃ wo, wo = wr := ⟨_, rfl⟩
      have D4 := D3.pure hB
      have Q4 := Q3.pure hB
      have A4 := A3.trans (hB.mono A3.size)
      clear D3 Q3 hB O1n O2n
      obtain ⟨va, vc, rfl⟩ := Q4.2.1.lens
      have hoo := Lib.hid ho; clear ho
      go_wp2
      go_loopw [8] (fun s8 wr => ∃ k : Nat, k ≤ s.L.length ∧ s8 = .int .i64 k ∧ Below wo.heap.size wo wr) (fun s8 _ => s.L.length - (intOf s8).toNat)
      case atStart => exact ⟨0, by omega, rfl, Below.refl _ _⟩
      case round =>
        obtain ⟨k, hk, rfl, hB⟩ := hrel
        have D5 := D4.pure hB
        have Q5 := Q4.pure hB
        have c0 := Q5.c0
        have c3 := Q5.c3
        by_cases hlt : k < s.L.length
        · cases hoff : s.off
          · rw [hoff] at c3
            obtain ⟨g, cap, ev, hc, -⟩ := Own.atd flEnc_len Q5.2.1 k hlt
            have hc0 := hc 0 (.string s.L[k].n) rfl; have hc1 := hc 1 (.string s.L[k].b) rfl; have hc2 := hc 2 (.int .i64 s.L[k].s) rfl
            simp only [Value.slice.injEq, Nat.add_zero, and_true, true_and] at ev hc0
            obtain ⟨rfl, rfl⟩ := ev
            clear hc
            have hrd := rdD_at hoo.out hoff hlt
            have hxo := mayN_ok (hoo.out.file _ (List.getElem_mem hlt)).1
            have cR := read_any wr d b s s.L[k].n D5 hxo
            have cS := fun wx (hx : Disk wx d b s) => safe_any wx d b s s.L[k].n hx hxo
            rw [hrd] at cR cS
            simp only at cR cS
            have cS' := Lib.hid cS; clear cS hrd
            have Q5' := Lib.hid Q5; clear Q5
            have c0' := c0; have c3' := c3
            go_wp2_with (first
              | (go_at_call 15; (with_reducible refine cR.mono ?_); clear cR; rintro e w5 ⟨rfl, B5⟩; have D6 := D5.pure B5; have k0 := (B5.cell (World.block_lt_of_cell? wr _ c0)).trans c0; have k3 := (B5.cell (World.block_lt_of_cell? wr _ hc0)).trans hc0)
              | (go_at_call 21; (with_reducible refine (cS'.out w5 D6).mono ?_); rintro e w6 ⟨rfl, B6⟩; have B7 := B5.trans (B6.mono B5.size); have m0 := (B7.cell (World.block_lt_of_cell? wr _ c0)).trans c0; have m1 := (B7.cell (World.block_lt_of_cell? wr _ hc1)).trans hc1; have m2 := (B7.cell (World.block_lt_of_cell? wr _ hc2)).trans hc2))
            have hBn := hB.trans (B7.mono hB.size)
            go_roundw
            case rel => exact ⟨k + 1, by omega, by go_num, hBn⟩
            case measure => simp [intOf]; omega
          · rw [hoff] at c3
            go_wp2
            go_ret
            exact ⟨rfl, A4.trans (hB.mono A4.size)⟩
        · go_wp2
          go_ret
          exact ⟨rfl, A4.trans (hB.mono A4.size)⟩

set_option maxRecDepth 100000 in
theorem great_any (w : World) (wh n : Int) (nm to : ByteArray) (ka : Option Addr) (kc kl : Nat) :
    Calls Try.prog 10 #[.agg #[.int .u8 wh, .string nm, .string to, .int .i64 n, .slice ka kl kc]] w fun e w' => e = .returned (.bool (decide (¬ (nm.size ≤ 100 ∧ to.size ≤ 2000 ∧ kl ≤ 100)))) ∧ Below w.heap.size w w' := by
  have hB : Below w.heap.size w (w.alloc (.cells #[.int .u8 wh, .string nm, .string to, .int .i64 n, .slice ka kl kc] 30)) := (Below.refl _ _).alloc (Nat.le_refl _) _
  by_cases h1 : nm.size ≤ 100
  · by_cases h2 : to.size ≤ 2000
    · by_cases h3 : kl ≤ 100
      · rw [decide_eq_false (by omega)]
        go_enter Try.func10, Try.ntmps10
        go_wp2
        go_ret
        exact ⟨by first | rfl | (simp; omega), hB⟩
      · rw [decide_eq_true (by omega)]
        go_enter Try.func10, Try.ntmps10
        go_wp2
        go_ret
        exact ⟨by first | rfl | (simp; omega), hB⟩
    · rw [decide_eq_true (by omega)]
      go_enter Try.func10, Try.ntmps10
      go_wp2
      go_ret
      exact ⟨by first | rfl | (simp; omega), hB⟩
  · rw [decide_eq_true (by omega)]
    go_enter Try.func10, Try.ntmps10
    go_wp2
    go_ret
    exact ⟨by first | rfl | (simp; omega), hB⟩
end Go.Proofs.Ytgpdbifgbabnnaa
