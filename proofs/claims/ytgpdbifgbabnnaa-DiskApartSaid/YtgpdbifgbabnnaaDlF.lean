/- The document's Copy; the law DiskApart. Conditions: the arguments read as rows of acts. Written by gen_dlF.py. -/
import Derived.Test.YtgpdbifgbabnnaaDlE
import Derived.Test.YtgpdbifgbabnnaaStepL
namespace Go.Proofs.Ytgpdbifgbabnnaa
open Go.RowKit
set_option linter.unusedVariables false
set_option linter.unusedSimpArgs false
set_option maxRecDepth 100000 in
set_option maxHeartbeats 3200000 in
theorem dcopy_any (w : World) (q : Nat) (v : Value) (s : DS) (h : DD w q v s) (hL : s.L.length < 900000) :
    Calls Try.prog 22 #[.pointer (some ⟨q, 0, none⟩)] w fun e w' => ∃ q2 v2, e = .returned (.pointer (some ⟨q2, 0, none⟩)) ∧ DD w' q2 v2 s ∧ (∀ i, DQ q2 v2 i → w.heap.size ≤ i) ∧ Below w.heap.size w w' := by
  have c0 := h.c0
  have hsrc := h.drew.slc
  obtain ⟨va, vc, rfl⟩ := h.2.1.lens
  have h' := Lib.hid h; clear h
  go_enter Try.func22, Try.ntmps22
  go_wp2
  have hb := ((Below.refl _ w).drew : Below w.heap.size w w.drew)
  refine wp_region_held_drew (S := fun v => Below w.heap.size w v) (by kernel_rfl) hb (fun hHeld => ?_)
  refine takeH 0 4 (v := ?_) rfl rfl (by kernel_rfl) (by kernel_rfl) (by kernel_rfl) (fun _ _ _ h => h) (Or.inl ⟨by kernel_rfl, ?_⟩) hHeld ?_
  rotate_left 1
  · (intro v hSw; (try dsimp only at hSw); clear hSw; go_simp; (try with_reducible rfl))
  try simp only [Act.put, List.setIfInBounds_toArray, List.set_cons_zero, List.set_cons_succ]
  refine takeH 1 5 (v := ?_) rfl rfl (by kernel_rfl) (by kernel_rfl) (by kernel_rfl) (fun _ _ _ h => h) (Or.inl ⟨by kernel_rfl, ?_⟩) hHeld ?_
  rotate_left 1
  · (intro v hSw; (try dsimp only at hSw); clear hSw; go_simp; (try with_reducible rfl))
  try simp only [Act.put, List.setIfInBounds_toArray, List.set_cons_zero, List.set_cons_succ]
  refine takeH 2 6 (v := ?_) rfl rfl (by kernel_rfl) (by kernel_rfl) (by kernel_rfl) (fun _ _ _ h => h) (Or.inl ⟨by kernel_rfl, ?_⟩) hHeld ?_
  rotate_left 1
  · (intro v hSw; (try dsimp only at hSw); clear hSw; go_simp; (try with_reducible rfl))
  try simp only [Act.put, List.setIfInBounds_toArray, List.set_cons_zero, List.set_cons_succ]
  refine takeH 3 7 (v := ?_) rfl rfl (by kernel_rfl) (by kernel_rfl) (by kernel_rfl) (fun _ _ _ h => h) (Or.inl ⟨by kernel_rfl, ?_⟩) hHeld ?_
  rotate_left 1
  · (intro v hSw; (try dsimp only at hSw); clear hSw; go_simp; (try with_reducible rfl))
  try simp only [Act.put, List.setIfInBounds_toArray, List.set_cons_zero, List.set_cons_succ]
  refine takeH 4 8 (v := ?_) rfl rfl (by kernel_rfl) (by kernel_rfl) (by kernel_rfl) (fun _ _ _ h => h) (Or.inl ⟨by kernel_rfl, ?_⟩) hHeld ?_
  rotate_left 1
  · (intro v hSw; (try dsimp only at hSw); have q0 := (h'.out.pure hSw).c0; clear hSw; go_simp; (try with_reducible rfl))
  try simp only [Act.put, List.setIfInBounds_toArray, List.set_cons_zero, List.set_cons_succ]
  refine takeH 6 10 (v := ?_) rfl rfl (by kernel_rfl) (by kernel_rfl) (by kernel_rfl) (fun _ _ _ h => h) (Or.inl ⟨by kernel_rfl, ?_⟩) hHeld ?_
  rotate_left 1
  · (intro v hSw; (try dsimp only at hSw); clear hSw; go_simp; (try with_reducible rfl))
  try simp only [Act.put, List.setIfInBounds_toArray, List.set_cons_zero, List.set_cons_succ]
  refine takeH 7 11 (v := ?_) rfl rfl (by kernel_rfl) (by kernel_rfl) (by kernel_rfl) (fun _ _ _ h => h) (Or.inl ⟨by kernel_rfl, ?_⟩) hHeld ?_
  rotate_left 1
  · (intro v hSw; (try dsimp only at hSw); clear hSw; go_simp; (try with_reducible rfl))
  try simp only [Act.put, List.setIfInBounds_toArray, List.set_cons_zero, List.set_cons_succ]
  refine takeH 8 12 (v := ?_) rfl rfl (by kernel_rfl) (by kernel_rfl) (by kernel_rfl) (fun _ _ _ h => h) (Or.inl ⟨by kernel_rfl, ?_⟩) hHeld ?_
  rotate_left 1
  · (intro v hSw; (try dsimp only at hSw); clear hSw; go_simp; (try with_reducible rfl))
  try simp only [Act.put, List.setIfInBounds_toArray, List.set_cons_zero, List.set_cons_succ]
  refine takeH 9 13 (v := ?_) rfl rfl (by kernel_rfl) (by kernel_rfl) (by kernel_rfl) (fun _ _ _ h => h) (Or.inl ⟨by kernel_rfl, ?_⟩) hHeld ?_
  rotate_left 1
  · (intro v hSw; (try dsimp only at hSw); have q0 := (h'.out.pure hSw).c1; clear hSw; go_simp; (try with_reducible rfl))
  try simp only [Act.put, List.setIfInBounds_toArray, List.set_cons_zero, List.set_cons_succ]
  refine takeH 10 14 (v := ?_) rfl rfl (by kernel_rfl) (by kernel_rfl) (by kernel_rfl) (fun _ _ _ h => h) (Or.inl ⟨by kernel_rfl, ?_⟩) hHeld ?_
  rotate_left 1
  · (intro v hSw; (try dsimp only at hSw); clear hSw; go_simp; (try with_reducible rfl))
  try simp only [Act.put, List.setIfInBounds_toArray, List.set_cons_zero, List.set_cons_succ]
  refine takeH 11 15 (v := ?_) rfl rfl (by kernel_rfl) (by kernel_rfl) (by kernel_rfl) (fun _ _ _ h => h) (Or.inl ⟨by kernel_rfl, ?_⟩) hHeld ?_
  rotate_left 1
  · (intro v hSw; (try dsimp only at hSw); clear hSw; go_simp; (try with_reducible rfl))
  try simp only [Act.put, List.setIfInBounds_toArray, List.set_cons_zero, List.set_cons_succ]
  refine takeH 12 16 (v := ?_) rfl rfl (by kernel_rfl) (by kernel_rfl) (by kernel_rfl) (fun _ _ _ h => h) (Or.inl ⟨by kernel_rfl, ?_⟩) hHeld ?_
  rotate_left 1
  · (intro v hSw; (try dsimp only at hSw); clear hSw; go_simp; (try with_reducible rfl))
  try simp only [Act.put, List.setIfInBounds_toArray, List.set_cons_zero, List.set_cons_succ]
  refine takeH 13 17 (v := ?_) rfl rfl (by kernel_rfl) (by kernel_rfl) (by kernel_rfl) (fun _ _ _ h => h) (Or.inl ⟨by kernel_rfl, ?_⟩) hHeld ?_
  rotate_left 1
  · (intro v hSw; (try dsimp only at hSw); have q0 := (h'.out.pure hSw).c2; clear hSw; go_simp; (try with_reducible rfl))
  try simp only [Act.put, List.setIfInBounds_toArray, List.set_cons_zero, List.set_cons_succ]
  refine takeH 14 18 (v := ?_) rfl rfl (by kernel_rfl) (by kernel_rfl) (by kernel_rfl) (fun _ _ _ h => h) (Or.inl ⟨by kernel_rfl, ?_⟩) hHeld ?_
  rotate_left 1
  · (intro v hSw; (try dsimp only at hSw); clear hSw; go_simp; (try with_reducible rfl))
  try simp only [Act.put, List.setIfInBounds_toArray, List.set_cons_zero, List.set_cons_succ]
  refine takeH 15 19 (v := ?_) rfl rfl (by kernel_rfl) (by kernel_rfl) (by kernel_rfl) (fun _ _ _ h => h) (Or.inl ⟨by kernel_rfl, ?_⟩) hHeld ?_
  rotate_left 1
  · (intro v hSw; (try dsimp only at hSw); clear hSw; go_simp; (try with_reducible rfl))
  try simp only [Act.put, List.setIfInBounds_toArray, List.set_cons_zero, List.set_cons_succ]
  refine takeH 16 20 (v := ?_) rfl rfl (by kernel_rfl) (by kernel_rfl) (by kernel_rfl) (fun _ _ _ h => h) (Or.inl ⟨by kernel_rfl, ?_⟩) hHeld ?_
  rotate_left 1
  · (intro v hSw; (try dsimp only at hSw); clear hSw; go_simp; (try with_reducible rfl))
  try simp only [Act.put, List.setIfInBounds_toArray, List.set_cons_zero, List.set_cons_succ]
  refine takeH 17 21 (v := ?_) rfl rfl (by kernel_rfl) (by kernel_rfl) (by kernel_rfl) (fun _ _ _ h => h) (Or.inl ⟨by kernel_rfl, ?_⟩) hHeld ?_
  rotate_left 1
  · (intro v hSw; (try dsimp only at hSw); have q0 := (h'.out.pure hSw).c3; clear hSw; go_simp; (try with_reducible rfl))
  try simp only [Act.put, List.setIfInBounds_toArray, List.set_cons_zero, List.set_cons_succ]
  refine wpAnyH_ready (rs := [5]) (by kernel_rfl) (by simp) ?_
  refine AllReadyH.cons rfl (fun Kq hKq => ?_) AllReadyH.nil
  refine step_of_list rfl (wpList_app (base := w.heap.size) rfl (.tmp 4) (.tmp 8) 57 66 rfl elem_fl flEnc_len flEnc_one (.slice none 0 0) [] rfl Own.nil _ s.L rfl hsrc (by simp; unfold maxLen; omega) (by simp; omega) (Nat.le_refl _) ?_)
  intro v2 w1 hO hg hv2 _
  refine ⟨rfl, ?_⟩
  rw [List.nil_append] at hO
  obtain ⟨ba, bn, bc, rfl⟩ := hO.shape3
  have hb : Below w.heap.size w w1 := ((Below.refl _ w).drew).grown hg (Nat.le_refl _) (fun j e => by simp [Value.ownBlock] at e)
  refine hKq.out _ _ hb (fun hHeld => ?_)
  clear hKq Kq
  try simp only [Act.put, List.setIfInBounds_toArray, List.set_cons_zero, List.set_cons_succ]
  refine takeH 18 22 (v := ?_) rfl rfl (by kernel_rfl) (by kernel_rfl) (by kernel_rfl) (fun _ _ _ h => h) (Or.inl ⟨by kernel_rfl, ?_⟩) hHeld ?_
  rotate_left 1
  · (intro v hSw; (try dsimp only at hSw); clear hSw; go_simp; (try with_reducible rfl))
  try simp only [Act.put, List.setIfInBounds_toArray, List.set_cons_zero, List.set_cons_succ]
  have Bb : Below w.heap.size w (w1.alloc (.cells #[.slice ba bn bc, .int .i64 s.room, .int .i64 s.left, .bool s.off] 59)) := hb.alloc hb.size _
  have Kb : Blk (w1.alloc (.cells #[.slice ba bn bc, .int .i64 s.room, .int .i64 s.left, .bool s.off] 59)) w1.heap.size [.slice ba bn bc, .int .i64 s.room, .int .i64 s.left, .bool s.off] := Blk.new w1 [.slice ba bn bc, .int .i64 s.room, .int .i64 s.left, .bool s.off] 59
  have Ob : Own 0 66 3 flEnc (w1.alloc (.cells #[.slice ba bn bc, .int .i64 s.room, .int .i64 s.left, .bool s.off] 59)) (.slice ba bn bc) s.L := (hO.rebase (fun k hk => Nat.zero_le _)).alloc _
  have hz1 := hb.size
  refine wpAnyH_ready (rs := [19]) (by kernel_rfl) (by simp) ?_
  refine AllReadyH.cons rfl (fun Kq hKq => ?_) AllReadyH.nil
  go_simp
  have hb : Below w.heap.size w (w1.alloc (.cells #[.slice ba bn bc, .int .i64 s.room, .int .i64 s.left, .bool s.off] 59)) := Bb
  refine hKq.out _ _ hb (fun hHeld => ?_)
  clear hKq Kq
  try simp only [Act.put, List.setIfInBounds_toArray, List.set_cons_zero, List.set_cons_succ]
  refine wpAnyH_ready (rs := [20]) (by kernel_rfl) (by simp) ?_
  refine AllReadyH.cons rfl (fun Kq hKq => ?_) AllReadyH.nil
  go_simp
  refine hKq.out _ _ hb (fun hHeld => ?_)
  clear hKq Kq
  try simp only [Act.put, List.setIfInBounds_toArray, List.set_cons_zero, List.set_cons_succ]
  refine wpAnyH_done (by kernel_rfl) ?_ _
  clear hHeld
  go_wp2
  go_ret
  refine ⟨_, _, rfl, ⟨Kb, Ob, fun e => absurd (hO.lt e) (Nat.lt_irrefl _)⟩, fun i hi => ?_, Bb⟩
  rcases hi with rfl | hi
  · exact hz1
  · exact hO.ge hi

theorem Pr.join2 {base : Nat} {w1 w2 : World} {d b q : Nat} {v : Value} {s t : DS} (hD : Disk w1 d b s) (h1 : base ≤ d) (h2 : base ≤ b) (B2 : Below w1.heap.size w1 w2) (hQ : DD w2 q v t) (hk : ∀ i, DQ q v i → w1.heap.size ≤ i) : Pr (fun _ => False) base w2 d b q s t := by
  have hl := hD.lt
  refine ⟨v, hD.pure B2, hQ, ⟨h1, h2, by have := hk q (.inl rfl); omega, fun k hh => by have := hk k (.inr hh); omega⟩, fun k hh hd => ?_, fun k hk => hk.elim⟩
  have := hk k hh
  rcases hd with e | e <;> omega

set_option maxRecDepth 100000 in
set_option maxHeartbeats 12800000 in
theorem apart_any (hLi : ListOk) (hCl : CloneOk) (w : World) (v : Value) (C : List Ac) (vv : Value) (C2 : List Ac) (hS : Slc acEnc 5 w v C) (hC : ∀ x ∈ C, AcOk w x) (hS2 : Slc acEnc 5 w vv C2) (hC2 : ∀ x ∈ C2, AcOk w x) :
    Calls Try.prog 6 #[v, vv] w fun e w' => e = .returned (.bool true) ∧ Below w.heap.size w w' := by
  obtain ⟨va, vc, rfl, hm⟩ := hS.len
  obtain ⟨vva, vvc, rfl, hm2⟩ := hS2.len
  have hS' := Lib.hid hS; clear hS
  have hS2' := Lib.hid hS2; clear hS2
  have hC' := hC; clear hC
  have hC2' := hC2; clear hC2
  have hhead := head_any hLi
  have hhead' := Lib.hid hhead; clear hhead
  have ho0 : DOk ⟨[], maxI 200 0, 0, false⟩ := maxI_room (by omega)
  have ho0' := Lib.hid ho0; clear ho0
  have hLi' := Lib.hid hLi; clear hLi
  have hCl' := Lib.hid hCl; clear hCl
  have hnew := new_any w 200
  unfold maxLen at hm hm2
  go_enter Try.func6, Try.ntmps6
  go_wp2_with (first
    | (go_at_call 8; (with_reducible refine hnew.mono ?_); clear hnew; rintro e w1 ⟨rfl, B1, D1⟩)
    | (go_at_call 9; (with_reducible refine (dnew_any w1 200).mono ?_); rintro e w2 ⟨rfl, B2, Q2⟩; have P2 := Pr.start B1 D1 B2 Q2; have A2 := B1.trans (B2.mono B1.size); clear D1 Q2))
  have P2' := Lib.hid P2; clear P2
  have A2' := Lib.hid A2; clear A2
  go_loopw [7] (fun s7 wr => ∃ (k : Nat) (s : DS), k ≤ C.length ∧ k ≤ 30 ∧ s7 = .int .i64 k ∧ DOk s ∧ s.L.length ≤ k ∧ Pr (fun _ => False) w.heap.size wr (w.heap.size + 1) w.heap.size w1.heap.size s s ∧ Below w.heap.size w wr) (fun s7 _ => C.length - (intOf s7).toNat)
  case atStart => exact ⟨0, _, by omega, by omega, rfl, ho0'.out, by simp, P2'.out, A2'.out⟩
  case round =>
    obtain ⟨k, s, hk, hk6, rfl, ho, hl, hP, hB⟩ := hrel
    by_cases hgo2 : k < C.length ∧ k < 30
    · obtain ⟨hlt, h6⟩ := hgo2
      · obtain ⟨x, hx⟩ : ∃ x, x = C[k] := ⟨_, rfl⟩
        have hox : AcOk w x := by rw [hx]; exact hC' _ (List.getElem_mem hlt)
        obtain ⟨K, hK⟩ := hox.kp
        obtain ⟨ka, kc, hkv, -⟩ := hK.len
        obtain ⟨g, off, cap, ev, hc⟩ := hS'.out.atd k hlt
        rw [← hx] at hc
        obtain ⟨xw, xn, xt, xi, xk⟩ := x
        simp only at hkv hK hox
        subst hkv
        have hcs := fun u (hu : Below w.heap.size w u) => act_cells hc hu
        simp only [Value.slice.injEq, and_true, true_and] at ev
        obtain ⟨rfl, rfl⟩ := ev
        simp only at hcs
        obtain ⟨c0, c1, c2, c3, c4⟩ := hcs wr hB
        have hcs' := Lib.hid hcs; clear hcs
        have hw := hox.wh; have hi := hox.ii
        simp only at hw hi
        obtain ⟨hw0, hw1⟩ := hw
        have hKl := fun h0 => ints_low hK h0
        have hKr : ∀ u, Below w.heap.size w u → Slc (intEnc .i64) 1 u (.slice ka K.length kc) K := fun u hu => hK.low hu hKl
        clear hc hx hox
        have hg := great_any wr xw xi xn xt ka kc K.length
        by_cases hG : xn.size ≤ 100 ∧ xt.size ≤ 2000 ∧ K.length ≤ 100
        · rw [decide_eq_false (fun h => h hG)] at hg
          obtain ⟨hG1, hG2, hG3⟩ := hG
          have hgo : Calls Try.prog 10 #[.agg #[.int .u8 xw, .string xn, .string xt, .int .i64 xi, .slice ka K.length kc]] wr fun e w' => e = .returned (.bool false) ∧ Pr (fun _ => False) w.heap.size w' (w.heap.size + 1) w.heap.size w1.heap.size s s ∧ Below w.heap.size w w' := hg.mono fun e w' ⟨g1, g2⟩ => ⟨g1, (hP.pure g2).1, hB.trans (hP.pure g2).2.1⟩
          have hdo := fun u (hu : Pr (fun _ => False) w.heap.size u (w.heap.size + 1) w.heap.size w1.heap.size s s) (hb : Below w.heap.size w u) => does_any hLi'.out u (w.heap.size + 1) w.heap.size w1.heap.size s s xw xi xn xt ka kc K hu ho ho (by omega) (by omega) hw0 hw1 hG1 hG2 hi (hKr u hb) hKl
          have hso := stp_ok (c := xw % 9) (nm := xn) (to := xt) (n := xi) (K := K) ho hi.2
          have hsl := stp_len (c := xw % 9) (nm := xn) (to := xt) (n := xi) (K := K) ho hl
          have hdo' := Lib.hid hdo; clear hdo
          have hso' := Lib.hid hso; have hsl' := Lib.hid hsl; clear hso hsl
          clear hg hP ho
          go_wp2_with (first
            | (go_at_call 10; (with_reducible refine hgo.mono ?_); clear hgo; rintro e w3 ⟨rfl, P3, B3⟩; obtain ⟨e0, e1, e2, e3, e4⟩ := hcs'.out w3 B3)
            | (go_at_call 12; (with_reducible refine (hdo'.out w3 P3 B3).mono ?_); rintro e w4 ⟨r, rfl, hr4, P4, K4⟩; have B4 := B3.trans K4.1))
          go_roundw
          case rel => exact ⟨k + 1, _, by omega, by omega, by go_num, hso'.out, hsl'.out, P4, B4⟩
          case measure => simp [intOf]; omega
        · rw [decide_eq_true hG] at hg
          have hgo : Calls Try.prog 10 #[.agg #[.int .u8 xw, .string xn, .string xt, .int .i64 xi, .slice ka K.length kc]] wr fun e w' => e = .returned (.bool true) ∧ Below w.heap.size w w' := hg.mono fun e w' ⟨g1, g2⟩ => ⟨g1, hB.trans (hP.pure g2).2.1⟩
          clear hg hP ho
          go_wp2_with (first
            | (go_at_call 10; (with_reducible refine hgo.mono ?_); clear hgo; rintro e w3 ⟨rfl, B3⟩)
            | (go_at_call 11; (with_reducible refine (hhead'.out w3).mono ?_); rintro e w4 ⟨rfl, B4⟩))
          go_ret
          exact ⟨rfl, B3.trans (B4.mono B3.size)⟩
    · by_cases hlt : k < C.length
      · have h6 : ¬ k < 30 := fun h => hgo2 ⟨hlt, h⟩
        clear hgo2
        have hl30 : s.L.length ≤ 30 := by omega
        obtain ⟨v0, g1, g2, g3, g4, -⟩ := hP
        have hsz := hB.size
        have hBw := hB
        have cC := copy_any hCl'.out wr _ _ s g1
        have hoo := Lib.hid ho; clear ho
        clear hC'
        go_wp2_with (first
          | (go_at_call 18; (with_reducible refine cC.mono ?_); clear cC; rintro e w3 ⟨d2, b2, rfl, E3, hd2, hb2, B3⟩; have F3 := g2.pure B3; have cQ := dcopy_any w3 _ v0 s F3 (by omega))
          | (go_at_call 22; (with_reducible refine cQ.mono ?_); clear cQ; rintro e w4 ⟨q2, v2, rfl, F4, hq2, B4⟩))
        have P5 := Pr.join2 (base := wr.heap.size) E3 hd2 hb2 B4 F4 hq2
        have A5 : Below wr.heap.size wr w4 := B3.trans (B4.mono B3.size)
        have P5' := Lib.hid P5; have A5' := Lib.hid A5
        clear P5 A5 E3 B3 F3 F4 B4 hq2
        obtain ⟨wo, rfl⟩ : ∃ wo, wo = wr := ⟨_, rfl⟩
        go_loopw [10] (fun s10 wr => ∃ (k : Nat) (u : DS), k ≤ C2.length ∧ k ≤ 30 ∧ s10 = .int .i64 k ∧ DOk u ∧ u.L.length ≤ 30 + k ∧ Pr (fun _ => False) wo.heap.size wr d2 b2 q2 u u ∧ Below wo.heap.size wo wr) (fun s10 _ => C2.length - (intOf s10).toNat)
        case atStart => exact ⟨0, s, by omega, by omega, rfl, hoo.out, by omega, P5'.out, A5'.out⟩
        case round =>
          obtain ⟨k, u, hk, hk6, rfl, hou, hl, hP, hBo⟩ := hrel
          have hB := hB.trans (hBo.mono hsz)
          have hend : Calls Try.prog 11 #[] wr fun e w' => e = .returned (.bool true) ∧ Below w.heap.size w w' := (hhead'.out wr).mono fun e w' ⟨h1, h2⟩ => ⟨h1, hB.trans (h2.mono hB.size)⟩
          by_cases hlt : k < C2.length
          · by_cases h6 : k < 30
            · obtain ⟨x, hx⟩ : ∃ x, x = C2[k] := ⟨_, rfl⟩
              have hox : AcOk w x := by rw [hx]; exact hC2' _ (List.getElem_mem hlt)
              obtain ⟨K, hK⟩ := hox.kp
              obtain ⟨ka, kc, hkv, -⟩ := hK.len
              obtain ⟨g, off, cap, ev, hc⟩ := hS2'.out.atd k hlt
              rw [← hx] at hc
              obtain ⟨xw, xn, xt, xi, xk⟩ := x
              simp only at hkv hK hox
              subst hkv
              have hcs := fun u (hu : Below w.heap.size w u) => act_cells hc hu
              simp only [Value.slice.injEq, and_true, true_and] at ev
              obtain ⟨rfl, rfl⟩ := ev
              simp only at hcs
              obtain ⟨c0, c1, c2, c3, c4⟩ := hcs wr hB
              have hcs' := Lib.hid hcs; clear hcs
              have hw := hox.wh; have hi := hox.ii
              simp only at hw hi
              obtain ⟨hw0, hw1⟩ := hw
              have hKl := fun h0 => ints_low hK h0
              have hKr : ∀ u, Below w.heap.size w u → Slc (intEnc .i64) 1 u (.slice ka K.length kc) K := fun u hu => hK.low hu hKl
              clear hc hx hox
              have hg := great_any wr xw xi xn xt ka kc K.length
              by_cases hG : xn.size ≤ 100 ∧ xt.size ≤ 2000 ∧ K.length ≤ 100
              · rw [decide_eq_false (fun h => h hG)] at hg
                obtain ⟨hG1, hG2, hG3⟩ := hG
                have hgo : Calls Try.prog 10 #[.agg #[.int .u8 xw, .string xn, .string xt, .int .i64 xi, .slice ka K.length kc]] wr fun e w' => e = .returned (.bool false) ∧ Pr (fun _ => False) wo.heap.size w' d2 b2 q2 u u ∧ Below wo.heap.size wo w' := hg.mono fun e w' ⟨g1, g2⟩ => ⟨g1, (hP.pure g2).1, hBo.trans (hP.pure g2).2.1⟩
                have hdo := fun y (hy : Pr (fun _ => False) wo.heap.size y d2 b2 q2 u u) (hb : Below wo.heap.size wo y) => does_any hLi'.out y d2 b2 q2 u u xw xi xn xt ka kc K hy hou hou (by omega) (by omega) hw0 hw1 hG1 hG2 hi (hKr y (hBw.trans (hb.mono hsz))) (fun h0 i hh => Nat.lt_of_lt_of_le (hKl h0 i hh) hsz)
                have hsa := fun y (hy : Pr (fun _ => False) wo.heap.size y d2 b2 q2 (stp (xw % 9) u xn xt xi K) (stp (xw % 9) u xn xt xi K)) => Pr.callS hLi'.out hy (stp_ok (K := K) hou hi.2) (by have := stp_len (c := xw % 9) (nm := xn) (to := xt) (n := xi) (K := K) hou hl; omega)
                have hsb := fun y (hy : Below wo.heap.size wo y) => same_any hLi'.out y _ _ _ v0 s (g1.pure hy) (g2.pure hy) hoo.out (by omega)
                have hso := stp_ok (c := xw % 9) (nm := xn) (to := xt) (n := xi) (K := K) hou hi.2
                have hsl := stp_len (c := xw % 9) (nm := xn) (to := xt) (n := xi) (K := K) hou hl
                have hdo' := Lib.hid hdo; have hsa' := Lib.hid hsa; have hsb' := Lib.hid hsb; clear hdo hsa hsb
                have hso' := Lib.hid hso; have hsl' := Lib.hid hsl; clear hso hsl
                have hcw := fun y (hy : Below wo.heap.size wo y) => hcs'.out y (hBw.trans (hy.mono hsz))
                have hcw' := Lib.hid hcw; clear hcw
                clear hg hend hP hou
                go_wp2_with (first
                  | (go_at_call 10; (with_reducible refine hgo.mono ?_); clear hgo; rintro e w5 ⟨rfl, P5, B5⟩; obtain ⟨e0, e1, e2, e3, e4⟩ := hcw'.out w5 B5)
                  | (go_at_call 12; (with_reducible refine (hdo'.out w5 P5 B5).mono ?_); rintro e w6 ⟨r, rfl, hr6, P6, K6⟩; obtain rfl : r = true := (by simpa using hr6); have B6 := B5.trans K6.1)
                  | (go_at_call 13; first
                    | ((with_reducible refine (hsa'.out w6 P6).mono ?_); rintro e w7 ⟨rfl, P7, K7⟩; have B7 := B6.trans K7.1)
                    | ((with_reducible refine (hsb'.out w7 B7).mono ?_); rintro e w8 ⟨rfl, B8⟩; have P8 := (P7.pure B8).1; have B9 := B7.trans (P7.pure B8).2.1)))
                go_roundw
                case rel => exact ⟨k + 1, _, by omega, by omega, by go_num, hso'.out, by have := hsl'.out; omega, P8, B9⟩
                case measure => simp [intOf]; omega
              · rw [decide_eq_true hG] at hg
                have hgo : Calls Try.prog 10 #[.agg #[.int .u8 xw, .string xn, .string xt, .int .i64 xi, .slice ka K.length kc]] wr fun e w' => e = .returned (.bool true) ∧ Below w.heap.size w w' := hg.mono fun e w' ⟨g1, g2⟩ => ⟨g1, hB.trans ((hP.pure g2).2.1.mono hsz)⟩
                clear hg hend hP hou
                go_wp2_with (first
                  | (go_at_call 10; (with_reducible refine hgo.mono ?_); clear hgo; rintro e w3 ⟨rfl, B3⟩)
                  | (go_at_call 11; (with_reducible refine (hhead'.out w3).mono ?_); rintro e w4 ⟨rfl, B4⟩))
                go_ret
                exact ⟨rfl, B3.trans (B4.mono B3.size)⟩
            · go_wp2_with (go_at_call 11; (with_reducible refine hend.mono ?_); clear hend; rintro e w9 ⟨rfl, B9⟩)
              go_ret
              exact ⟨rfl, B9⟩
          · go_wp2_with (go_at_call 11; (with_reducible refine hend.mono ?_); clear hend; rintro e w9 ⟨rfl, B9⟩)
            go_ret
            exact ⟨rfl, B9⟩
      · clear hgo2
        have hl30 : s.L.length ≤ 30 := by omega
        obtain ⟨v0, g1, g2, g3, g4, -⟩ := hP
        have hsz := hB.size
        have hBw := hB
        have cC := copy_any hCl'.out wr _ _ s g1
        have hoo := Lib.hid ho; clear ho
        clear hC'
        go_wp2_with (first
          | (go_at_call 18; (with_reducible refine cC.mono ?_); clear cC; rintro e w3 ⟨d2, b2, rfl, E3, hd2, hb2, B3⟩; have F3 := g2.pure B3; have cQ := dcopy_any w3 _ v0 s F3 (by omega))
          | (go_at_call 22; (with_reducible refine cQ.mono ?_); clear cQ; rintro e w4 ⟨q2, v2, rfl, F4, hq2, B4⟩))
        have P5 := Pr.join2 (base := wr.heap.size) E3 hd2 hb2 B4 F4 hq2
        have A5 : Below wr.heap.size wr w4 := B3.trans (B4.mono B3.size)
        have P5' := Lib.hid P5; have A5' := Lib.hid A5
        clear P5 A5 E3 B3 F3 F4 B4 hq2
        obtain ⟨wo, rfl⟩ : ∃ wo, wo = wr := ⟨_, rfl⟩
        go_loopw [10] (fun s10 wr => ∃ (k : Nat) (u : DS), k ≤ C2.length ∧ k ≤ 30 ∧ s10 = .int .i64 k ∧ DOk u ∧ u.L.length ≤ 30 + k ∧ Pr (fun _ => False) wo.heap.size wr d2 b2 q2 u u ∧ Below wo.heap.size wo wr) (fun s10 _ => C2.length - (intOf s10).toNat)
        case atStart => exact ⟨0, s, by omega, by omega, rfl, hoo.out, by omega, P5'.out, A5'.out⟩
        case round =>
          obtain ⟨k, u, hk, hk6, rfl, hou, hl, hP, hBo⟩ := hrel
          have hB := hB.trans (hBo.mono hsz)
          have hend : Calls Try.prog 11 #[] wr fun e w' => e = .returned (.bool true) ∧ Below w.heap.size w w' := (hhead'.out wr).mono fun e w' ⟨h1, h2⟩ => ⟨h1, hB.trans (h2.mono hB.size)⟩
          by_cases hlt : k < C2.length
          · by_cases h6 : k < 30
            · obtain ⟨x, hx⟩ : ∃ x, x = C2[k] := ⟨_, rfl⟩
              have hox : AcOk w x := by rw [hx]; exact hC2' _ (List.getElem_mem hlt)
              obtain ⟨K, hK⟩ := hox.kp
              obtain ⟨ka, kc, hkv, -⟩ := hK.len
              obtain ⟨g, off, cap, ev, hc⟩ := hS2'.out.atd k hlt
              rw [← hx] at hc
              obtain ⟨xw, xn, xt, xi, xk⟩ := x
              simp only at hkv hK hox
              subst hkv
              have hcs := fun u (hu : Below w.heap.size w u) => act_cells hc hu
              simp only [Value.slice.injEq, and_true, true_and] at ev
              obtain ⟨rfl, rfl⟩ := ev
              simp only at hcs
              obtain ⟨c0, c1, c2, c3, c4⟩ := hcs wr hB
              have hcs' := Lib.hid hcs; clear hcs
              have hw := hox.wh; have hi := hox.ii
              simp only at hw hi
              obtain ⟨hw0, hw1⟩ := hw
              have hKl := fun h0 => ints_low hK h0
              have hKr : ∀ u, Below w.heap.size w u → Slc (intEnc .i64) 1 u (.slice ka K.length kc) K := fun u hu => hK.low hu hKl
              clear hc hx hox
              have hg := great_any wr xw xi xn xt ka kc K.length
              by_cases hG : xn.size ≤ 100 ∧ xt.size ≤ 2000 ∧ K.length ≤ 100
              · rw [decide_eq_false (fun h => h hG)] at hg
                obtain ⟨hG1, hG2, hG3⟩ := hG
                have hgo : Calls Try.prog 10 #[.agg #[.int .u8 xw, .string xn, .string xt, .int .i64 xi, .slice ka K.length kc]] wr fun e w' => e = .returned (.bool false) ∧ Pr (fun _ => False) wo.heap.size w' d2 b2 q2 u u ∧ Below wo.heap.size wo w' := hg.mono fun e w' ⟨g1, g2⟩ => ⟨g1, (hP.pure g2).1, hBo.trans (hP.pure g2).2.1⟩
                have hdo := fun y (hy : Pr (fun _ => False) wo.heap.size y d2 b2 q2 u u) (hb : Below wo.heap.size wo y) => does_any hLi'.out y d2 b2 q2 u u xw xi xn xt ka kc K hy hou hou (by omega) (by omega) hw0 hw1 hG1 hG2 hi (hKr y (hBw.trans (hb.mono hsz))) (fun h0 i hh => Nat.lt_of_lt_of_le (hKl h0 i hh) hsz)
                have hsa := fun y (hy : Pr (fun _ => False) wo.heap.size y d2 b2 q2 (stp (xw % 9) u xn xt xi K) (stp (xw % 9) u xn xt xi K)) => Pr.callS hLi'.out hy (stp_ok (K := K) hou hi.2) (by have := stp_len (c := xw % 9) (nm := xn) (to := xt) (n := xi) (K := K) hou hl; omega)
                have hsb := fun y (hy : Below wo.heap.size wo y) => same_any hLi'.out y _ _ _ v0 s (g1.pure hy) (g2.pure hy) hoo.out (by omega)
                have hso := stp_ok (c := xw % 9) (nm := xn) (to := xt) (n := xi) (K := K) hou hi.2
                have hsl := stp_len (c := xw % 9) (nm := xn) (to := xt) (n := xi) (K := K) hou hl
                have hdo' := Lib.hid hdo; have hsa' := Lib.hid hsa; have hsb' := Lib.hid hsb; clear hdo hsa hsb
                have hso' := Lib.hid hso; have hsl' := Lib.hid hsl; clear hso hsl
                have hcw := fun y (hy : Below wo.heap.size wo y) => hcs'.out y (hBw.trans (hy.mono hsz))
                have hcw' := Lib.hid hcw; clear hcw
                clear hg hend hP hou
                go_wp2_with (first
                  | (go_at_call 10; (with_reducible refine hgo.mono ?_); clear hgo; rintro e w5 ⟨rfl, P5, B5⟩; obtain ⟨e0, e1, e2, e3, e4⟩ := hcw'.out w5 B5)
                  | (go_at_call 12; (with_reducible refine (hdo'.out w5 P5 B5).mono ?_); rintro e w6 ⟨r, rfl, hr6, P6, K6⟩; obtain rfl : r = true := (by simpa using hr6); have B6 := B5.trans K6.1)
                  | (go_at_call 13; first
                    | ((with_reducible refine (hsa'.out w6 P6).mono ?_); rintro e w7 ⟨rfl, P7, K7⟩; have B7 := B6.trans K7.1)
                    | ((with_reducible refine (hsb'.out w7 B7).mono ?_); rintro e w8 ⟨rfl, B8⟩; have P8 := (P7.pure B8).1; have B9 := B7.trans (P7.pure B8).2.1)))
                go_roundw
                case rel => exact ⟨k + 1, _, by omega, by omega, by go_num, hso'.out, by have := hsl'.out; omega, P8, B9⟩
                case measure => simp [intOf]; omega
              · rw [decide_eq_true hG] at hg
                have hgo : Calls Try.prog 10 #[.agg #[.int .u8 xw, .string xn, .string xt, .int .i64 xi, .slice ka K.length kc]] wr fun e w' => e = .returned (.bool true) ∧ Below w.heap.size w w' := hg.mono fun e w' ⟨g1, g2⟩ => ⟨g1, hB.trans ((hP.pure g2).2.1.mono hsz)⟩
                clear hg hend hP hou
                go_wp2_with (first
                  | (go_at_call 10; (with_reducible refine hgo.mono ?_); clear hgo; rintro e w3 ⟨rfl, B3⟩)
                  | (go_at_call 11; (with_reducible refine (hhead'.out w3).mono ?_); rintro e w4 ⟨rfl, B4⟩))
                go_ret
                exact ⟨rfl, B3.trans (B4.mono B3.size)⟩
            · go_wp2_with (go_at_call 11; (with_reducible refine hend.mono ?_); clear hend; rintro e w9 ⟨rfl, B9⟩)
              go_ret
              exact ⟨rfl, B9⟩
          · go_wp2_with (go_at_call 11; (with_reducible refine hend.mono ?_); clear hend; rintro e w9 ⟨rfl, B9⟩)
            go_ret
            exact ⟨rfl, B9⟩
end Go.Proofs.Ytgpdbifgbabnnaa
