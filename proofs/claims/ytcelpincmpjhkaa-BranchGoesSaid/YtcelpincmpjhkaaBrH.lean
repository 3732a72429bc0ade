/- Package branch: put, Check. Conditions: the table reads as rows and associations; at most a million. Written by gen_brH.py. -/
import Derived.Test.YtcelpincmpjhkaaHE
import Derived.Test.YtcelpincmpjhkaaBrIns
import Derived.Test.YtcelpincmpjhkaaGB
namespace Go.Proofs.Ytcelpincmpjhkaa
set_option linter.unusedSimpArgs false
set_option linter.unusedVariables false
open Go.RowKit


set_option maxRecDepth 100000 in
set_option maxHeartbeats 3200000 in
theorem tput_ok {base : Nat} (w : World) (tb : Nat) (rv av : Value) (R : List Brn) (b : Brn) (hT : Blk w tb [rv, av]) (hO : Own base 44 7 brEnc w rv R) (hr : RisesB R) (hL : R.length ≤ 1000000) (hne : rv.ownBlock ≠ some tb) (hbase : base ≤ w.heap.size) (hm : ¬ MemB R b.x) :
    Calls Try.prog 51 #[.pointer (some ⟨tb, 0, none⟩), .agg #[.int .u32 b.x.1, .string b.x.2.1, .string b.x.2.2, .int .u8 b.st, .int .u8 b.why, .int .u32 b.tm, .int .u32 b.lf]] w (fun e w' => ∃ r, e = .returned (.tuple #[]) ∧ Blk w' tb [r, av] ∧ Own base 44 7 brEnc w' r (insB R (placeM R b.x) b) ∧ (∀ k, r.ownBlock = some k → rv.ownBlock = some k ∨ w.heap.size ≤ k) ∧ Upd (fun k => k = tb ∨ rv.ownBlock = some k) w w') := by
  obtain ⟨⟨xf, xg, xb⟩, st, why, tm, lf⟩ := b
  simp only at *
  have hB0 := (Below.refl w.heap.size w).alloc (Nat.le_refl _) (.cells #[.int .u32 xf, .string xg, .string xb, .int .u8 st, .int .u8 why, .int .u32 tm, .int .u32 lf] 44)
  have b0 := Blk.new w [.int .u32 xf, .string xg, .string xb, .int .u8 st, .int .u8 why, .int .u32 tm, .int .u32 lf] 44
  have t0 := hT.alloc (.cells #[.int .u32 xf, .string xg, .string xb, .int .u8 st, .int .u8 why, .int .u32 tm, .int .u32 lf] 44)
  have htl := hT.lt
  have hO0 := hO.alloc (.cells #[.int .u32 xf, .string xg, .string xb, .int .u8 st, .int .u8 why, .int .u32 tm, .int .u32 lf] 44)
  have hrl := fun k (hk : rv.ownBlock = some k) => hO.lt hk
  have hrl' := Lib.hid hrl; clear hrl
  have hat := Lib.hid (fun (u : World) (h : Below w.heap.size w u) => atB_no u rv R (xf, xg, xb) ((hO.slc brEnc_len).pure h) hr hL hm)
  have hin := Lib.hid (fun (u : World) (i vb : Nat) (h : Own base 44 7 brEnc u rv R) (hb : base ≤ u.heap.size) (hi : i ≤ R.length) (hx : Blk u vb (brEnc ⟨(xf, xg, xb), st, why, tm, lf⟩)) (hv : rv.ownBlock ≠ some vb) => br_insert u rv i R ⟨(xf, xg, xb), st, why, tm, lf⟩ vb h hb hL hi hx hv)
  obtain ⟨a, c, rfl⟩ := own_len hO
  clear hr hT hO
  have c0 := b0.at 0 rfl
  have c1 := b0.at 1 rfl
  have c2 := b0.at 2 rfl
  have c3 := b0.at 3 rfl
  have c4 := b0.at 4 rfl
  have c5 := b0.at 5 rfl
  have c6 := b0.at 6 rfl
  have c7 := t0.at 0 rfl
  have c8 := t0.at 1 rfl
  go_enter Try.func51, Try.ntmps51
  go_wp2
  go_region_held3 (fun w' => w'.cell? ⟨w.heap.size, 0, none⟩ = some (.int .u32 xf) ∧ w'.cell? ⟨w.heap.size, 1, none⟩ = some (.string xg) ∧ w'.cell? ⟨w.heap.size, 2, none⟩ = some (.string xb) ∧ w'.cell? ⟨w.heap.size, 3, none⟩ = some (.int .u8 st) ∧ w'.cell? ⟨w.heap.size, 4, none⟩ = some (.int .u8 why) ∧ w'.cell? ⟨w.heap.size, 5, none⟩ = some (.int .u32 tm) ∧ w'.cell? ⟨w.heap.size, 6, none⟩ = some (.int .u32 lf) ∧ w'.cell? ⟨tb, 0, none⟩ = some (.slice a R.length c) ∧ w'.cell? ⟨tb, 1, none⟩ = some av) (first | exact ⟨c0, c1, c2, c3, c4, c5, c6, c7, c8⟩ | exact ⟨f0, f1, f2, f3, f4, f5, f6, f7, f8⟩) (first | (go_at_call 72; refine (hat.out _ (below_dr hB0)).mono ?_; rintro e w1 ⟨i, hi, rfl, hB1⟩; have hi2 := Lib.hid hi; have hi0 := hi.1; clear hi; have b1 := b0.drew.pure hB1; have t1 := t0.drew.pure hB1; have f0 := b1.at 0 rfl; have f1 := b1.at 1 rfl; have f2 := b1.at 2 rfl; have f3 := b1.at 3 rfl; have f4 := b1.at 4 rfl; have f5 := b1.at 5 rfl; have f6 := b1.at 6 rfl; have f7 := t1.at 0 rfl; have f8 := t1.at 1 rfl; have hT1 := (below_dr hB0).trans (hB1.mono hB0.size); have hO1 := hO0.drew.pure hB1))
  go_wp2_with (go_at_call 50; refine (must_ok _ _).mono ?_; rintro e w2 ⟨rfl, rfl⟩)
  have hX : Blk (w1.alloc (.cells #[.int .u32 xf, .string xg, .string xb, .int .u8 st, .int .u8 why, .int .u32 tm, .int .u32 lf] 44)).drew w1.heap.size (brEnc ⟨(xf, xg, xb), st, why, tm, lf⟩) := (Blk.new w1 [.int .u32 xf, .string xg, .string xb, .int .u8 st, .int .u8 why, .int .u32 tm, .int .u32 lf] 44).drew
  have hA := (Below.refl w1.heap.size w1).alloc (Nat.le_refl _) (.cells #[.int .u32 xf, .string xg, .string xb, .int .u8 st, .int .u8 why, .int .u32 tm, .int .u32 lf] 44)
  have hT3 := below_dr (hT1.trans (hA.mono hT1.size))
  have t3 := (t1.pure hA).drew
  have b3 := (b1.pure hA).drew
  have hO3 := (hO1.pure hA).drew
  have hs3 : base ≤ (w1.alloc (.cells #[.int .u32 xf, .string xg, .string xb, .int .u8 st, .int .u8 why, .int .u32 tm, .int .u32 lf] 44)).drew.heap.size := Nat.le_trans hbase hT3.size
  have hvb : (Value.slice a R.length c).ownBlock ≠ some w1.heap.size := fun e => by have := hrl'.out _ e; have := hT1.size; omega
  have i0 : (0 : Int) ≤ (i : Int) ∧ (i : Int) ≤ (R.length : Int) := by omega
  have g0 := b3.at 0 rfl
  have g1 := b3.at 1 rfl
  have g2 := b3.at 2 rfl
  have g3 := b3.at 3 rfl
  have g4 := b3.at 4 rfl
  have g5 := b3.at 5 rfl
  have g6 := b3.at 6 rfl
  have g7 := t3.at 0 rfl
  have g8 := t3.at 1 rfl
  refine wp_region_held_drew (S := (fun w' => w'.cell? ⟨w.heap.size, 0, none⟩ = some (.int .u32 xf) ∧ w'.cell? ⟨w.heap.size, 1, none⟩ = some (.string xg) ∧ w'.cell? ⟨w.heap.size, 2, none⟩ = some (.string xb) ∧ w'.cell? ⟨w.heap.size, 3, none⟩ = some (.int .u8 st) ∧ w'.cell? ⟨w.heap.size, 4, none⟩ = some (.int .u8 why) ∧ w'.cell? ⟨w.heap.size, 5, none⟩ = some (.int .u32 tm) ∧ w'.cell? ⟨w.heap.size, 6, none⟩ = some (.int .u32 lf))) (by kernel_rfl) ?_ (fun hHeld => ?_)
  · (first | exact ⟨f0, f1, f2, f3, f4, f5, f6⟩ | exact ⟨g0, g1, g2, g3, g4, g5, g6⟩ | exact ⟨k0, k1, k2, k3, k4, k5, k6⟩ | exact ⟨q0, q1, q2, q3, q4, q5, q6⟩)
  refine takeY 0 20 rfl rfl (v := ?_) ?_ hHeld ?_
  rotate_left 1
  · (intro w hSw; (try dsimp only at hSw); go_simp; (try with_reducible rfl))
  try simp only [Act.put, lsT, lsZ, lsS]
  refine takeY 1 21 rfl rfl (v := ?_) ?_ hHeld ?_
  rotate_left 1
  · (intro w hSw; (try dsimp only at hSw); go_simp; (try with_reducible rfl))
  try simp only [Act.put, lsT, lsZ, lsS]
  refine takeY 2 22 rfl rfl (v := ?_) ?_ hHeld ?_
  rotate_left 1
  · (intro w hSw; (try dsimp only at hSw); go_simp; (try with_reducible rfl))
  try simp only [Act.put, lsT, lsZ, lsS]
  refine takeY 3 23 rfl rfl (v := ?_) ?_ hHeld ?_
  rotate_left 1
  · (intro w hSw; (try dsimp only at hSw); go_simp; (try with_reducible rfl))
  try simp only [Act.put, lsT, lsZ, lsS]
  refine takeY 4 24 rfl rfl (v := ?_) ?_ hHeld ?_
  rotate_left 1
  · (intro w hSw; (try dsimp only at hSw); go_simp; (try with_reducible rfl))
  try simp only [Act.put, lsT, lsZ, lsS]
  refine takeY 6 26 rfl rfl (v := ?_) ?_ hHeld ?_
  rotate_left 1
  · (intro w hSw; (try dsimp only at hSw); go_simp; (try with_reducible rfl))
  try simp only [Act.put, lsT, lsZ, lsS]
  refine takeY 7 27 rfl rfl (v := ?_) ?_ hHeld ?_
  rotate_left 1
  · (intro w hSw; (try dsimp only at hSw); go_simp; (try with_reducible rfl))
  try simp only [Act.put, lsT, lsZ, lsS]
  refine wpAnyH_ready (rs := [5, 8]) (by kernel_rfl) (by simp) ?_
  refine AllReadyH.cons rfl (fun K hK => ?_) (AllReadyH.cons rfl (fun K hK => ?_) AllReadyH.nil)
  · have hdum := True.intro
    go_simp
    refine hK.out _ _ ?_ (fun hHeld => ?_)
    · (first | exact ⟨f0, f1, f2, f3, f4, f5, f6⟩ | exact ⟨g0, g1, g2, g3, g4, g5, g6⟩ | exact ⟨k0, k1, k2, k3, k4, k5, k6⟩ | exact ⟨q0, q1, q2, q3, q4, q5, q6⟩)
    clear hK K
    try simp only [Act.put, lsT, lsZ, lsS]
    refine wpAnyH_ready (rs := [8]) (by kernel_rfl) (by simp) ?_
    refine AllReadyH.cons rfl (fun K hK => ?_) AllReadyH.nil
    go_simp
    refine hK.out _ _ ?_ (fun hHeld => ?_)
    · (first | exact ⟨f0, f1, f2, f3, f4, f5, f6⟩ | exact ⟨g0, g1, g2, g3, g4, g5, g6⟩ | exact ⟨k0, k1, k2, k3, k4, k5, k6⟩ | exact ⟨q0, q1, q2, q3, q4, q5, q6⟩)
    clear hK K
    try simp only [Act.put, lsT, lsZ, lsS]
    refine wpAnyH_ready (rs := [9]) (by kernel_rfl) (by simp) ?_
    refine AllReadyH.cons rfl (fun K hK => ?_) AllReadyH.nil
    go_simp
    (go_at_call 102; refine (hin.out _ i w1.heap.size hO3 hs3 hi0 hX hvb).mono ?_; rintro e w5 ⟨r, rfl, hO5, hU5, hr5⟩; obtain ⟨RI, hRI0⟩ : ∃ RI, RI = R.take i ++ (⟨(xf, xg, xb), st, why, tm, lf⟩ : Brn) :: R.drop i := ⟨_, rfl⟩; rw [← hRI0] at hO5; have hRI := Lib.hid hRI0; clear hRI0; have t5 := t3.upd hU5 hne; have hU5' := Lib.hid hU5; have hr5' := Lib.hid hr5; have b5 : Blk w5 w.heap.size [.int .u32 xf, .string xg, .string xb, .int .u8 st, .int .u8 why, .int .u32 tm, .int .u32 lf] := b3.upd hU5 (fun e => by have := hrl'.out _ e; omega); clear hU5 hr5; obtain ⟨ra, rc, rfl⟩ := own_len hO5; have z5 := t5.frozen 0; have k0 := b5.at 0 rfl; have k1 := b5.at 1 rfl; have k2 := b5.at 2 rfl; have k3 := b5.at 3 rfl; have k4 := b5.at 4 rfl; have k5 := b5.at 5 rfl; have k6 := b5.at 6 rfl; have k7 := t5.at 0 rfl; have k8 := t5.at 1 rfl)
    refine hK.out _ _ ?_ (fun hHeld => ?_)
    · (first | exact ⟨f0, f1, f2, f3, f4, f5, f6⟩ | exact ⟨g0, g1, g2, g3, g4, g5, g6⟩ | exact ⟨k0, k1, k2, k3, k4, k5, k6⟩ | exact ⟨q0, q1, q2, q3, q4, q5, q6⟩)
    clear hK K
    try simp only [Act.put, lsT, lsZ, lsS]
    refine takeY 10 30 rfl rfl (v := ?_) ?_ hHeld ?_
    rotate_left 1
    · (intro w hSw; (try dsimp only at hSw); go_simp; (try with_reducible rfl))
    try simp only [Act.put, lsT, lsZ, lsS]
    refine takeY 11 31 rfl rfl (v := ?_) ?_ hHeld ?_
    rotate_left 1
    · (intro w hSw; (try dsimp only at hSw); go_simp; (try with_reducible rfl))
    try simp only [Act.put, lsT, lsZ, lsS]
    refine takeY 12 32 rfl rfl (v := ?_) ?_ hHeld ?_
    rotate_left 1
    · (intro w hSw; (try dsimp only at hSw); go_simp; (try with_reducible rfl))
    try simp only [Act.put, lsT, lsZ, lsS]
    refine wpAnyH_ready (rs := [13]) (by kernel_rfl) (by simp) ?_
    refine AllReadyH.cons rfl (fun K hK => ?_) AllReadyH.nil
    go_simp
    refine hK.out _ _ ?_ (fun hHeld => ?_)
    · exact ⟨(b5.other _ _ (by simp only; omega)).at 0 rfl, (b5.other _ _ (by simp only; omega)).at 1 rfl, (b5.other _ _ (by simp only; omega)).at 2 rfl, (b5.other _ _ (by simp only; omega)).at 3 rfl, (b5.other _ _ (by simp only; omega)).at 4 rfl, (b5.other _ _ (by simp only; omega)).at 5 rfl, (b5.other _ _ (by simp only; omega)).at 6 rfl⟩
    clear hK K
    try simp only [Act.put, lsT, lsZ, lsS]
    refine wpAnyH_done (by kernel_rfl) ?_ _
    go_wp2
    go_end0
    have hpl := placeB_eq hi2.out
    refine ⟨_, rfl, t5.set 0 _, ?_, ?_, ?_⟩
    · rw [hpl]
      unfold insB
      rw [← hRI.out]
      exact hO5.other ⟨tb, 0, none⟩ _ (fun k hk e => by
        have e2 : k = tb := e
        rcases hr5'.out k hk with q | q
        · exact hne (by rw [q]; exact congrArg some e2)
        · have := hT3.size; omega)
    · intro k hk
      rcases hr5'.out k hk with q | q
      · exact .inl q
      · exact .inr (Nat.le_trans hT3.size q)
    · exact ((Upd.of_below hT3).trans (hU5'.out.mono (fun i hi _ => Or.inr hi)) (fun _ h _ => h)).trans (Upd.set (S := fun k => k = tb ∨ _) (Or.inl rfl) _) (fun _ h _ => h)
  · have hdum := True.intro
    go_simp
    refine hK.out _ _ ?_ (fun hHeld => ?_)
    · (first | exact ⟨f0, f1, f2, f3, f4, f5, f6⟩ | exact ⟨g0, g1, g2, g3, g4, g5, g6⟩ | exact ⟨k0, k1, k2, k3, k4, k5, k6⟩ | exact ⟨q0, q1, q2, q3, q4, q5, q6⟩)
    clear hK K
    try simp only [Act.put, lsT, lsZ, lsS]
    refine wpAnyH_ready (rs := [5]) (by kernel_rfl) (by simp) ?_
    refine AllReadyH.cons rfl (fun K hK => ?_) AllReadyH.nil
    go_simp
    refine hK.out _ _ ?_ (fun hHeld => ?_)
    · (first | exact ⟨f0, f1, f2, f3, f4, f5, f6⟩ | exact ⟨g0, g1, g2, g3, g4, g5, g6⟩ | exact ⟨k0, k1, k2, k3, k4, k5, k6⟩ | exact ⟨q0, q1, q2, q3, q4, q5, q6⟩)
    clear hK K
    try simp only [Act.put, lsT, lsZ, lsS]
    refine wpAnyH_ready (rs := [9]) (by kernel_rfl) (by simp) ?_
    refine AllReadyH.cons rfl (fun K hK => ?_) AllReadyH.nil
    go_simp
    (go_at_call 102; refine (hin.out _ i w1.heap.size hO3 hs3 hi0 hX hvb).mono ?_; rintro e w5 ⟨r, rfl, hO5, hU5, hr5⟩; obtain ⟨RI, hRI0⟩ : ∃ RI, RI = R.take i ++ (⟨(xf, xg, xb), st, why, tm, lf⟩ : Brn) :: R.drop i := ⟨_, rfl⟩; rw [← hRI0] at hO5; have hRI := Lib.hid hRI0; clear hRI0; have t5 := t3.upd hU5 hne; have hU5' := Lib.hid hU5; have hr5' := Lib.hid hr5; have b5 : Blk w5 w.heap.size [.int .u32 xf, .string xg, .string xb, .int .u8 st, .int .u8 why, .int .u32 tm, .int .u32 lf] := b3.upd hU5 (fun e => by have := hrl'.out _ e; omega); clear hU5 hr5; obtain ⟨ra, rc, rfl⟩ := own_len hO5; have z5 := t5.frozen 0; have k0 := b5.at 0 rfl; have k1 := b5.at 1 rfl; have k2 := b5.at 2 rfl; have k3 := b5.at 3 rfl; have k4 := b5.at 4 rfl; have k5 := b5.at 5 rfl; have k6 := b5.at 6 rfl; have k7 := t5.at 0 rfl; have k8 := t5.at 1 rfl)
    refine hK.out _ _ ?_ (fun hHeld => ?_)
    · (first | exact ⟨f0, f1, f2, f3, f4, f5, f6⟩ | exact ⟨g0, g1, g2, g3, g4, g5, g6⟩ | exact ⟨k0, k1, k2, k3, k4, k5, k6⟩ | exact ⟨q0, q1, q2, q3, q4, q5, q6⟩)
    clear hK K
    try simp only [Act.put, lsT, lsZ, lsS]
    refine takeY 10 30 rfl rfl (v := ?_) ?_ hHeld ?_
    rotate_left 1
    · (intro w hSw; (try dsimp only at hSw); go_simp; (try with_reducible rfl))
    try simp only [Act.put, lsT, lsZ, lsS]
    refine takeY 11 31 rfl rfl (v := ?_) ?_ hHeld ?_
    rotate_left 1
    · (intro w hSw; (try dsimp only at hSw); go_simp; (try with_reducible rfl))
    try simp only [Act.put, lsT, lsZ, lsS]
    refine takeY 12 32 rfl rfl (v := ?_) ?_ hHeld ?_
    rotate_left 1
    · (intro w hSw; (try dsimp only at hSw); go_simp; (try with_reducible rfl))
    try simp only [Act.put, lsT, lsZ, lsS]
    refine wpAnyH_ready (rs := [13]) (by kernel_rfl) (by simp) ?_
    refine AllReadyH.cons rfl (fun K hK => ?_) AllReadyH.nil
    go_simp
    refine hK.out _ _ ?_ (fun hHeld => ?_)
    · exact ⟨(b5.other _ _ (by simp only; omega)).at 0 rfl, (b5.other _ _ (by simp only; omega)).at 1 rfl, (b5.other _ _ (by simp only; omega)).at 2 rfl, (b5.other _ _ (by simp only; omega)).at 3 rfl, (b5.other _ _ (by simp only; omega)).at 4 rfl, (b5.other _ _ (by simp only; omega)).at 5 rfl, (b5.other _ _ (by simp only; omega)).at 6 rfl⟩
    clear hK K
    try simp only [Act.put, lsT, lsZ, lsS]
    refine wpAnyH_done (by kernel_rfl) ?_ _
    go_wp2
    go_end0
    have hpl := placeB_eq hi2.out
    refine ⟨_, rfl, t5.set 0 _, ?_, ?_, ?_⟩
    · rw [hpl]
      unfold insB
      rw [← hRI.out]
      exact hO5.other ⟨tb, 0, none⟩ _ (fun k hk e => by
        have e2 : k = tb := e
        rcases hr5'.out k hk with q | q
        · exact hne (by rw [q]; exact congrArg some e2)
        · have := hT3.size; omega)
    · intro k hk
      rcases hr5'.out k hk with q | q
      · exact .inl q
      · exact .inr (Nat.le_trans hT3.size q)
    · exact ((Upd.of_below hT3).trans (hU5'.out.mono (fun i hi _ => Or.inr hi)) (fun _ h _ => h)).trans (Upd.set (S := fun k => k = tb ∨ _) (Or.inl rfl) _) (fun _ h _ => h)

set_option maxRecDepth 100000 in
set_option maxHeartbeats 3200000 in
theorem tput_no {base : Nat} (w : World) (tb : Nat) (rv av : Value) (R : List Brn) (b : Brn) (hT : Blk w tb [rv, av]) (hO : Own base 44 7 brEnc w rv R) (hr : RisesB R) (hL : R.length ≤ 1000000) (hne : rv.ownBlock ≠ some tb) (hbase : base ≤ w.heap.size) (hm : MemB R b.x) :
    Calls Try.prog 51 #[.pointer (some ⟨tb, 0, none⟩), .agg #[.int .u32 b.x.1, .string b.x.2.1, .string b.x.2.2, .int .u8 b.st, .int .u8 b.why, .int .u32 b.tm, .int .u32 b.lf]] w (fun e w' => e = .panicked [{ v := .iface 36 (.int .i64 8), recovered := false }] ∧ Below w.heap.size w w') := by
  obtain ⟨⟨xf, xg, xb⟩, st, why, tm, lf⟩ := b
  simp only at *
  have hB0 := (Below.refl w.heap.size w).alloc (Nat.le_refl _) (.cells #[.int .u32 xf, .string xg, .string xb, .int .u8 st, .int .u8 why, .int .u32 tm, .int .u32 lf] 44)
  have b0 := Blk.new w [.int .u32 xf, .string xg, .string xb, .int .u8 st, .int .u8 why, .int .u32 tm, .int .u32 lf] 44
  have t0 := hT.alloc (.cells #[.int .u32 xf, .string xg, .string xb, .int .u8 st, .int .u8 why, .int .u32 tm, .int .u32 lf] 44)
  have htl := hT.lt
  have hO0 := hO.alloc (.cells #[.int .u32 xf, .string xg, .string xb, .int .u8 st, .int .u8 why, .int .u32 tm, .int .u32 lf] 44)
  have hrl := fun k (hk : rv.ownBlock = some k) => hO.lt hk
  have hrl' := Lib.hid hrl; clear hrl
  obtain ⟨kk, hkk, hkx⟩ := hm
  have hat := Lib.hid (fun (u : World) (h : Below w.heap.size w u) => atB_yes u rv R (xf, xg, xb) kk ((hO.slc brEnc_len).pure h) hr hL hkk hkx)
  clear hkx
  obtain ⟨a, c, rfl⟩ := own_len hO
  clear hr hT hO
  have c0 := b0.at 0 rfl
  have c1 := b0.at 1 rfl
  have c2 := b0.at 2 rfl
  have c3 := b0.at 3 rfl
  have c4 := b0.at 4 rfl
  have c5 := b0.at 5 rfl
  have c6 := b0.at 6 rfl
  have c7 := t0.at 0 rfl
  have c8 := t0.at 1 rfl
  go_enter Try.func51, Try.ntmps51
  go_wp2
  go_region_held3 (fun w' => w'.cell? ⟨w.heap.size, 0, none⟩ = some (.int .u32 xf) ∧ w'.cell? ⟨w.heap.size, 1, none⟩ = some (.string xg) ∧ w'.cell? ⟨w.heap.size, 2, none⟩ = some (.string xb) ∧ w'.cell? ⟨w.heap.size, 3, none⟩ = some (.int .u8 st) ∧ w'.cell? ⟨w.heap.size, 4, none⟩ = some (.int .u8 why) ∧ w'.cell? ⟨w.heap.size, 5, none⟩ = some (.int .u32 tm) ∧ w'.cell? ⟨w.heap.size, 6, none⟩ = some (.int .u32 lf) ∧ w'.cell? ⟨tb, 0, none⟩ = some (.slice a R.length c) ∧ w'.cell? ⟨tb, 1, none⟩ = some av) (first | exact ⟨c0, c1, c2, c3, c4, c5, c6, c7, c8⟩ | exact ⟨f0, f1, f2, f3, f4, f5, f6, f7, f8⟩) (first | (go_at_call 72; refine (hat.out _ (below_dr hB0)).mono ?_; rintro e w1 ⟨rfl, hB1⟩; have b1 := b0.drew.pure hB1; have t1 := t0.drew.pure hB1; have f0 := b1.at 0 rfl; have f1 := b1.at 1 rfl; have f2 := b1.at 2 rfl; have f3 := b1.at 3 rfl; have f4 := b1.at 4 rfl; have f5 := b1.at 5 rfl; have f6 := b1.at 6 rfl; have f7 := t1.at 0 rfl; have f8 := t1.at 1 rfl; have hT1 := (below_dr hB0).trans (hB1.mono hB0.size); have hO1 := hO0.drew.pure hB1))
  go_wp2_with (go_at_call 50; refine (must_no _ _).mono ?_; rintro e w2 ⟨rfl, rfl⟩)
  exact ⟨rfl, rfl, hT1⟩
end Go.Proofs.Ytcelpincmpjhkaa
