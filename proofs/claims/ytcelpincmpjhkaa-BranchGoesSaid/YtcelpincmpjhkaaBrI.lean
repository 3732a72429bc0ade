/- Package branch: Check. Conditions: rows and associations read; at most a million of each. Written by gen_brI.py. -/
import Derived.Test.YtcelpincmpjhkaaBrD
import Derived.Test.YtcelpincmpjhkaaGB
import Derived.Test.YtcelpincmpjhkaaGD
import Derived.IntWalk
namespace Go.Proofs.Ytcelpincmpjhkaa
set_option linter.unusedSimpArgs false
set_option linter.unusedVariables false
open Go.RowKit

def RowsOk (R : List Brn) : Prop := (∀ b ∈ R, RowOk b) ∧ RisesB R
def LeadsOk (R : List Brn) (A : List Asc) : Prop := ∀ a ∈ A, ∃ b ∈ R, b.x = a.2.1 ∧ b.st = 1
theorem tabOk_iff (R : List Brn) (A : List Asc) : TabOk R A ↔ RowsOk R ∧ RowA A ∧ LeadsOk R A := Iff.rfl
theorem RowsOk.nil : RowsOk [] := ⟨fun _ h => absurd h (by simp), List.Pairwise.nil⟩
theorem RowsOk.take {R : List Brn} (h : RowsOk R) (k : Nat) : RowsOk (R.take k) := ⟨fun b hb => h.1 b (List.mem_of_mem_take hb), h.2.sublist (List.take_sublist k R)⟩
theorem takeB_snoc (L : List Brn) {k : Nat} (h : k < L.length) : L.take (k + 1) = L.take k ++ [L[k]] := List.take_succ_eq_append_getElem h
theorem rowsB_at {L : List Brn} {k : Nat} (h : k < L.length) (hr : RowsOk (L.take k)) : RowsOk (L.take (k + 1)) ↔ RowOk L[k] ∧ (∀ hk : 0 < k, cmpX (L[k - 1]'(by omega)).x L[k].x < 0) := by
  rw [takeB_snoc L h]
  constructor
  · rintro ⟨h1, h2⟩
    refine ⟨h1 _ (List.mem_append.2 (.inr (List.mem_singleton.2 rfl))), fun hk => ?_⟩
    have h3 := List.pairwise_append.1 h2
    refine h3.2.2 (L[k - 1]'(by omega)) ?_ L[k] (List.mem_singleton.2 rfl)
    refine List.mem_iff_getElem.2 ⟨k - 1, by rw [List.length_take]; omega, ?_⟩
    rw [List.getElem_take]
  · rintro ⟨h1, h2⟩
    refine ⟨fun b hb => ?_, List.pairwise_append.2 ⟨hr.2, List.pairwise_singleton _ _, fun a ha b hb => ?_⟩⟩
    · rcases List.mem_append.1 hb with q | q
      · exact hr.1 b q
      · simp at q; subst q; exact h1
    · simp at hb; subst hb
      obtain ⟨j, hj, rfl⟩ := List.mem_iff_getElem.1 ha
      rw [List.length_take] at hj
      rw [List.getElem_take]
      have hk1 : k - 1 < L.length := by omega
      rcases Nat.lt_or_eq_of_le (show j ≤ k - 1 by omega) with q | q
      · have h4 := List.pairwise_iff_getElem.1 hr.2 j (k - 1) (by rw [List.length_take]; omega) (by rw [List.length_take]; omega) q
        rw [List.getElem_take, List.getElem_take] at h4
        exact cmpX_le_lt (Int.le_of_lt h4) (h2 (by omega))
      · subst q; exact h2 (by omega)
theorem LeadsOk.nil {R : List Brn} : LeadsOk R [] := fun _ h => absurd h (by simp)
theorem leads_at {R : List Brn} {A : List Asc} {k : Nat} (h : k < A.length) (hr : LeadsOk R (A.take k)) : LeadsOk R (A.take (k + 1)) ↔ ∃ b ∈ R, b.x = A[k].2.1 ∧ b.st = 1 := by
  rw [take_snoc A h]
  constructor
  · intro q; exact q _ (List.mem_append.2 (.inr (List.mem_singleton.2 rfl)))
  · intro q a ha
    rcases List.mem_append.1 ha with p | p
    · exact hr a p
    · simp at p; subst p; exact q
theorem tab_bad1 {R : List Brn} {A : List Asc} {k : Nat} (hn : ¬ RowsOk (R.take (k + 1))) : tabE R A = 190 := tabE_no (fun h => hn (RowsOk.take ((tabOk_iff R A).1 h).1 _))
theorem tab_bad3 {R : List Brn} {A : List Asc} {k : Nat} (hn : ¬ LeadsOk R (A.take (k + 1))) : tabE R A = 190 := tabE_no (fun h => hn (fun a ha => ((tabOk_iff R A).1 h).2.2 a (List.mem_of_mem_take ha)))
theorem tab_bad2 {R : List Brn} {A : List Asc} (hn : ¬ RowA A) : tabE R A = 190 := tabE_no (fun h => hn h.2.1)
theorem brn_box (w : World) (b : Brn) : Blk (w.alloc (.cells (brEnc b).toArray 44)) w.heap.size (brEnc b) := Blk.new w (brEnc b) 44

set_option maxRecDepth 100000 in
set_option maxHeartbeats 4000000 in
theorem tcheck_any (w : World) (rv av : Value) (R : List Brn) (A : List Asc) (hR : Slc brEnc 7 w rv R) (hA : Slc ascEnc 5 w av A) (hLR : R.length ≤ 1000000) (hLA : A.length ≤ 1000000) :
    Calls Try.prog 21 #[.agg #[rv, av]] w fun e w' => e = .returned (.int .i64 (tabE R A)) ∧ Below w.heap.size w w' := by
  obtain ⟨ra, rc, rfl, hm1⟩ := hR.len
  obtain ⟨aa, ac, rfl, hm2⟩ := hA.len
  unfold maxLen at hm1 hm2
  have t0' := Blk.new w [.slice ra R.length rc, .slice aa A.length ac] 25
  have hB0' := (Below.refl w.heap.size w).alloc (Nat.le_refl _) (.cells #[.slice ra R.length rc, .slice aa A.length ac] 25)
  obtain ⟨W0, hW0⟩ : ∃ W0, W0 = w.alloc (.cells #[.slice ra R.length rc, .slice aa A.length ac] 25) := ⟨_, rfl⟩
  have t0 : Blk W0 w.heap.size [.slice ra R.length rc, .slice aa A.length ac] := by rw [hW0]; exact t0'
  have hB0 : Below w.heap.size w W0 := by rw [hW0]; exact hB0'
  have hz0 : w.heap.size < W0.heap.size := by rw [hW0]; simp
  clear t0' hB0'
  have z0 := t0.at 0 rfl
  have z1 := t0.at 1 rfl
  go_enter Try.func21, Try.ntmps21
  go_wp2
  rw [← hW0]
  clear hW0
  go_loopw [12] (fun s12 wr => ∃ k : Nat, k ≤ R.length ∧ s12 = .int .i64 k ∧ RowsOk (R.take k) ∧ Below W0.heap.size W0 wr) (fun s12 _ => R.length - (intOf s12).toNat)
  case atStart => exact ⟨0, by omega, rfl, by simpa using RowsOk.nil, Below.refl _ _⟩
  case round =>
    obtain ⟨k, hk, rfl, hK, hB⟩ := hrel
    have hK' := Lib.hid hK
    have hBw := hB0.trans (hB.mono hB0.size)
    have tr := t0.below hB hz0
    clear z0 z1
    by_cases hlt : k < R.length
    · have hra := Lib.hid (rowsB_at hlt hK)
      have hbad := Lib.hid (fun h => tab_bad1 (A := A) (k := k) (R := R) h)
      clear hK
      have hsr := hR.pure hBw
      obtain ⟨g, off, rfl⟩ := hsr.addr hlt
      obtain ⟨c0, c1, c2, c3, c4, c5, c6⟩ := br_cells hsr hlt
      obtain ⟨x, hxe⟩ : ∃ x, x = R[k] := ⟨_, rfl⟩
      rw [← hxe] at c0 c1 c2 c3 c4 c5 c6 hra
      clear hxe
      obtain ⟨⟨xf, xg, xb⟩, st, why, tm, lf⟩ := x
      simp only at c0 c1 c2 c3 c4 c5 c6 hra
      have b0 : Blk (wr.alloc (.cells #[.int .u32 xf, .string xg, .string xb, .int .u8 st, .int .u8 why, .int .u32 tm, .int .u32 lf] 44)) wr.heap.size [.int .u32 xf, .string xg, .string xb, .int .u8 st, .int .u8 why, .int .u32 tm, .int .u32 lf] := Blk.new wr [.int .u32 xf, .string xg, .string xb, .int .u8 st, .int .u8 why, .int .u32 tm, .int .u32 lf] 44
      have hAl := (Below.refl wr.heap.size wr).alloc (Nat.le_refl _) (.cells #[.int .u32 xf, .string xg, .string xb, .int .u8 st, .int .u8 why, .int .u32 tm, .int .u32 lf] 44)
      have hBb := hBw.trans (hAl.mono hBw.size)
      have hsb := hsr.pure hAl
      have tb := tr.pure hAl
      obtain ⟨v, hv⟩ : ∃ v, decide (RowOk ⟨(xf, xg, xb), st, why, tm, lf⟩) = v := ⟨_, rfl⟩
      have hrow := Lib.hid (fun u => row_any u ⟨(xf, xg, xb), st, why, tm, lf⟩ v hv)
      have hv' := Lib.hid hv; clear hv
      have e0 := b0.at 0 rfl; have e1 := b0.at 1 rfl; have e2 := b0.at 2 rfl; have e3 := b0.at 3 rfl; have e4 := b0.at 4 rfl; have e5 := b0.at 5 rfl; have e6 := b0.at 6 rfl
      have e7 := tb.at 0 rfl; have e8 := tb.at 1 rfl
      cases v
      · have hdum := True.intro
        have hno := Lib.hid (hbad.out (fun h => of_decide_eq_false hv'.out (hra.out.1 h).1))
        go_wp2
        refine wp_region_held_drew (S := (fun w' => w'.cell? ⟨wr.heap.size, 0, none⟩ = some (.int .u32 xf) ∧ w'.cell? ⟨wr.heap.size, 1, none⟩ = some (.string xg) ∧ w'.cell? ⟨wr.heap.size, 2, none⟩ = some (.string xb) ∧ w'.cell? ⟨wr.heap.size, 3, none⟩ = some (.int .u8 st) ∧ w'.cell? ⟨wr.heap.size, 4, none⟩ = some (.int .u8 why) ∧ w'.cell? ⟨wr.heap.size, 5, none⟩ = some (.int .u32 tm) ∧ w'.cell? ⟨wr.heap.size, 6, none⟩ = some (.int .u32 lf) ∧ w'.cell? ⟨w.heap.size, 0, none⟩ = some (.slice (some ⟨g, off, none⟩) R.length rc) ∧ w'.cell? ⟨w.heap.size, 1, none⟩ = some (.slice aa A.length ac))) (by kernel_rfl) ?_ (fun hHeld => ?_)
        · (first | exact ⟨h0, h1, h2, h3, h4, h5, h6, h7, h8⟩ | exact ⟨f0, f1, f2, f3, f4, f5, f6, f7, f8⟩ | exact ⟨e0, e1, e2, e3, e4, e5, e6, e7, e8⟩)
        refine takeY 0 17 rfl rfl (v := ?_) ?_ hHeld ?_
        rotate_left 1
        · (intro w hSw; (try dsimp only at hSw); go_simp; (try with_reducible rfl))
        try simp only [Act.put, lsT, lsZ, lsS]
        refine wpAnyH_ready (rs := [1]) (by kernel_rfl) (by simp) ?_
        refine AllReadyH.cons rfl (fun K hK => ?_) AllReadyH.nil
        go_simp
        (go_at_call 76; refine (hrow.out _).mono ?_; rintro e w1 ⟨rfl, hB1⟩; have b1 := b0.drew.pure hB1; have t1 := tb.drew.pure hB1; have hs1 := hsb.drew.pure hB1; have hB1t := (below_dr hBb).trans (hB1.mono hBb.size); have f0 := b1.at 0 rfl; have f1 := b1.at 1 rfl; have f2 := b1.at 2 rfl; have f3 := b1.at 3 rfl; have f4 := b1.at 4 rfl; have f5 := b1.at 5 rfl; have f6 := b1.at 6 rfl; have f7 := t1.at 0 rfl; have f8 := t1.at 1 rfl)
        refine hK.out _ _ ?_ (fun hHeld => ?_)
        · (first | exact ⟨h0, h1, h2, h3, h4, h5, h6, h7, h8⟩ | exact ⟨f0, f1, f2, f3, f4, f5, f6, f7, f8⟩ | exact ⟨e0, e1, e2, e3, e4, e5, e6, e7, e8⟩)
        clear hK K
        try simp only [Act.put, lsT, lsZ, lsS]
        refine takeY 2 19 rfl rfl (v := ?_) ?_ hHeld ?_
        rotate_left 1
        · (intro w hSw; (try dsimp only at hSw); go_simp; (try with_reducible rfl))
        try simp only [Act.put, lsT, lsZ, lsS]
        refine takeY 3 20 rfl rfl (v := ?_) ?_ hHeld ?_
        rotate_left 1
        · (intro w hSw; (try dsimp only at hSw); go_simp; (try with_reducible rfl))
        try simp only [Act.put, lsT, lsZ, lsS]
        refine takeN 4 21 rfl rfl hHeld ?_
        try simp only [Act.put, lsT, lsZ, lsS]
        refine takeN 5 22 rfl rfl hHeld ?_
        try simp only [Act.put, lsT, lsZ, lsS]
        refine takeN 6 23 rfl rfl hHeld ?_
        try simp only [Act.put, lsT, lsZ, lsS]
        refine takeN 7 24 rfl rfl hHeld ?_
        try simp only [Act.put, lsT, lsZ, lsS]
        refine takeN 8 25 rfl rfl hHeld ?_
        try simp only [Act.put, lsT, lsZ, lsS]
        refine takeN 9 26 rfl rfl hHeld ?_
        try simp only [Act.put, lsT, lsZ, lsS]
        refine takeN 10 27 rfl rfl hHeld ?_
        try simp only [Act.put, lsT, lsZ, lsS]
        refine takeN 11 28 rfl rfl hHeld ?_
        try simp only [Act.put, lsT, lsZ, lsS]
        refine takeN 12 29 rfl rfl hHeld ?_
        try simp only [Act.put, lsT, lsZ, lsS]
        refine takeN 13 30 rfl rfl hHeld ?_
        try simp only [Act.put, lsT, lsZ, lsS]
        refine takeN 14 31 rfl rfl hHeld ?_
        try simp only [Act.put, lsT, lsZ, lsS]
        refine takeN 15 32 rfl rfl hHeld ?_
        try simp only [Act.put, lsT, lsZ, lsS]
        refine takeN 16 33 rfl rfl hHeld ?_
        try simp only [Act.put, lsT, lsZ, lsS]
        refine takeN 17 34 rfl rfl hHeld ?_
        try simp only [Act.put, lsT, lsZ, lsS]
        refine takeN 18 35 rfl rfl hHeld ?_
        try simp only [Act.put, lsT, lsZ, lsS]
        refine takeY 19 36 rfl rfl (v := ?_) ?_ hHeld ?_
        rotate_left 1
        · (intro w hSw; (try dsimp only at hSw); go_simp; (try with_reducible rfl))
        try simp only [Act.put, lsT, lsZ, lsS]
        refine wpAnyH_done (by kernel_rfl) ?_ _
        go_wp2
        go_ret
        exact ⟨by rw [hno.out]; rfl, hB1t⟩
      · by_cases hk0 : k = 0
        · have hkz : ¬ 0 < k := by omega
          have hok := Lib.hid (hra.out.2 ⟨of_decide_eq_true hv'.out, fun h => absurd h hkz⟩)
          have hk0' := Lib.hid hk0; clear hk0
          go_wp2
          refine wp_region_held_drew (S := (fun w' => w'.cell? ⟨wr.heap.size, 0, none⟩ = some (.int .u32 xf) ∧ w'.cell? ⟨wr.heap.size, 1, none⟩ = some (.string xg) ∧ w'.cell? ⟨wr.heap.size, 2, none⟩ = some (.string xb) ∧ w'.cell? ⟨wr.heap.size, 3, none⟩ = some (.int .u8 st) ∧ w'.cell? ⟨wr.heap.size, 4, none⟩ = some (.int .u8 why) ∧ w'.cell? ⟨wr.heap.size, 5, none⟩ = some (.int .u32 tm) ∧ w'.cell? ⟨wr.heap.size, 6, none⟩ = some (.int .u32 lf) ∧ w'.cell? ⟨w.heap.size, 0, none⟩ = some (.slice (some ⟨g, off, none⟩) R.length rc) ∧ w'.cell? ⟨w.heap.size, 1, none⟩ = some (.slice aa A.length ac))) (by kernel_rfl) ?_ (fun hHeld => ?_)
          · (first | exact ⟨h0, h1, h2, h3, h4, h5, h6, h7, h8⟩ | exact ⟨f0, f1, f2, f3, f4, f5, f6, f7, f8⟩ | exact ⟨e0, e1, e2, e3, e4, e5, e6, e7, e8⟩)
          refine takeY 0 17 rfl rfl (v := ?_) ?_ hHeld ?_
          rotate_left 1
          · (intro w hSw; (try dsimp only at hSw); go_simp; (try with_reducible rfl))
          try simp only [Act.put, lsT, lsZ, lsS]
          refine wpAnyH_ready (rs := [1]) (by kernel_rfl) (by simp) ?_
          refine AllReadyH.cons rfl (fun K hK => ?_) AllReadyH.nil
          go_simp
          (go_at_call 76; refine (hrow.out _).mono ?_; rintro e w1 ⟨rfl, hB1⟩; have b1 := b0.drew.pure hB1; have t1 := tb.drew.pure hB1; have hs1 := hsb.drew.pure hB1; have hB1t := (below_dr hBb).trans (hB1.mono hBb.size); have f0 := b1.at 0 rfl; have f1 := b1.at 1 rfl; have f2 := b1.at 2 rfl; have f3 := b1.at 3 rfl; have f4 := b1.at 4 rfl; have f5 := b1.at 5 rfl; have f6 := b1.at 6 rfl; have f7 := t1.at 0 rfl; have f8 := t1.at 1 rfl)
          refine hK.out _ _ ?_ (fun hHeld => ?_)
          · (first | exact ⟨h0, h1, h2, h3, h4, h5, h6, h7, h8⟩ | exact ⟨f0, f1, f2, f3, f4, f5, f6, f7, f8⟩ | exact ⟨e0, e1, e2, e3, e4, e5, e6, e7, e8⟩)
          clear hK K
          try simp only [Act.put, lsT, lsZ, lsS]
          refine takeY 2 19 rfl rfl (v := ?_) ?_ hHeld ?_
          rotate_left 1
          · (intro w hSw; (try dsimp only at hSw); go_simp; (try with_reducible rfl))
          try simp only [Act.put, lsT, lsZ, lsS]
          refine takeY 3 20 rfl rfl (v := ?_) ?_ hHeld ?_
          rotate_left 1
          · (intro w hSw; (try dsimp only at hSw); go_simp; (try with_reducible rfl))
          try simp only [Act.put, lsT, lsZ, lsS]
          refine takeY 4 21 rfl rfl (v := ?_) ?_ hHeld ?_
          rotate_left 1
          · (intro w hSw; (try dsimp only at hSw); go_simp; (try with_reducible rfl))
          try simp only [Act.put, lsT, lsZ, lsS]
          refine takeY 5 22 rfl rfl (v := ?_) ?_ hHeld ?_
          rotate_left 1
          · (intro w hSw; (try dsimp only at hSw); go_simp; (try with_reducible rfl))
          try simp only [Act.put, lsT, lsZ, lsS]
          refine takeY 6 23 rfl rfl (v := ?_) ?_ hHeld ?_
          rotate_left 1
          · (intro w hSw; (try dsimp only at hSw); go_simp; (try with_reducible rfl))
          try simp only [Act.put, lsT, lsZ, lsS]
          refine takeN 7 24 rfl rfl hHeld ?_
          try simp only [Act.put, lsT, lsZ, lsS]
          refine takeN 8 25 rfl rfl hHeld ?_
          try simp only [Act.put, lsT, lsZ, lsS]
          refine takeN 9 26 rfl rfl hHeld ?_
          try simp only [Act.put, lsT, lsZ, lsS]
          refine takeN 10 27 rfl rfl hHeld ?_
          try simp only [Act.put, lsT, lsZ, lsS]
          refine takeN 11 28 rfl rfl hHeld ?_
          try simp only [Act.put, lsT, lsZ, lsS]
          refine takeN 12 29 rfl rfl hHeld ?_
          try simp only [Act.put, lsT, lsZ, lsS]
          refine takeN 13 30 rfl rfl hHeld ?_
          try simp only [Act.put, lsT, lsZ, lsS]
          refine takeN 14 31 rfl rfl hHeld ?_
          try simp only [Act.put, lsT, lsZ, lsS]
          refine takeN 15 32 rfl rfl hHeld ?_
          try simp only [Act.put, lsT, lsZ, lsS]
          refine takeN 16 33 rfl rfl hHeld ?_
          try simp only [Act.put, lsT, lsZ, lsS]
          refine takeN 17 34 rfl rfl hHeld ?_
          try simp only [Act.put, lsT, lsZ, lsS]
          refine takeY 18 35 rfl rfl (v := ?_) ?_ hHeld ?_
          rotate_left 1
          · (intro w hSw; (try dsimp only at hSw); go_simp; (try with_reducible rfl))
          try simp only [Act.put, lsT, lsZ, lsS]
          refine takeY 19 36 rfl rfl (v := ?_) ?_ hHeld ?_
          rotate_left 1
          · (intro w hSw; (try dsimp only at hSw); go_simp; (try with_reducible rfl))
          try simp only [Act.put, lsT, lsZ, lsS]
          refine wpAnyH_done (by kernel_rfl) ?_ _
          go_wp2
          go_roundw
          case rel => exact ⟨k + 1, by omega, by go_num, hok.out, (below_dr (hB.trans (hAl.mono hB.size))).trans (hB1.mono (hB.trans (hAl.mono hB.size)).size)⟩
          case measure => simp [intOf]; omega
        · have hk1 : k - 1 < R.length := by omega
          have hkp : 0 < k := by omega
          have hk1i : (1 : Int) ≤ (k : Int) := by omega
          have hm0 : (0 : Int) ≤ (k : Int) - 1 := by omega
          have hm1 : (k : Int) - 1 < (R.length : Int) := by omega
          have hmn : ((k : Int) - 1).toNat = k - 1 := by omega
          have hmw : IntKind.i64.wrap ((k : Int) - 1) = (k : Int) - 1 := IntWalk.i64_in _ (by omega)
          obtain ⟨y, hye0⟩ : ∃ y, R[k - 1].x = y := ⟨_, rfl⟩
          obtain ⟨yf, yg, yb⟩ := y
          have hye := Lib.hid hye0; clear hye0
          obtain ⟨ey0, ey1, ey2, -⟩ := br_cells hsb hk1
          rw [hye.out] at ey0 ey1 ey2
          simp only at ey0 ey1 ey2
          obtain ⟨cv, hcv0⟩ : ∃ cv, cmpX (yf, yg, yb) (xf, xg, xb) = cv := ⟨_, rfl⟩
          have hcv := Lib.hid hcv0; clear hcv0
          have hk0' := Lib.hid hk0; clear hk0
          by_cases hcl : cv < 0
          · have hnc : decide ((0 : Int) ≤ cv) = false := decide_eq_false (by omega)
            have hok := Lib.hid (hra.out.2 ⟨of_decide_eq_true hv'.out, fun _ => by rw [hye.out, hcv.out]; exact hcl⟩)
            go_wp2
            refine wp_region_held_drew (S := (fun w' => w'.cell? ⟨wr.heap.size, 0, none⟩ = some (.int .u32 xf) ∧ w'.cell? ⟨wr.heap.size, 1, none⟩ = some (.string xg) ∧ w'.cell? ⟨wr.heap.size, 2, none⟩ = some (.string xb) ∧ w'.cell? ⟨wr.heap.size, 3, none⟩ = some (.int .u8 st) ∧ w'.cell? ⟨wr.heap.size, 4, none⟩ = some (.int .u8 why) ∧ w'.cell? ⟨wr.heap.size, 5, none⟩ = some (.int .u32 tm) ∧ w'.cell? ⟨wr.heap.size, 6, none⟩ = some (.int .u32 lf) ∧ w'.cell? ⟨w.heap.size, 0, none⟩ = some (.slice (some ⟨g, off, none⟩) R.length rc) ∧ w'.cell? ⟨w.heap.size, 1, none⟩ = some (.slice aa A.length ac) ∧ w'.cell? ⟨g, off + (k - 1) * 7, none⟩ = some (.int .u32 yf) ∧ w'.cell? ⟨g, off + (k - 1) * 7 + 1, none⟩ = some (.string yg) ∧ w'.cell? ⟨g, off + (k - 1) * 7 + 2, none⟩ = some (.string yb))) (by kernel_rfl) ?_ (fun hHeld => ?_)
            · (first | exact ⟨h0, h1, h2, h3, h4, h5, h6, h7, h8, hy0, hy1, hy2⟩ | exact ⟨f0, f1, f2, f3, f4, f5, f6, f7, f8, fy0, fy1, fy2⟩ | exact ⟨e0, e1, e2, e3, e4, e5, e6, e7, e8, ey0, ey1, ey2⟩)
            refine takeY 0 17 rfl rfl (v := ?_) ?_ hHeld ?_
            rotate_left 1
            · (intro w hSw; (try dsimp only at hSw); go_simp; (try with_reducible rfl))
            try simp only [Act.put, lsT, lsZ, lsS]
            refine wpAnyH_ready (rs := [1]) (by kernel_rfl) (by simp) ?_
            refine AllReadyH.cons rfl (fun K hK => ?_) AllReadyH.nil
            go_simp
            (go_at_call 76; refine (hrow.out _).mono ?_; rintro e w1 ⟨rfl, hB1⟩; have b1 := b0.drew.pure hB1; have t1 := tb.drew.pure hB1; have hs1 := hsb.drew.pure hB1; have hB1t := (below_dr hBb).trans (hB1.mono hBb.size); have f0 := b1.at 0 rfl; have f1 := b1.at 1 rfl; have f2 := b1.at 2 rfl; have f3 := b1.at 3 rfl; have f4 := b1.at 4 rfl; have f5 := b1.at 5 rfl; have f6 := b1.at 6 rfl; have f7 := t1.at 0 rfl; have f8 := t1.at 1 rfl; obtain ⟨fy0, fy1, fy2, -⟩ := br_cells hs1 hk1; rw [hye.out] at fy0 fy1 fy2; simp only at fy0 fy1 fy2)
            refine hK.out _ _ ?_ (fun hHeld => ?_)
            · (first | exact ⟨h0, h1, h2, h3, h4, h5, h6, h7, h8, hy0, hy1, hy2⟩ | exact ⟨f0, f1, f2, f3, f4, f5, f6, f7, f8, fy0, fy1, fy2⟩ | exact ⟨e0, e1, e2, e3, e4, e5, e6, e7, e8, ey0, ey1, ey2⟩)
            clear hK K
            try simp only [Act.put, lsT, lsZ, lsS]
            refine takeY 2 19 rfl rfl (v := ?_) ?_ hHeld ?_
            rotate_left 1
            · (intro w hSw; (try dsimp only at hSw); go_simp; (try with_reducible rfl))
            try simp only [Act.put, lsT, lsZ, lsS]
            refine takeY 3 20 rfl rfl (v := ?_) ?_ hHeld ?_
            rotate_left 1
            · (intro w hSw; (try dsimp only at hSw); go_simp; (try with_reducible rfl))
            try simp only [Act.put, lsT, lsZ, lsS]
            refine takeY 4 21 rfl rfl (v := ?_) ?_ hHeld ?_
            rotate_left 1
            · (intro w hSw; (try dsimp only at hSw); go_simp; (try with_reducible rfl))
            try simp only [Act.put, lsT, lsZ, lsS]
            refine takeY 5 22 rfl rfl (v := ?_) ?_ hHeld ?_
            rotate_left 1
            · (intro w hSw; (try dsimp only at hSw); go_simp; (try with_reducible rfl))
            try simp only [Act.put, lsT, lsZ, lsS]
            refine takeY 6 23 rfl rfl (v := ?_) ?_ hHeld ?_
            rotate_left 1
            · (intro w hSw; (try dsimp only at hSw); go_simp; (try with_reducible rfl))
            try simp only [Act.put, lsT, lsZ, lsS]
            refine takeY 7 24 rfl rfl (v := ?_) ?_ hHeld ?_
            rotate_left 1
            · (intro w hSw; (try dsimp only at hSw); go_simp; (try with_reducible rfl))
            try simp only [Act.put, lsT, lsZ, lsS]
            refine takeY 8 25 rfl rfl (v := ?_) ?_ hHeld ?_
            rotate_left 1
            · (intro w hSw; (try dsimp only at hSw); go_simp; (try with_reducible rfl))
            try simp only [Act.put, lsT, lsZ, lsS]
            refine takeY 9 26 rfl rfl (v := ?_) ?_ hHeld ?_
            rotate_left 1
            · (intro w hSw; (try dsimp only at hSw); go_simp; (try with_reducible rfl))
            try simp only [Act.put, lsT, lsZ, lsS]
            refine takeY 10 27 rfl rfl (v := ?_) ?_ hHeld ?_
            rotate_left 1
            · (intro w hSw; (try dsimp only at hSw); go_simp; (try with_reducible rfl))
            try simp only [Act.put, lsT, lsZ, lsS]
            refine takeY 11 28 rfl rfl (v := ?_) ?_ hHeld ?_
            rotate_left 1
            · (intro w hSw; (try dsimp only at hSw); go_simp; (try with_reducible rfl))
            try simp only [Act.put, lsT, lsZ, lsS]
            refine takeY 12 29 rfl rfl (v := ?_) ?_ hHeld ?_
            rotate_left 1
            · (intro w hSw; (try dsimp only at hSw); go_simp; (try with_reducible rfl))
            try simp only [Act.put, lsT, lsZ, lsS]
            refine takeY 13 30 rfl rfl (v := ?_) ?_ hHeld ?_
            rotate_left 1
            · (intro w hSw; (try dsimp only at hSw); go_simp; (try with_reducible rfl))
            try simp only [Act.put, lsT, lsZ, lsS]
            refine takeY 14 31 rfl rfl (v := ?_) ?_ hHeld ?_
            rotate_left 1
            · (intro w hSw; (try dsimp only at hSw); go_simp; (try with_reducible rfl))
            try simp only [Act.put, lsT, lsZ, lsS]
            refine takeY 15 32 rfl rfl (v := ?_) ?_ hHeld ?_
            rotate_left 1
            · (intro w hSw; (try dsimp only at hSw); go_simp; (try with_reducible rfl))
            try simp only [Act.put, lsT, lsZ, lsS]
            refine wpAnyH_ready (rs := [16]) (by kernel_rfl) (by simp) ?_
            refine AllReadyH.cons rfl (fun K hK => ?_) AllReadyH.nil
            go_simp
            (go_at_call 77; refine (xid_compare _ (yf, yg, yb) (xf, xg, xb)).mono ?_; rw [hcv.out]; rintro e w2 ⟨rfl, hB2⟩; have b2 := b1.pure hB2; have t2 := t1.pure hB2; have hs2 := hs1.pure hB2; have hB2t := hB1t.trans (hB2.mono hB1t.size); have h0 := b2.at 0 rfl; have h1 := b2.at 1 rfl; have h2 := b2.at 2 rfl; have h3 := b2.at 3 rfl; have h4 := b2.at 4 rfl; have h5 := b2.at 5 rfl; have h6 := b2.at 6 rfl; have h7 := t2.at 0 rfl; have h8 := t2.at 1 rfl; obtain ⟨hy0, hy1, hy2, -⟩ := br_cells hs2 hk1; rw [hye.out] at hy0 hy1 hy2; simp only at hy0 hy1 hy2)
            refine hK.out _ _ ?_ (fun hHeld => ?_)
            · (first | exact ⟨h0, h1, h2, h3, h4, h5, h6, h7, h8, hy0, hy1, hy2⟩ | exact ⟨f0, f1, f2, f3, f4, f5, f6, f7, f8, fy0, fy1, fy2⟩ | exact ⟨e0, e1, e2, e3, e4, e5, e6, e7, e8, ey0, ey1, ey2⟩)
            clear hK K
            try simp only [Act.put, lsT, lsZ, lsS]
            refine takeY 17 34 rfl rfl (v := ?_) ?_ hHeld ?_
            rotate_left 1
            · (intro w hSw; (try dsimp only at hSw); go_simp; (try with_reducible rfl))
            try simp only [Act.put, lsT, lsZ, lsS]
            refine takeY 18 35 rfl rfl (v := ?_) ?_ hHeld ?_
            rotate_left 1
            · (intro w hSw; (try dsimp only at hSw); go_simp; (try with_reducible rfl))
            try simp only [Act.put, lsT, lsZ, lsS]
            refine takeY 19 36 rfl rfl (v := ?_) ?_ hHeld ?_
            rotate_left 1
            · (intro w hSw; (try dsimp only at hSw); go_simp; (try with_reducible rfl))
            try simp only [Act.put, lsT, lsZ, lsS]
            refine wpAnyH_done (by kernel_rfl) ?_ _
            go_wp2
            go_roundw
            case rel => exact ⟨k + 1, by omega, by go_num, hok.out, ((below_dr (hB.trans (hAl.mono hB.size))).trans (hB1.mono (hB.trans (hAl.mono hB.size)).size)).trans (hB2.mono ((below_dr (hB.trans (hAl.mono hB.size))).trans (hB1.mono (hB.trans (hAl.mono hB.size)).size)).size)⟩
            case measure => simp [intOf]; omega
          · have hnc : decide ((0 : Int) ≤ cv) = true := decide_eq_true (by omega)
            have hno := Lib.hid (hbad.out (fun h => hcl (by have h9 := (hra.out.1 h).2 (by omega); rw [hye.out, hcv.out] at h9; exact h9)))
            go_wp2
            refine wp_region_held_drew (S := (fun w' => w'.cell? ⟨wr.heap.size, 0, none⟩ = some (.int .u32 xf) ∧ w'.cell? ⟨wr.heap.size, 1, none⟩ = some (.string xg) ∧ w'.cell? ⟨wr.heap.size, 2, none⟩ = some (.string xb) ∧ w'.cell? ⟨wr.heap.size, 3, none⟩ = some (.int .u8 st) ∧ w'.cell? ⟨wr.heap.size, 4, none⟩ = some (.int .u8 why) ∧ w'.cell? ⟨wr.heap.size, 5, none⟩ = some (.int .u32 tm) ∧ w'.cell? ⟨wr.heap.size, 6, none⟩ = some (.int .u32 lf) ∧ w'.cell? ⟨w.heap.size, 0, none⟩ = some (.slice (some ⟨g, off, none⟩) R.length rc) ∧ w'.cell? ⟨w.heap.size, 1, none⟩ = some (.slice aa A.length ac) ∧ w'.cell? ⟨g, off + (k - 1) * 7, none⟩ = some (.int .u32 yf) ∧ w'.cell? ⟨g, off + (k - 1) * 7 + 1, none⟩ = some (.string yg) ∧ w'.cell? ⟨g, off + (k - 1) * 7 + 2, none⟩ = some (.string yb))) (by kernel_rfl) ?_ (fun hHeld => ?_)
            · (first | exact ⟨h0, h1, h2, h3, h4, h5, h6, h7, h8, hy0, hy1, hy2⟩ | exact ⟨f0, f1, f2, f3, f4, f5, f6, f7, f8, fy0, fy1, fy2⟩ | exact ⟨e0, e1, e2, e3, e4, e5, e6, e7, e8, ey0, ey1, ey2⟩)
            refine takeY 0 17 rfl rfl (v := ?_) ?_ hHeld ?_
            rotate_left 1
            · (intro w hSw; (try dsimp only at hSw); go_simp; (try with_reducible rfl))
            try simp only [Act.put, lsT, lsZ, lsS]
            refine wpAnyH_ready (rs := [1]) (by kernel_rfl) (by simp) ?_
            refine AllReadyH.cons rfl (fun K hK => ?_) AllReadyH.nil
            go_simp
            (go_at_call 76; refine (hrow.out _).mono ?_; rintro e w1 ⟨rfl, hB1⟩; have b1 := b0.drew.pure hB1; have t1 := tb.drew.pure hB1; have hs1 := hsb.drew.pure hB1; have hB1t := (below_dr hBb).trans (hB1.mono hBb.size); have f0 := b1.at 0 rfl; have f1 := b1.at 1 rfl; have f2 := b1.at 2 rfl; have f3 := b1.at 3 rfl; have f4 := b1.at 4 rfl; have f5 := b1.at 5 rfl; have f6 := b1.at 6 rfl; have f7 := t1.at 0 rfl; have f8 := t1.at 1 rfl; obtain ⟨fy0, fy1, fy2, -⟩ := br_cells hs1 hk1; rw [hye.out] at fy0 fy1 fy2; simp only at fy0 fy1 fy2)
            refine hK.out _ _ ?_ (fun hHeld => ?_)
            · (first | exact ⟨h0, h1, h2, h3, h4, h5, h6, h7, h8, hy0, hy1, hy2⟩ | exact ⟨f0, f1, f2, f3, f4, f5, f6, f7, f8, fy0, fy1, fy2⟩ | exact ⟨e0, e1, e2, e3, e4, e5, e6, e7, e8, ey0, ey1, ey2⟩)
            clear hK K
            try simp only [Act.put, lsT, lsZ, lsS]
            refine takeY 2 19 rfl rfl (v := ?_) ?_ hHeld ?_
            rotate_left 1
            · (intro w hSw; (try dsimp only at hSw); go_simp; (try with_reducible rfl))
            try simp only [Act.put, lsT, lsZ, lsS]
            refine takeY 3 20 rfl rfl (v := ?_) ?_ hHeld ?_
            rotate_left 1
            · (intro w hSw; (try dsimp only at hSw); go_simp; (try with_reducible rfl))
            try simp only [Act.put, lsT, lsZ, lsS]
            refine takeY 4 21 rfl rfl (v := ?_) ?_ hHeld ?_
            rotate_left 1
            · (intro w hSw; (try dsimp only at hSw); go_simp; (try with_reducible rfl))
            try simp only [Act.put, lsT, lsZ, lsS]
            refine takeY 5 22 rfl rfl (v := ?_) ?_ hHeld ?_
            rotate_left 1
            · (intro w hSw; (try dsimp only at hSw); go_simp; (try with_reducible rfl))
            try simp only [Act.put, lsT, lsZ, lsS]
            refine takeY 6 23 rfl rfl (v := ?_) ?_ hHeld ?_
            rotate_left 1
            · (intro w hSw; (try dsimp only at hSw); go_simp; (try with_reducible rfl))
            try simp only [Act.put, lsT, lsZ, lsS]
            refine takeY 7 24 rfl rfl (v := ?_) ?_ hHeld ?_
            rotate_left 1
            · (intro w hSw; (try dsimp only at hSw); go_simp; (try with_reducible rfl))
            try simp only [Act.put, lsT, lsZ, lsS]
            refine takeY 8 25 rfl rfl (v := ?_) ?_ hHeld ?_
            rotate_left 1
            · (intro w hSw; (try dsimp only at hSw); go_simp; (try with_reducible rfl))
            try simp only [Act.put, lsT, lsZ, lsS]
            refine takeY 9 26 rfl rfl (v := ?_) ?_ hHeld ?_
            rotate_left 1
            · (intro w hSw; (try dsimp only at hSw); go_simp; (try with_reducible rfl))
            try simp only [Act.put, lsT, lsZ, lsS]
            refine takeY 10 27 rfl rfl (v := ?_) ?_ hHeld ?_
            rotate_left 1
            · (intro w hSw; (try dsimp only at hSw); go_simp; (try with_reducible rfl))
            try simp only [Act.put, lsT, lsZ, lsS]
            refine takeY 11 28 rfl rfl (v := ?_) ?_ hHeld ?_
            rotate_left 1
            · (intro w hSw; (try dsimp only at hSw); go_simp; (try with_reducible rfl))
            try simp only [Act.put, lsT, lsZ, lsS]
            refine takeY 12 29 rfl rfl (v := ?_) ?_ hHeld ?_
            rotate_left 1
            · (intro w hSw; (try dsimp only at hSw); go_simp; (try with_reducible rfl))
            try simp only [Act.put, lsT, lsZ, lsS]
            refine takeY 13 30 rfl rfl (v := ?_) ?_ hHeld ?_
            rotate_left 1
            · (intro w hSw; (try dsimp only at hSw); go_simp; (try with_reducible rfl))
            try simp only [Act.put, lsT, lsZ, lsS]
            refine takeY 14 31 rfl rfl (v := ?_) ?_ hHeld ?_
            rotate_left 1
            · (intro w hSw; (try dsimp only at hSw); go_simp; (try with_reducible rfl))
            try simp only [Act.put, lsT, lsZ, lsS]
            refine takeY 15 32 rfl rfl (v := ?_) ?_ hHeld ?_
            rotate_left 1
            · (intro w hSw; (try dsimp only at hSw); go_simp; (try with_reducible rfl))
            try simp only [Act.put, lsT, lsZ, lsS]
            refine wpAnyH_ready (rs := [16]) (by kernel_rfl) (by simp) ?_
            refine AllReadyH.cons rfl (fun K hK => ?_) AllReadyH.nil
            go_simp
            (go_at_call 77; refine (xid_compare _ (yf, yg, yb) (xf, xg, xb)).mono ?_; rw [hcv.out]; rintro e w2 ⟨rfl, hB2⟩; have b2 := b1.pure hB2; have t2 := t1.pure hB2; have hs2 := hs1.pure hB2; have hB2t := hB1t.trans (hB2.mono hB1t.size); have h0 := b2.at 0 rfl; have h1 := b2.at 1 rfl; have h2 := b2.at 2 rfl; have h3 := b2.at 3 rfl; have h4 := b2.at 4 rfl; have h5 := b2.at 5 rfl; have h6 := b2.at 6 rfl; have h7 := t2.at 0 rfl; have h8 := t2.at 1 rfl; obtain ⟨hy0, hy1, hy2, -⟩ := br_cells hs2 hk1; rw [hye.out] at hy0 hy1 hy2; simp only at hy0 hy1 hy2)
            refine hK.out _ _ ?_ (fun hHeld => ?_)
            · (first | exact ⟨h0, h1, h2, h3, h4, h5, h6, h7, h8, hy0, hy1, hy2⟩ | exact ⟨f0, f1, f2, f3, f4, f5, f6, f7, f8, fy0, fy1, fy2⟩ | exact ⟨e0, e1, e2, e3, e4, e5, e6, e7, e8, ey0, ey1, ey2⟩)
            clear hK K
            try simp only [Act.put, lsT, lsZ, lsS]
            refine takeY 17 34 rfl rfl (v := ?_) ?_ hHeld ?_
            rotate_left 1
            · (intro w hSw; (try dsimp only at hSw); go_simp; (try with_reducible rfl))
            try simp only [Act.put, lsT, lsZ, lsS]
            refine takeY 18 35 rfl rfl (v := ?_) ?_ hHeld ?_
            rotate_left 1
            · (intro w hSw; (try dsimp only at hSw); go_simp; (try with_reducible rfl))
            try simp only [Act.put, lsT, lsZ, lsS]
            refine takeY 19 36 rfl rfl (v := ?_) ?_ hHeld ?_
            rotate_left 1
            · (intro w hSw; (try dsimp only at hSw); go_simp; (try with_reducible rfl))
            try simp only [Act.put, lsT, lsZ, lsS]
            refine wpAnyH_done (by kernel_rfl) ?_ _
            go_wp2
            go_ret
            exact ⟨by rw [hno.out]; rfl, hB2t⟩
    · obtain rfl : k = R.length := by omega
      rw [List.take_length] at hK hK'
      clear hK
      have d0 := tr.at 0 rfl
      have d1 := tr.at 1 rfl
      have hrises := Lib.hid hK'.out.2
      by_cases hAr : RowA A
      rotate_left 1
      · have hno := Lib.hid (tab_bad2 (R := R) hAr)
        have hrv := Lib.hid (rowE_no hAr)
        clear hAr
        go_wp2_with (go_at_call 78; refine (check_any _ _ A (hA.pure hBw) hLA).mono ?_; rw [hrv.out]; rintro e w1 ⟨rfl, hB1⟩)
        go_ret
        exact ⟨by rw [hno.out]; rfl, hBw.trans (hB1.mono hBw.size)⟩
      · have hrv := Lib.hid (rowE_yes hAr)
        have hAr' := Lib.hid hAr; clear hAr
        go_wp2_with (go_at_call 78; refine (check_any _ _ A (hA.pure hBw) hLA).mono ?_; rw [hrv.out]; rintro e w1 ⟨rfl, hB1⟩; have t1 := tr.pure hB1; have q0 := t1.at 0 rfl; have q1 := t1.at 1 rfl; have hBw1 := hBw.trans (hB1.mono hBw.size))
        have hz1 : w.heap.size < w1.heap.size := Nat.lt_of_lt_of_le hz0 (Nat.le_trans hB.size hB1.size)
        clear q0 q1 d0 d1
        go_loopw [45] (fun s45 wr => ∃ k : Nat, k ≤ A.length ∧ s45 = .int .i64 k ∧ LeadsOk R (A.take k) ∧ Below w1.heap.size w1 wr) (fun s45 _ => A.length - (intOf s45).toNat)
        case atStart => exact ⟨0, by omega, rfl, by simpa using LeadsOk.nil, Below.refl _ _⟩
        case round =>
          obtain ⟨k, hk, rfl, hQ, hB2⟩ := hrel
          have hB2w := hBw1.trans (hB2.mono hBw1.size)
          have t2 := t1.below hB2 hz1
          have m0 := t2.at 0 rfl
          have m1 := t2.at 1 rfl
          by_cases hlt : k < A.length
          · have hqa := Lib.hid (leads_at hlt hQ)
            have hbad := Lib.hid (fun h => tab_bad3 (A := A) (k := k) (R := R) h)
            clear hQ
            have hsa := hA.pure hB2w
            obtain ⟨ga, oa, rfl⟩ := hsa.addr hlt
            obtain ⟨c0, c1, c2, c3, c4⟩ := asc_cells hsa hlt
            obtain ⟨x, hxe⟩ : ∃ x, x = A[k] := ⟨_, rfl⟩
            rw [← hxe] at c0 c1 c2 c3 c4 hqa
            clear hxe
            obtain ⟨xs, ⟨xf, xg, xb⟩, xz⟩ := x
            simp only at c0 c1 c2 c3 c4 hqa
            have b2 := Blk.new wr [.int .u64 xs, .int .u32 xf, .string xg, .string xb, .bool xz] 57
            have hAl := (Below.refl wr.heap.size wr).alloc (Nat.le_refl _) (.cells #[.int .u64 xs, .int .u32 xf, .string xg, .string xb, .bool xz] 57)
            have hBb := hB2w.trans (hAl.mono hB2w.size)
            have tb := t2.pure hAl
            have p0 := tb.at 0 rfl; have p1 := tb.at 1 rfl; have p2 := b2.at 1 rfl; have p3 := b2.at 2 rfl; have p4 := b2.at 3 rfl
            by_cases hm : MemB R (xf, xg, xb)
            · obtain ⟨j, hj, hjx⟩ := hm
              have hat := Lib.hid (fun u (hu : Below w.heap.size w u) => atB_yes u _ R (xf, xg, xb) j (hR.pure hu) hrises.out hLR hj hjx)
              have hqb : Hid (LeadsOk R (A.take (k + 1)) ↔ R[j].st = 1) := Lib.hid (hqa.out.trans ⟨fun ⟨b, hb, e1, e2⟩ => by
                obtain ⟨i, hi, rfl⟩ := List.getElem_of_mem hb
                have := sameB_idx hrises.out hi hj (e1.trans hjx.symm)
                subst this; exact e2, fun h => ⟨R[j], List.getElem_mem hj, hjx, h⟩⟩)
              clear hjx
              have hj0 : (0 : Int) ≤ (j : Int) := by omega
              have hj1 : (j : Int) < (R.length : Int) := by omega
              obtain ⟨rg, ro, rfl⟩ := hR.addr hj
              by_cases hs : R[j].st = 1
              · have hok := Lib.hid (hqb.out.2 hs)
                have hs' := Lib.hid hs; clear hs
                go_wp2_with (go_at_call 72; refine (hat.out _ hBb).mono ?_; rintro e w3 ⟨rfl, hB3⟩; have t3 := tb.pure hB3; have hBt := hBb.trans (hB3.mono hBb.size); obtain ⟨d0, d1, d2, d3, d4, d5, d6⟩ := br_cells (hR.pure hBt) hj; rw [hs'.out] at d3; have n0 := t3.at 0 rfl; have n1 := t3.at 1 rfl)
                go_roundw
                case rel => exact ⟨k + 1, by omega, by go_num, hok.out, (hB2.trans (hAl.mono hB2.size)).trans (hB3.mono (hB2.trans (hAl.mono hB2.size)).size)⟩
                case measure => simp [intOf]; omega
              · have hno := Lib.hid (hbad.out (fun h => hs (hqb.out.1 h)))
                have hsb : (R[j].st != 1) = true := bne_iff_ne.2 hs
                clear hs
                go_wp2_with (go_at_call 72; refine (hat.out _ hBb).mono ?_; rintro e w3 ⟨rfl, hB3⟩; have t3 := tb.pure hB3; have hBt := hBb.trans (hB3.mono hBb.size); obtain ⟨d0, d1, d2, d3, d4, d5, d6⟩ := br_cells (hR.pure hBt) hj; have n0 := t3.at 0 rfl; have n1 := t3.at 1 rfl)
                go_ret
                exact ⟨by rw [hno.out]; rfl, hBt⟩
            · have hat := Lib.hid (fun u (hu : Below w.heap.size w u) => atB_no u _ R (xf, xg, xb) (hR.pure hu) hrises.out hLR hm)
              have hno := Lib.hid (hbad.out (fun h => hm (by obtain ⟨b, hb, e1, e2⟩ := hqa.out.1 h; obtain ⟨i, hi, rfl⟩ := List.getElem_of_mem hb; exact ⟨i, hi, e1⟩)))
              clear hm
              go_wp2_with (go_at_call 72; refine (hat.out _ hBb).mono ?_; rintro e w3 ⟨i, -, rfl, hB3⟩; have t3 := tb.pure hB3; have hBt := hBb.trans (hB3.mono hBb.size); have n0 := t3.at 0 rfl; have n1 := t3.at 1 rfl)
              go_ret
              exact ⟨by rw [hno.out]; rfl, hBt⟩
          · obtain rfl : k = A.length := by omega
            rw [List.take_length] at hQ
            have hyes := Lib.hid (tabE_yes (R := R) (A := A) ((tabOk_iff R A).2 ⟨hK'.out, hAr'.out, hQ⟩))
            clear hQ
            go_wp2
            go_ret
            exact ⟨by rw [hyes.out]; rfl, hB2w⟩
end Go.Proofs.Ytcelpincmpjhkaa
