/- Package assoc: Check. Conditions: the row reads as associations; at most a million. Written by gen_acheck.py. -/
import Derived.Test.YtcelpincmpjhkaaGC
import Derived.Test.YtcelpincmpjhkaaGB
import Derived.IntWalk
namespace Go.Proofs.Ytcelpincmpjhkaa
set_option linter.unusedSimpArgs false
set_option linter.unusedVariables false
open Go.RowKit

theorem xid_chk (w : World) (x : Xid) (v : Int) (h : (if XidOk x then (0 : Int) else 40) = v) :
    Calls Try.prog 99 #[.agg #[.int .u32 x.1, .string x.2.1, .string x.2.2]] w fun e w' => e = .returned (.int .i64 v) ∧ Below w.heap.size w w' := by
  refine (xid_check w x).mono ?_
  rintro e w' ⟨he, hb⟩
  refine ⟨?_, hb⟩
  rw [he, ← h]
  unfold XidOk
  congr 2
theorem take_snoc (L : List Asc) {k : Nat} (h : k < L.length) : L.take (k + 1) = L.take k ++ [L[k]] := List.take_succ_eq_append_getElem h
theorem last_take (L : List Asc) {k : Nat} (h : k < L.length) (hk : 0 < k) : (L.take k).getLast? = some (L[k - 1]'(by omega)) := by
  rw [List.getLast?_eq_getElem?, List.length_take, Nat.min_eq_left (by omega), List.getElem?_take, if_pos (by omega), List.getElem?_eq_getElem]
/-- A row that is not right at a place is not right. -/
theorem row_bad {L : List Asc} {k : Nat} (h : k < L.length) (hn : ¬ RowA (L.take (k + 1))) : ¬ RowA L := fun hr => hn (hr.take _)
/-- How the round at k goes. -/
theorem row_at {L : List Asc} {k : Nat} (h : k < L.length) (hr : RowA (L.take k)) : RowA (L.take (k + 1)) ↔ L[k].1 ≠ 0 ∧ XidOk L[k].2.1 ∧ (∀ hk : 0 < k, cmpA (L[k - 1]'(by omega)) L[k] < 0) ∧ (L[k].2.2 = true ∨ L[k].1 ≠ actOf (L.take k)) := by
  rw [take_snoc L h, row_snoc]
  constructor
  · rintro ⟨_, h1, h2, h3, h4⟩; exact ⟨h1, h2, fun hk => h3 _ (last_take L h hk), h4⟩
  · rintro ⟨h1, h2, h3, h4⟩
    refine ⟨hr, h1, h2, fun b hb => ?_, h4⟩
    by_cases hk : 0 < k
    · rw [last_take L h hk] at hb; injection hb with hb; subst hb; exact h3 hk
    · have : k = 0 := by omega
      subst this; simp at hb


set_option maxRecDepth 100000 in
set_option maxHeartbeats 4000000 in
theorem check_any (w : World) (v : Value) (L : List Asc) (hs : Slc ascEnc 5 w v L) (hL : L.length ≤ 1000000) :
    Calls Try.prog 78 #[v] w fun e w' => e = .returned (.int .i64 (rowE L)) ∧ Below w.heap.size w w' := by
  obtain ⟨a, cap, rfl, hm⟩ := hs.len
  unfold maxLen at hm
  go_enter Try.func78, Try.ntmps78
  go_wp2
  go_loopw [3, 8] (fun s3 s8 wr => ∃ k : Nat, k ≤ L.length ∧ s8 = .int .i64 k ∧ s3 = .int .u64 (actOf (L.take k)) ∧ RowA (L.take k) ∧ Below w.heap.size w wr) (fun _ s8 _ => L.length - (intOf s8).toNat)
  case atStart => exact ⟨0, by omega, rfl, by simp [actOf, actFrom], by simpa using RowA.nil, Below.refl _ _⟩
  case round =>
    obtain ⟨k, hk, rfl, rfl, hR, hB⟩ := hrel
    have hR' := Lib.hid hR
    have hBs := hB.size
    by_cases hlt : k < L.length
    · have hra := Lib.hid (row_at hlt hR)
      have hbad := Lib.hid (fun h => rowE_no (row_bad hlt h))
      have hact : actOf (L.take (k + 1)) = if L[k].2.2 = true then actOf (L.take k) else L[k].1 := by rw [take_snoc L hlt, actOf_snoc]
      have hact' := Lib.hid hact
      clear hact hR
      obtain ⟨act, hae⟩ : ∃ act, act = actOf (L.take k) := ⟨_, rfl⟩
      rw [← hae]
      have hae' := Lib.hid hae; clear hae
      have hsr := hs.pure hB
      obtain ⟨g, off, rfl⟩ := hsr.addr hlt
      obtain ⟨c0, c1, c2, c3, c4⟩ := asc_cells hsr hlt
      obtain ⟨x, hxe⟩ : ∃ x, x = L[k] := ⟨_, rfl⟩
      rw [← hxe] at c0 c1 c2 c3 c4 hra hact'
      have hxe' := Lib.hid hxe; clear hxe
      obtain ⟨xs, ⟨xf, xg, xb⟩, xz⟩ := x
      simp only at c0 c1 c2 c3 c4 hra hact'
      have b0 := Blk.new wr (ascEnc (xs, (xf, xg, xb), xz)) 57
      have hBb := hB.alloc hBs (.cells (ascEnc (xs, (xf, xg, xb), xz)).toArray 57)
      have hsb := hsr.pure ((Below.refl wr.heap.size wr).alloc (Nat.le_refl _) (.cells (ascEnc (xs, (xf, xg, xb), xz)).toArray 57))
      have e0 : (wr.alloc (.cells #[.int .u64 xs, .int .u32 xf, .string xg, .string xb, .bool xz] 57)).cell? ⟨wr.heap.size, 0, none⟩ = some (.int .u64 xs) := b0.cell 0
      have e1 : (wr.alloc (.cells #[.int .u64 xs, .int .u32 xf, .string xg, .string xb, .bool xz] 57)).cell? ⟨wr.heap.size, 1, none⟩ = some (.int .u32 xf) := b0.cell 1
      have e2 : (wr.alloc (.cells #[.int .u64 xs, .int .u32 xf, .string xg, .string xb, .bool xz] 57)).cell? ⟨wr.heap.size, 2, none⟩ = some (.string xg) := b0.cell 2
      have e3 : (wr.alloc (.cells #[.int .u64 xs, .int .u32 xf, .string xg, .string xb, .bool xz] 57)).cell? ⟨wr.heap.size, 3, none⟩ = some (.string xb) := b0.cell 3
      have e4 : (wr.alloc (.cells #[.int .u64 xs, .int .u32 xf, .string xg, .string xb, .bool xz] 57)).cell? ⟨wr.heap.size, 4, none⟩ = some (.bool xz) := b0.cell 4
      by_cases hz0 : xs = 0
      · have hzb : (xs == 0) = true := by rw [hz0]; rfl
        have hz' := Lib.hid hz0; clear hz0
        have hno := Lib.hid (hbad.out (fun h => (fun q => q.1 hz'.out) (hra.out.1 h)))
        go_wp2
        go_quiet (fail)
        all_goals
          go_wp2
          go_ret
          exact ⟨by rw [hno.out]; rfl, below_drewN hBb _⟩
      · have hzb : (xs == 0) = false := beq_eq_false_iff_ne.2 hz0
        have hz' := Lib.hid hz0; clear hz0
        by_cases hx : XidOk (xf, xg, xb)
        · have hxv : Hid ((if XidOk (xf, xg, xb) then (0 : Int) else 40) = 0) := Lib.hid (if_pos hx)
          have hx' := Lib.hid hx; clear hx
          by_cases hk0 : k = 0
          · have hkz : ¬ 0 < k := by omega
            have hk0' := Lib.hid hk0; clear hk0
            cases xz
            · have hdum := True.intro
              by_cases hq : xs = act
              · have hqb : (xs == act) = true := by rw [hq]; simp
                have hq' := Lib.hid hq; clear hq
                have hno := Lib.hid (hbad.out (fun h => (fun q => q.2.2.2.elim (fun h => by simp at h) (fun h => h (hq'.out.trans hae'.out))) (hra.out.1 h)))
                go_wp2
                refine wp_region_held_drew (S := (fun w' => w'.cell? ⟨wr.heap.size, 0, none⟩ = some (.int .u64 xs) ∧ w'.cell? ⟨wr.heap.size, 1, none⟩ = some (.int .u32 xf) ∧ w'.cell? ⟨wr.heap.size, 2, none⟩ = some (.string xg) ∧ w'.cell? ⟨wr.heap.size, 3, none⟩ = some (.string xb) ∧ w'.cell? ⟨wr.heap.size, 4, none⟩ = some (.bool false))) (by kernel_rfl) ?_ (fun hHeld => ?_)
                · (first | exact ⟨h0, h1, h2, h3, h4⟩ | exact ⟨f0, f1, f2, f3, f4⟩ | exact ⟨e0, e1, e2, e3, e4⟩)
                refine takeY 0 13 rfl rfl (v := ?_) ?_ hHeld ?_
                rotate_left 1
                · (intro w hSw; (try dsimp only at hSw); go_simp; (try with_reducible rfl))
                try simp only [Act.put, lsT, lsZ, lsS]
                refine takeY 1 14 rfl rfl (v := ?_) ?_ hHeld ?_
                rotate_left 1
                · (intro w hSw; (try dsimp only at hSw); go_simp; (try with_reducible rfl))
                try simp only [Act.put, lsT, lsZ, lsS]
                refine takeY 2 15 rfl rfl (v := ?_) ?_ hHeld ?_
                rotate_left 1
                · (intro w hSw; (try dsimp only at hSw); go_simp; (try with_reducible rfl))
                try simp only [Act.put, lsT, lsZ, lsS]
                refine takeY 3 16 rfl rfl (v := ?_) ?_ hHeld ?_
                rotate_left 1
                · (intro w hSw; (try dsimp only at hSw); go_simp; (try with_reducible rfl))
                try simp only [Act.put, lsT, lsZ, lsS]
                refine takeY 4 17 rfl rfl (v := ?_) ?_ hHeld ?_
                rotate_left 1
                · (intro w hSw; (try dsimp only at hSw); go_simp; (try with_reducible rfl))
                try simp only [Act.put, lsT, lsZ, lsS]
                refine takeY 5 18 rfl rfl (v := ?_) ?_ hHeld ?_
                rotate_left 1
                · (intro w hSw; (try dsimp only at hSw); go_simp; (try with_reducible rfl))
                try simp only [Act.put, lsT, lsZ, lsS]
                refine wpAnyH_ready (rs := [6]) (by kernel_rfl) (by simp) ?_
                refine AllReadyH.cons rfl (fun K hK => ?_) AllReadyH.nil
                go_simp
                (go_at_call 99; refine (xid_chk _ (xf, xg, xb) _ hxv.out).mono ?_; rintro e w1 ⟨rfl, hB1⟩; have b1 := b0.drew.pure hB1; have hs1 := hsb.drew.pure hB1; have hB1t := (below_dr hBb).trans (hB1.mono hBb.size); have f0 : w1.cell? ⟨wr.heap.size, 0, none⟩ = some (.int .u64 xs) := b1.cell 0; have f1 : w1.cell? ⟨wr.heap.size, 1, none⟩ = some (.int .u32 xf) := b1.cell 1; have f2 : w1.cell? ⟨wr.heap.size, 2, none⟩ = some (.string xg) := b1.cell 2; have f3 : w1.cell? ⟨wr.heap.size, 3, none⟩ = some (.string xb) := b1.cell 3; have f4 : w1.cell? ⟨wr.heap.size, 4, none⟩ = some (.bool false) := b1.cell 4)
                refine hK.out _ _ ?_ (fun hHeld => ?_)
                · (first | exact ⟨h0, h1, h2, h3, h4⟩ | exact ⟨f0, f1, f2, f3, f4⟩ | exact ⟨e0, e1, e2, e3, e4⟩)
                clear hK K
                try simp only [Act.put, lsT, lsZ, lsS]
                refine takeY 7 20 rfl rfl (v := ?_) ?_ hHeld ?_
                rotate_left 1
                · (intro w hSw; (try dsimp only at hSw); go_simp; (try with_reducible rfl))
                try simp only [Act.put, lsT, lsZ, lsS]
                refine takeY 8 21 rfl rfl (v := ?_) ?_ hHeld ?_
                rotate_left 1
                · (intro w hSw; (try dsimp only at hSw); go_simp; (try with_reducible rfl))
                try simp only [Act.put, lsT, lsZ, lsS]
                refine takeY 9 22 rfl rfl (v := ?_) ?_ hHeld ?_
                rotate_left 1
                · (intro w hSw; (try dsimp only at hSw); go_simp; (try with_reducible rfl))
                try simp only [Act.put, lsT, lsZ, lsS]
                refine takeY 10 23 rfl rfl (v := ?_) ?_ hHeld ?_
                rotate_left 1
                · (intro w hSw; (try dsimp only at hSw); go_simp; (try with_reducible rfl))
                try simp only [Act.put, lsT, lsZ, lsS]
                refine takeY 11 24 rfl rfl (v := ?_) ?_ hHeld ?_
                rotate_left 1
                · (intro w hSw; (try dsimp only at hSw); go_simp; (try with_reducible rfl))
                try simp only [Act.put, lsT, lsZ, lsS]
                refine takeY 12 25 rfl rfl (v := ?_) ?_ hHeld ?_
                rotate_left 1
                · (intro w hSw; (try dsimp only at hSw); go_simp; (try with_reducible rfl))
                try simp only [Act.put, lsT, lsZ, lsS]
                refine takeN 13 26 rfl rfl hHeld ?_
                try simp only [Act.put, lsT, lsZ, lsS]
                refine takeN 14 27 rfl rfl hHeld ?_
                try simp only [Act.put, lsT, lsZ, lsS]
                refine takeN 15 28 rfl rfl hHeld ?_
                try simp only [Act.put, lsT, lsZ, lsS]
                refine takeN 16 29 rfl rfl hHeld ?_
                try simp only [Act.put, lsT, lsZ, lsS]
                refine takeN 17 30 rfl rfl hHeld ?_
                try simp only [Act.put, lsT, lsZ, lsS]
                refine takeN 18 31 rfl rfl hHeld ?_
                try simp only [Act.put, lsT, lsZ, lsS]
                refine takeN 19 32 rfl rfl hHeld ?_
                try simp only [Act.put, lsT, lsZ, lsS]
                refine takeN 20 33 rfl rfl hHeld ?_
                try simp only [Act.put, lsT, lsZ, lsS]
                refine takeY 21 34 rfl rfl (v := ?_) ?_ hHeld ?_
                rotate_left 1
                · (intro w hSw; (try dsimp only at hSw); go_simp; (try with_reducible rfl))
                try simp only [Act.put, lsT, lsZ, lsS]
                refine takeY 22 35 rfl rfl (v := ?_) ?_ hHeld ?_
                rotate_left 1
                · (intro w hSw; (try dsimp only at hSw); go_simp; (try with_reducible rfl))
                try simp only [Act.put, lsT, lsZ, lsS]
                refine takeY 23 36 rfl rfl (v := ?_) ?_ hHeld ?_
                rotate_left 1
                · (intro w hSw; (try dsimp only at hSw); go_simp; (try with_reducible rfl))
                try simp only [Act.put, lsT, lsZ, lsS]
                refine takeY 24 37 rfl rfl (v := ?_) ?_ hHeld ?_
                rotate_left 1
                · (intro w hSw; (try dsimp only at hSw); go_simp; (try with_reducible rfl))
                try simp only [Act.put, lsT, lsZ, lsS]
                refine takeY 25 38 rfl rfl (v := ?_) ?_ hHeld ?_
                rotate_left 1
                · (intro w hSw; (try dsimp only at hSw); go_simp; (try with_reducible rfl))
                try simp only [Act.put, lsT, lsZ, lsS]
                refine takeY 26 39 rfl rfl (v := ?_) ?_ hHeld ?_
                rotate_left 1
                · (intro w hSw; (try dsimp only at hSw); go_simp; (try with_reducible rfl))
                try simp only [Act.put, lsT, lsZ, lsS]
                refine takeY 27 40 rfl rfl (v := ?_) ?_ hHeld ?_
                rotate_left 1
                · (intro w hSw; (try dsimp only at hSw); go_simp; (try with_reducible rfl))
                try simp only [Act.put, lsT, lsZ, lsS]
                refine takeY 28 41 rfl rfl (v := ?_) ?_ hHeld ?_
                rotate_left 1
                · (intro w hSw; (try dsimp only at hSw); go_simp; (try with_reducible rfl))
                try simp only [Act.put, lsT, lsZ, lsS]
                refine takeY 29 42 rfl rfl (v := ?_) ?_ hHeld ?_
                rotate_left 1
                · (intro w hSw; (try dsimp only at hSw); go_simp; (try with_reducible rfl))
                try simp only [Act.put, lsT, lsZ, lsS]
                refine takeY 30 43 rfl rfl (v := ?_) ?_ hHeld ?_
                rotate_left 1
                · (intro w hSw; (try dsimp only at hSw); go_simp; (try with_reducible rfl))
                try simp only [Act.put, lsT, lsZ, lsS]
                refine takeY 31 44 rfl rfl (v := ?_) ?_ hHeld ?_
                rotate_left 1
                · (intro w hSw; (try dsimp only at hSw); go_simp; (try with_reducible rfl))
                try simp only [Act.put, lsT, lsZ, lsS]
                refine takeY 32 45 rfl rfl (v := ?_) ?_ hHeld ?_
                rotate_left 1
                · (intro w hSw; (try dsimp only at hSw); go_simp; (try with_reducible rfl))
                try simp only [Act.put, lsT, lsZ, lsS]
                refine takeY 33 46 rfl rfl (v := ?_) ?_ hHeld ?_
                rotate_left 1
                · (intro w hSw; (try dsimp only at hSw); go_simp; (try with_reducible rfl))
                try simp only [Act.put, lsT, lsZ, lsS]
                refine wpAnyH_done (by kernel_rfl) ?_ _
                all_goals
                  go_wp2
                  go_ret
                  exact ⟨by rw [hno.out]; rfl, hB1t⟩
              · have hqb : (xs == act) = false := beq_eq_false_iff_ne.2 hq
                have hq' := Lib.hid hq; clear hq
                have hok := Lib.hid (hra.out.2 ⟨hz'.out, hx'.out, fun hk => absurd hk (by have := hk0'.out; omega), .inr (fun h => hq'.out (h.trans hae'.out.symm))⟩)
                have hac : Hid (xs = actOf (L.take (k + 1))) := Lib.hid (by rw [hact'.out]; simp)
                go_wp2
                refine wp_region_held_drew (S := (fun w' => w'.cell? ⟨wr.heap.size, 0, none⟩ = some (.int .u64 xs) ∧ w'.cell? ⟨wr.heap.size, 1, none⟩ = some (.int .u32 xf) ∧ w'.cell? ⟨wr.heap.size, 2, none⟩ = some (.string xg) ∧ w'.cell? ⟨wr.heap.size, 3, none⟩ = some (.string xb) ∧ w'.cell? ⟨wr.heap.size, 4, none⟩ = some (.bool false))) (by kernel_rfl) ?_ (fun hHeld => ?_)
                · (first | exact ⟨h0, h1, h2, h3, h4⟩ | exact ⟨f0, f1, f2, f3, f4⟩ | exact ⟨e0, e1, e2, e3, e4⟩)
                refine takeY 0 13 rfl rfl (v := ?_) ?_ hHeld ?_
                rotate_left 1
                · (intro w hSw; (try dsimp only at hSw); go_simp; (try with_reducible rfl))
                try simp only [Act.put, lsT, lsZ, lsS]
                refine takeY 1 14 rfl rfl (v := ?_) ?_ hHeld ?_
                rotate_left 1
                · (intro w hSw; (try dsimp only at hSw); go_simp; (try with_reducible rfl))
                try simp only [Act.put, lsT, lsZ, lsS]
                refine takeY 2 15 rfl rfl (v := ?_) ?_ hHeld ?_
                rotate_left 1
                · (intro w hSw; (try dsimp only at hSw); go_simp; (try with_reducible rfl))
                try simp only [Act.put, lsT, lsZ, lsS]
                refine takeY 3 16 rfl rfl (v := ?_) ?_ hHeld ?_
                rotate_left 1
                · (intro w hSw; (try dsimp only at hSw); go_simp; (try with_reducible rfl))
                try simp only [Act.put, lsT, lsZ, lsS]
                refine takeY 4 17 rfl rfl (v := ?_) ?_ hHeld ?_
                rotate_left 1
                · (intro w hSw; (try dsimp only at hSw); go_simp; (try with_reducible rfl))
                try simp only [Act.put, lsT, lsZ, lsS]
                refine takeY 5 18 rfl rfl (v := ?_) ?_ hHeld ?_
                rotate_left 1
                · (intro w hSw; (try dsimp only at hSw); go_simp; (try with_reducible rfl))
                try simp only [Act.put, lsT, lsZ, lsS]
                refine wpAnyH_ready (rs := [6]) (by kernel_rfl) (by simp) ?_
                refine AllReadyH.cons rfl (fun K hK => ?_) AllReadyH.nil
                go_simp
                (go_at_call 99; refine (xid_chk _ (xf, xg, xb) _ hxv.out).mono ?_; rintro e w1 ⟨rfl, hB1⟩; have b1 := b0.drew.pure hB1; have hs1 := hsb.drew.pure hB1; have hB1t := (below_dr hBb).trans (hB1.mono hBb.size); have f0 : w1.cell? ⟨wr.heap.size, 0, none⟩ = some (.int .u64 xs) := b1.cell 0; have f1 : w1.cell? ⟨wr.heap.size, 1, none⟩ = some (.int .u32 xf) := b1.cell 1; have f2 : w1.cell? ⟨wr.heap.size, 2, none⟩ = some (.string xg) := b1.cell 2; have f3 : w1.cell? ⟨wr.heap.size, 3, none⟩ = some (.string xb) := b1.cell 3; have f4 : w1.cell? ⟨wr.heap.size, 4, none⟩ = some (.bool false) := b1.cell 4)
                refine hK.out _ _ ?_ (fun hHeld => ?_)
                · (first | exact ⟨h0, h1, h2, h3, h4⟩ | exact ⟨f0, f1, f2, f3, f4⟩ | exact ⟨e0, e1, e2, e3, e4⟩)
                clear hK K
                try simp only [Act.put, lsT, lsZ, lsS]
                refine takeY 7 20 rfl rfl (v := ?_) ?_ hHeld ?_
                rotate_left 1
                · (intro w hSw; (try dsimp only at hSw); go_simp; (try with_reducible rfl))
                try simp only [Act.put, lsT, lsZ, lsS]
                refine takeY 8 21 rfl rfl (v := ?_) ?_ hHeld ?_
                rotate_left 1
                · (intro w hSw; (try dsimp only at hSw); go_simp; (try with_reducible rfl))
                try simp only [Act.put, lsT, lsZ, lsS]
                refine takeY 9 22 rfl rfl (v := ?_) ?_ hHeld ?_
                rotate_left 1
                · (intro w hSw; (try dsimp only at hSw); go_simp; (try with_reducible rfl))
                try simp only [Act.put, lsT, lsZ, lsS]
                refine takeY 10 23 rfl rfl (v := ?_) ?_ hHeld ?_
                rotate_left 1
                · (intro w hSw; (try dsimp only at hSw); go_simp; (try with_reducible rfl))
                try simp only [Act.put, lsT, lsZ, lsS]
                refine takeY 11 24 rfl rfl (v := ?_) ?_ hHeld ?_
                rotate_left 1
                · (intro w hSw; (try dsimp only at hSw); go_simp; (try with_reducible rfl))
                try simp only [Act.put, lsT, lsZ, lsS]
                refine takeY 12 25 rfl rfl (v := ?_) ?_ hHeld ?_
                rotate_left 1
                · (intro w hSw; (try dsimp only at hSw); go_simp; (try with_reducible rfl))
                try simp only [Act.put, lsT, lsZ, lsS]
                refine takeN 13 26 rfl rfl hHeld ?_
                try simp only [Act.put, lsT, lsZ, lsS]
                refine takeN 14 27 rfl rfl hHeld ?_
                try simp only [Act.put, lsT, lsZ, lsS]
                refine takeN 15 28 rfl rfl hHeld ?_
                try simp only [Act.put, lsT, lsZ, lsS]
                refine takeN 16 29 rfl rfl hHeld ?_
                try simp only [Act.put, lsT, lsZ, lsS]
                refine takeN 17 30 rfl rfl hHeld ?_
                try simp only [Act.put, lsT, lsZ, lsS]
                refine takeN 18 31 rfl rfl hHeld ?_
                try simp only [Act.put, lsT, lsZ, lsS]
                refine takeN 19 32 rfl rfl hHeld ?_
                try simp only [Act.put, lsT, lsZ, lsS]
                refine takeN 20 33 rfl rfl hHeld ?_
                try simp only [Act.put, lsT, lsZ, lsS]
                refine takeY 21 34 rfl rfl (v := ?_) ?_ hHeld ?_
                rotate_left 1
                · (intro w hSw; (try dsimp only at hSw); go_simp; (try with_reducible rfl))
                try simp only [Act.put, lsT, lsZ, lsS]
                refine takeY 22 35 rfl rfl (v := ?_) ?_ hHeld ?_
                rotate_left 1
                · (intro w hSw; (try dsimp only at hSw); go_simp; (try with_reducible rfl))
                try simp only [Act.put, lsT, lsZ, lsS]
                refine takeY 23 36 rfl rfl (v := ?_) ?_ hHeld ?_
                rotate_left 1
                · (intro w hSw; (try dsimp only at hSw); go_simp; (try with_reducible rfl))
                try simp only [Act.put, lsT, lsZ, lsS]
                refine takeY 24 37 rfl rfl (v := ?_) ?_ hHeld ?_
                rotate_left 1
                · (intro w hSw; (try dsimp only at hSw); go_simp; (try with_reducible rfl))
                try simp only [Act.put, lsT, lsZ, lsS]
                refine takeY 25 38 rfl rfl (v := ?_) ?_ hHeld ?_
                rotate_left 1
                · (intro w hSw; (try dsimp only at hSw); go_simp; (try with_reducible rfl))
                try simp only [Act.put, lsT, lsZ, lsS]
                refine takeY 26 39 rfl rfl (v := ?_) ?_ hHeld ?_
                rotate_left 1
                · (intro w hSw; (try dsimp only at hSw); go_simp; (try with_reducible rfl))
                try simp only [Act.put, lsT, lsZ, lsS]
                refine takeY 27 40 rfl rfl (v := ?_) ?_ hHeld ?_
                rotate_left 1
                · (intro w hSw; (try dsimp only at hSw); go_simp; (try with_reducible rfl))
                try simp only [Act.put, lsT, lsZ, lsS]
                refine takeY 28 41 rfl rfl (v := ?_) ?_ hHeld ?_
                rotate_left 1
                · (intro w hSw; (try dsimp only at hSw); go_simp; (try with_reducible rfl))
                try simp only [Act.put, lsT, lsZ, lsS]
                refine takeY 29 42 rfl rfl (v := ?_) ?_ hHeld ?_
                rotate_left 1
                · (intro w hSw; (try dsimp only at hSw); go_simp; (try with_reducible rfl))
                try simp only [Act.put, lsT, lsZ, lsS]
                refine takeY 30 43 rfl rfl (v := ?_) ?_ hHeld ?_
                rotate_left 1
                · (intro w hSw; (try dsimp only at hSw); go_simp; (try with_reducible rfl))
                try simp only [Act.put, lsT, lsZ, lsS]
                refine takeY 31 44 rfl rfl (v := ?_) ?_ hHeld ?_
                rotate_left 1
                · (intro w hSw; (try dsimp only at hSw); go_simp; (try with_reducible rfl))
                try simp only [Act.put, lsT, lsZ, lsS]
                refine takeY 32 45 rfl rfl (v := ?_) ?_ hHeld ?_
                rotate_left 1
                · (intro w hSw; (try dsimp only at hSw); go_simp; (try with_reducible rfl))
                try simp only [Act.put, lsT, lsZ, lsS]
                refine takeY 33 46 rfl rfl (v := ?_) ?_ hHeld ?_
                rotate_left 1
                · (intro w hSw; (try dsimp only at hSw); go_simp; (try with_reducible rfl))
                try simp only [Act.put, lsT, lsZ, lsS]
                refine wpAnyH_done (by kernel_rfl) ?_ _
                all_goals
                  go_wp2
                  go_roundw
                  case rel => exact ⟨k + 1, by omega, by go_num, by rw [hac.out], hok.out, hB1t⟩
                  case measure => simp [intOf]; omega
            · have hdum := True.intro
              have hok := Lib.hid (hra.out.2 ⟨hz'.out, hx'.out, fun hk => absurd hk (by have := hk0'.out; omega), .inl rfl⟩)
              have hac : Hid (act = actOf (L.take (k + 1))) := Lib.hid (by rw [hact'.out, hae'.out]; simp)
              go_wp2
              refine wp_region_held_drew (S := (fun w' => w'.cell? ⟨wr.heap.size, 0, none⟩ = some (.int .u64 xs) ∧ w'.cell? ⟨wr.heap.size, 1, none⟩ = some (.int .u32 xf) ∧ w'.cell? ⟨wr.heap.size, 2, none⟩ = some (.string xg) ∧ w'.cell? ⟨wr.heap.size, 3, none⟩ = some (.string xb) ∧ w'.cell? ⟨wr.heap.size, 4, none⟩ = some (.bool true))) (by kernel_rfl) ?_ (fun hHeld => ?_)
              · (first | exact ⟨h0, h1, h2, h3, h4⟩ | exact ⟨f0, f1, f2, f3, f4⟩ | exact ⟨e0, e1, e2, e3, e4⟩)
              refine takeY 0 13 rfl rfl (v := ?_) ?_ hHeld ?_
              rotate_left 1
              · (intro w hSw; (try dsimp only at hSw); go_simp; (try with_reducible rfl))
              try simp only [Act.put, lsT, lsZ, lsS]
              refine takeY 1 14 rfl rfl (v := ?_) ?_ hHeld ?_
              rotate_left 1
              · (intro w hSw; (try dsimp only at hSw); go_simp; (try with_reducible rfl))
              try simp only [Act.put, lsT, lsZ, lsS]
              refine takeY 2 15 rfl rfl (v := ?_) ?_ hHeld ?_
              rotate_left 1
              · (intro w hSw; (try dsimp only at hSw); go_simp; (try with_reducible rfl))
              try simp only [Act.put, lsT, lsZ, lsS]
              refine takeY 3 16 rfl rfl (v := ?_) ?_ hHeld ?_
              rotate_left 1
              · (intro w hSw; (try dsimp only at hSw); go_simp; (try with_reducible rfl))
              try simp only [Act.put, lsT, lsZ, lsS]
              refine takeY 4 17 rfl rfl (v := ?_) ?_ hHeld ?_
              rotate_left 1
              · (intro w hSw; (try dsimp only at hSw); go_simp; (try with_reducible rfl))
              try simp only [Act.put, lsT, lsZ, lsS]
              refine takeY 5 18 rfl rfl (v := ?_) ?_ hHeld ?_
              rotate_left 1
              · (intro w hSw; (try dsimp only at hSw); go_simp; (try with_reducible rfl))
              try simp only [Act.put, lsT, lsZ, lsS]
              refine wpAnyH_ready (rs := [6]) (by kernel_rfl) (by simp) ?_
              refine AllReadyH.cons rfl (fun K hK => ?_) AllReadyH.nil
              go_simp
              (go_at_call 99; refine (xid_chk _ (xf, xg, xb) _ hxv.out).mono ?_; rintro e w1 ⟨rfl, hB1⟩; have b1 := b0.drew.pure hB1; have hs1 := hsb.drew.pure hB1; have hB1t := (below_dr hBb).trans (hB1.mono hBb.size); have f0 : w1.cell? ⟨wr.heap.size, 0, none⟩ = some (.int .u64 xs) := b1.cell 0; have f1 : w1.cell? ⟨wr.heap.size, 1, none⟩ = some (.int .u32 xf) := b1.cell 1; have f2 : w1.cell? ⟨wr.heap.size, 2, none⟩ = some (.string xg) := b1.cell 2; have f3 : w1.cell? ⟨wr.heap.size, 3, none⟩ = some (.string xb) := b1.cell 3; have f4 : w1.cell? ⟨wr.heap.size, 4, none⟩ = some (.bool true) := b1.cell 4)
              refine hK.out _ _ ?_ (fun hHeld => ?_)
              · (first | exact ⟨h0, h1, h2, h3, h4⟩ | exact ⟨f0, f1, f2, f3, f4⟩ | exact ⟨e0, e1, e2, e3, e4⟩)
              clear hK K
              try simp only [Act.put, lsT, lsZ, lsS]
              refine takeY 7 20 rfl rfl (v := ?_) ?_ hHeld ?_
              rotate_left 1
              · (intro w hSw; (try dsimp only at hSw); go_simp; (try with_reducible rfl))
              try simp only [Act.put, lsT, lsZ, lsS]
              refine takeY 8 21 rfl rfl (v := ?_) ?_ hHeld ?_
              rotate_left 1
              · (intro w hSw; (try dsimp only at hSw); go_simp; (try with_reducible rfl))
              try simp only [Act.put, lsT, lsZ, lsS]
              refine takeY 9 22 rfl rfl (v := ?_) ?_ hHeld ?_
              rotate_left 1
              · (intro w hSw; (try dsimp only at hSw); go_simp; (try with_reducible rfl))
              try simp only [Act.put, lsT, lsZ, lsS]
              refine takeY 10 23 rfl rfl (v := ?_) ?_ hHeld ?_
              rotate_left 1
              · (intro w hSw; (try dsimp only at hSw); go_simp; (try with_reducible rfl))
              try simp only [Act.put, lsT, lsZ, lsS]
              refine takeY 11 24 rfl rfl (v := ?_) ?_ hHeld ?_
              rotate_left 1
              · (intro w hSw; (try dsimp only at hSw); go_simp; (try with_reducible rfl))
              try simp only [Act.put, lsT, lsZ, lsS]
              refine takeY 12 25 rfl rfl (v := ?_) ?_ hHeld ?_
              rotate_left 1
              · (intro w hSw; (try dsimp only at hSw); go_simp; (try with_reducible rfl))
              try simp only [Act.put, lsT, lsZ, lsS]
              refine takeN 13 26 rfl rfl hHeld ?_
              try simp only [Act.put, lsT, lsZ, lsS]
              refine takeN 14 27 rfl rfl hHeld ?_
              try simp only [Act.put, lsT, lsZ, lsS]
              refine takeN 15 28 rfl rfl hHeld ?_
              try simp only [Act.put, lsT, lsZ, lsS]
              refine takeN 16 29 rfl rfl hHeld ?_
              try simp only [Act.put, lsT, lsZ, lsS]
              refine takeN 17 30 rfl rfl hHeld ?_
              try simp only [Act.put, lsT, lsZ, lsS]
              refine takeN 18 31 rfl rfl hHeld ?_
              try simp only [Act.put, lsT, lsZ, lsS]
              refine takeN 19 32 rfl rfl hHeld ?_
              try simp only [Act.put, lsT, lsZ, lsS]
              refine takeN 20 33 rfl rfl hHeld ?_
              try simp only [Act.put, lsT, lsZ, lsS]
              refine takeY 21 34 rfl rfl (v := ?_) ?_ hHeld ?_
              rotate_left 1
              · (intro w hSw; (try dsimp only at hSw); go_simp; (try with_reducible rfl))
              try simp only [Act.put, lsT, lsZ, lsS]
              refine takeY 22 35 rfl rfl (v := ?_) ?_ hHeld ?_
              rotate_left 1
              · (intro w hSw; (try dsimp only at hSw); go_simp; (try with_reducible rfl))
              try simp only [Act.put, lsT, lsZ, lsS]
              refine takeY 23 36 rfl rfl (v := ?_) ?_ hHeld ?_
              rotate_left 1
              · (intro w hSw; (try dsimp only at hSw); go_simp; (try with_reducible rfl))
              try simp only [Act.put, lsT, lsZ, lsS]
              refine takeY 24 37 rfl rfl (v := ?_) ?_ hHeld ?_
              rotate_left 1
              · (intro w hSw; (try dsimp only at hSw); go_simp; (try with_reducible rfl))
              try simp only [Act.put, lsT, lsZ, lsS]
              refine takeY 25 38 rfl rfl (v := ?_) ?_ hHeld ?_
              rotate_left 1
              · (intro w hSw; (try dsimp only at hSw); go_simp; (try with_reducible rfl))
              try simp only [Act.put, lsT, lsZ, lsS]
              refine takeY 26 39 rfl rfl (v := ?_) ?_ hHeld ?_
              rotate_left 1
              · (intro w hSw; (try dsimp only at hSw); go_simp; (try with_reducible rfl))
              try simp only [Act.put, lsT, lsZ, lsS]
              refine takeY 27 40 rfl rfl (v := ?_) ?_ hHeld ?_
              rotate_left 1
              · (intro w hSw; (try dsimp only at hSw); go_simp; (try with_reducible rfl))
              try simp only [Act.put, lsT, lsZ, lsS]
              refine takeN 28 41 rfl rfl hHeld ?_
              try simp only [Act.put, lsT, lsZ, lsS]
              refine takeN 29 42 rfl rfl hHeld ?_
              try simp only [Act.put, lsT, lsZ, lsS]
              refine takeN 30 43 rfl rfl hHeld ?_
              try simp only [Act.put, lsT, lsZ, lsS]
              refine takeN 31 44 rfl rfl hHeld ?_
              try simp only [Act.put, lsT, lsZ, lsS]
              refine takeY 32 45 rfl rfl (v := ?_) ?_ hHeld ?_
              rotate_left 1
              · (intro w hSw; (try dsimp only at hSw); go_simp; (try with_reducible rfl))
              try simp only [Act.put, lsT, lsZ, lsS]
              refine takeY 33 46 rfl rfl (v := ?_) ?_ hHeld ?_
              rotate_left 1
              · (intro w hSw; (try dsimp only at hSw); go_simp; (try with_reducible rfl))
              try simp only [Act.put, lsT, lsZ, lsS]
              refine wpAnyH_done (by kernel_rfl) ?_ _
              all_goals
                go_wp2
                go_roundw
                case rel => exact ⟨k + 1, by omega, by go_num, by rw [hac.out], hok.out, hB1t⟩
                case measure => simp [intOf]; omega
          · have hk1 : k - 1 < L.length := by omega
            have hkp : 0 < k := by omega
            have hk1i : (1 : Int) ≤ (k : Int) := by omega
            have hkm : (k : Int) - 1 = ((k - 1 : Nat) : Int) := by omega
            obtain ⟨p0, p1, p2, p3, p4⟩ := asc_cells hsb hk1
            have hm0 : (0 : Int) ≤ (k : Int) - 1 := by omega
            have hm1 : (k : Int) - 1 < (L.length : Int) := by omega
            have hmn : ((k : Int) - 1).toNat = k - 1 := by omega
            have hmw : IntKind.i64.wrap ((k : Int) - 1) = (k : Int) - 1 := IntWalk.i64_in _ (by omega)
            clear hkm
            obtain ⟨cv, hcv0⟩ : ∃ cv, cmpA (L[k - 1]) (xs, (xf, xg, xb), xz) = cv := ⟨_, rfl⟩
            have hcv := Lib.hid hcv0; clear hcv0
            by_cases hcl : cv < 0
            · have hnc : decide ((0 : Int) ≤ cv) = false := decide_eq_false (by omega)
              cases xz
              · have hdum := True.intro
                by_cases hq : xs = act
                · have hqb : (xs == act) = true := by rw [hq]; simp
                  have hq' := Lib.hid hq; clear hq
                  have hno := Lib.hid (hbad.out (fun h => (fun q => q.2.2.2.elim (fun h => by simp at h) (fun h => h (hq'.out.trans hae'.out))) (hra.out.1 h)))
                  go_wp2
                  refine wp_region_held_drew (S := (fun w' => w'.cell? ⟨wr.heap.size, 0, none⟩ = some (.int .u64 xs) ∧ w'.cell? ⟨wr.heap.size, 1, none⟩ = some (.int .u32 xf) ∧ w'.cell? ⟨wr.heap.size, 2, none⟩ = some (.string xg) ∧ w'.cell? ⟨wr.heap.size, 3, none⟩ = some (.string xb) ∧ w'.cell? ⟨wr.heap.size, 4, none⟩ = some (.bool false) ∧ w'.cell? ⟨g, off + (k - 1) * 5, none⟩ = some (.int .u64 (L[k - 1]).1) ∧ w'.cell? ⟨g, off + (k - 1) * 5 + 1, none⟩ = some (.int .u32 (L[k - 1]).2.1.1) ∧ w'.cell? ⟨g, off + (k - 1) * 5 + 2, none⟩ = some (.string (L[k - 1]).2.1.2.1) ∧ w'.cell? ⟨g, off + (k - 1) * 5 + 3, none⟩ = some (.string (L[k - 1]).2.1.2.2) ∧ w'.cell? ⟨g, off + (k - 1) * 5 + 4, none⟩ = some (.bool (L[k - 1]).2.2))) (by kernel_rfl) ?_ (fun hHeld => ?_)
                  · (first | exact ⟨h0, h1, h2, h3, h4, r0, r1, r2, r3, r4⟩ | exact ⟨f0, f1, f2, f3, f4, q0, q1, q2, q3, q4⟩ | exact ⟨e0, e1, e2, e3, e4, p0, p1, p2, p3, p4⟩)
                  refine takeY 0 13 rfl rfl (v := ?_) ?_ hHeld ?_
                  rotate_left 1
                  · (intro w hSw; (try dsimp only at hSw); go_simp; (try with_reducible rfl))
                  try simp only [Act.put, lsT, lsZ, lsS]
                  refine takeY 1 14 rfl rfl (v := ?_) ?_ hHeld ?_
                  rotate_left 1
                  · (intro w hSw; (try dsimp only at hSw); go_simp; (try with_reducible rfl))
                  try simp only [Act.put, lsT, lsZ, lsS]
                  refine takeY 2 15 rfl rfl (v := ?_) ?_ hHeld ?_
                  rotate_left 1
                  · (intro w hSw; (try dsimp only at hSw); go_simp; (try with_reducible rfl))
                  try simp only [Act.put, lsT, lsZ, lsS]
                  refine takeY 3 16 rfl rfl (v := ?_) ?_ hHeld ?_
                  rotate_left 1
                  · (intro w hSw; (try dsimp only at hSw); go_simp; (try with_reducible rfl))
                  try simp only [Act.put, lsT, lsZ, lsS]
                  refine takeY 4 17 rfl rfl (v := ?_) ?_ hHeld ?_
                  rotate_left 1
                  · (intro w hSw; (try dsimp only at hSw); go_simp; (try with_reducible rfl))
                  try simp only [Act.put, lsT, lsZ, lsS]
                  refine takeY 5 18 rfl rfl (v := ?_) ?_ hHeld ?_
                  rotate_left 1
                  · (intro w hSw; (try dsimp only at hSw); go_simp; (try with_reducible rfl))
                  try simp only [Act.put, lsT, lsZ, lsS]
                  refine wpAnyH_ready (rs := [6]) (by kernel_rfl) (by simp) ?_
                  refine AllReadyH.cons rfl (fun K hK => ?_) AllReadyH.nil
                  go_simp
                  (go_at_call 99; refine (xid_chk _ (xf, xg, xb) _ hxv.out).mono ?_; rintro e w1 ⟨rfl, hB1⟩; have b1 := b0.drew.pure hB1; have hs1 := hsb.drew.pure hB1; have hB1t := (below_dr hBb).trans (hB1.mono hBb.size); have f0 : w1.cell? ⟨wr.heap.size, 0, none⟩ = some (.int .u64 xs) := b1.cell 0; have f1 : w1.cell? ⟨wr.heap.size, 1, none⟩ = some (.int .u32 xf) := b1.cell 1; have f2 : w1.cell? ⟨wr.heap.size, 2, none⟩ = some (.string xg) := b1.cell 2; have f3 : w1.cell? ⟨wr.heap.size, 3, none⟩ = some (.string xb) := b1.cell 3; have f4 : w1.cell? ⟨wr.heap.size, 4, none⟩ = some (.bool false) := b1.cell 4; obtain ⟨q0, q1, q2, q3, q4⟩ := asc_cells hs1 hk1)
                  refine hK.out _ _ ?_ (fun hHeld => ?_)
                  · (first | exact ⟨h0, h1, h2, h3, h4, r0, r1, r2, r3, r4⟩ | exact ⟨f0, f1, f2, f3, f4, q0, q1, q2, q3, q4⟩ | exact ⟨e0, e1, e2, e3, e4, p0, p1, p2, p3, p4⟩)
                  clear hK K
                  try simp only [Act.put, lsT, lsZ, lsS]
                  refine takeY 7 20 rfl rfl (v := ?_) ?_ hHeld ?_
                  rotate_left 1
                  · (intro w hSw; (try dsimp only at hSw); go_simp; (try with_reducible rfl))
                  try simp only [Act.put, lsT, lsZ, lsS]
                  refine takeY 8 21 rfl rfl (v := ?_) ?_ hHeld ?_
                  rotate_left 1
                  · (intro w hSw; (try dsimp only at hSw); go_simp; (try with_reducible rfl))
                  try simp only [Act.put, lsT, lsZ, lsS]
                  refine takeY 9 22 rfl rfl (v := ?_) ?_ hHeld ?_
                  rotate_left 1
                  · (intro w hSw; (try dsimp only at hSw); go_simp; (try with_reducible rfl))
                  try simp only [Act.put, lsT, lsZ, lsS]
                  refine takeY 10 23 rfl rfl (v := ?_) ?_ hHeld ?_
                  rotate_left 1
                  · (intro w hSw; (try dsimp only at hSw); go_simp; (try with_reducible rfl))
                  try simp only [Act.put, lsT, lsZ, lsS]
                  refine takeY 11 24 rfl rfl (v := ?_) ?_ hHeld ?_
                  rotate_left 1
                  · (intro w hSw; (try dsimp only at hSw); go_simp; (try with_reducible rfl))
                  try simp only [Act.put, lsT, lsZ, lsS]
                  refine takeY 12 25 rfl rfl (v := ?_) ?_ hHeld ?_
                  rotate_left 1
                  · (intro w hSw; (try dsimp only at hSw); go_simp; (try with_reducible rfl))
                  try simp only [Act.put, lsT, lsZ, lsS]
                  refine takeY 13 26 rfl rfl (v := ?_) ?_ hHeld ?_
                  rotate_left 1
                  · (intro w hSw; (try dsimp only at hSw); go_simp; (try with_reducible rfl))
                  try simp only [Act.put, lsT, lsZ, lsS]
                  refine takeY 14 27 rfl rfl (v := ?_) ?_ hHeld ?_
                  rotate_left 1
                  · (intro w hSw; (try dsimp only at hSw); go_simp; (try with_reducible rfl))
                  try simp only [Act.put, lsT, lsZ, lsS]
                  refine takeY 15 28 rfl rfl (v := ?_) ?_ hHeld ?_
                  rotate_left 1
                  · (intro w hSw; (try dsimp only at hSw); go_simp; (try with_reducible rfl))
                  try simp only [Act.put, lsT, lsZ, lsS]
                  refine takeY 16 29 rfl rfl (v := ?_) ?_ hHeld ?_
                  rotate_left 1
                  · (intro w hSw; (try dsimp only at hSw); go_simp; (try with_reducible rfl))
                  try simp only [Act.put, lsT, lsZ, lsS]
                  refine takeY 17 30 rfl rfl (v := ?_) ?_ hHeld ?_
                  rotate_left 1
                  · (intro w hSw; (try dsimp only at hSw); go_simp; (try with_reducible rfl))
                  try simp only [Act.put, lsT, lsZ, lsS]
                  refine takeY 18 31 rfl rfl (v := ?_) ?_ hHeld ?_
                  rotate_left 1
                  · (intro w hSw; (try dsimp only at hSw); go_simp; (try with_reducible rfl))
                  try simp only [Act.put, lsT, lsZ, lsS]
                  refine wpAnyH_ready (rs := [19]) (by kernel_rfl) (by simp) ?_
                  refine AllReadyH.cons rfl (fun K hK => ?_) AllReadyH.nil
                  go_simp
                  (go_at_call 115; refine (assoc_compare _ (L[k - 1]) (xs, (xf, xg, xb), false)).mono ?_; rw [hcv.out]; rintro e w2 ⟨rfl, hB2⟩; have b2 := b1.pure hB2; have hs2 := hs1.pure hB2; have hB2t := hB1t.trans (hB2.mono hB1t.size); have h0 : w2.cell? ⟨wr.heap.size, 0, none⟩ = some (.int .u64 xs) := b2.cell 0; have h1 : w2.cell? ⟨wr.heap.size, 1, none⟩ = some (.int .u32 xf) := b2.cell 1; have h2 : w2.cell? ⟨wr.heap.size, 2, none⟩ = some (.string xg) := b2.cell 2; have h3 : w2.cell? ⟨wr.heap.size, 3, none⟩ = some (.string xb) := b2.cell 3; have h4 : w2.cell? ⟨wr.heap.size, 4, none⟩ = some (.bool false) := b2.cell 4; obtain ⟨r0, r1, r2, r3, r4⟩ := asc_cells hs2 hk1)
                  refine hK.out _ _ ?_ (fun hHeld => ?_)
                  · (first | exact ⟨h0, h1, h2, h3, h4, r0, r1, r2, r3, r4⟩ | exact ⟨f0, f1, f2, f3, f4, q0, q1, q2, q3, q4⟩ | exact ⟨e0, e1, e2, e3, e4, p0, p1, p2, p3, p4⟩)
                  clear hK K
                  try simp only [Act.put, lsT, lsZ, lsS]
                  refine takeY 20 33 rfl rfl (v := ?_) ?_ hHeld ?_
                  rotate_left 1
                  · (intro w hSw; (try dsimp only at hSw); go_simp; (try with_reducible rfl))
                  try simp only [Act.put, lsT, lsZ, lsS]
                  refine takeY 21 34 rfl rfl (v := ?_) ?_ hHeld ?_
                  rotate_left 1
                  · (intro w hSw; (try dsimp only at hSw); go_simp; (try with_reducible rfl))
                  try simp only [Act.put, lsT, lsZ, lsS]
                  refine takeY 22 35 rfl rfl (v := ?_) ?_ hHeld ?_
                  rotate_left 1
                  · (intro w hSw; (try dsimp only at hSw); go_simp; (try with_reducible rfl))
                  try simp only [Act.put, lsT, lsZ, lsS]
                  refine takeY 23 36 rfl rfl (v := ?_) ?_ hHeld ?_
                  rotate_left 1
                  · (intro w hSw; (try dsimp only at hSw); go_simp; (try with_reducible rfl))
                  try simp only [Act.put, lsT, lsZ, lsS]
                  refine takeY 24 37 rfl rfl (v := ?_) ?_ hHeld ?_
                  rotate_left 1
                  · (intro w hSw; (try dsimp only at hSw); go_simp; (try with_reducible rfl))
                  try simp only [Act.put, lsT, lsZ, lsS]
                  refine takeY 25 38 rfl rfl (v := ?_) ?_ hHeld ?_
                  rotate_left 1
                  · (intro w hSw; (try dsimp only at hSw); go_simp; (try with_reducible rfl))
                  try simp only [Act.put, lsT, lsZ, lsS]
                  refine takeY 26 39 rfl rfl (v := ?_) ?_ hHeld ?_
                  rotate_left 1
                  · (intro w hSw; (try dsimp only at hSw); go_simp; (try with_reducible rfl))
                  try simp only [Act.put, lsT, lsZ, lsS]
                  refine takeY 27 40 rfl rfl (v := ?_) ?_ hHeld ?_
                  rotate_left 1
                  · (intro w hSw; (try dsimp only at hSw); go_simp; (try with_reducible rfl))
                  try simp only [Act.put, lsT, lsZ, lsS]
                  refine takeY 28 41 rfl rfl (v := ?_) ?_ hHeld ?_
                  rotate_left 1
                  · (intro w hSw; (try dsimp only at hSw); go_simp; (try with_reducible rfl))
                  try simp only [Act.put, lsT, lsZ, lsS]
                  refine takeY 29 42 rfl rfl (v := ?_) ?_ hHeld ?_
                  rotate_left 1
                  · (intro w hSw; (try dsimp only at hSw); go_simp; (try with_reducible rfl))
                  try simp only [Act.put, lsT, lsZ, lsS]
                  refine takeY 30 43 rfl rfl (v := ?_) ?_ hHeld ?_
                  rotate_left 1
                  · (intro w hSw; (try dsimp only at hSw); go_simp; (try with_reducible rfl))
                  try simp only [Act.put, lsT, lsZ, lsS]
                  refine takeY 31 44 rfl rfl (v := ?_) ?_ hHeld ?_
                  rotate_left 1
                  · (intro w hSw; (try dsimp only at hSw); go_simp; (try with_reducible rfl))
                  try simp only [Act.put, lsT, lsZ, lsS]
                  refine takeY 32 45 rfl rfl (v := ?_) ?_ hHeld ?_
                  rotate_left 1
                  · (intro w hSw; (try dsimp only at hSw); go_simp; (try with_reducible rfl))
                  try simp only [Act.put, lsT, lsZ, lsS]
                  refine takeY 33 46 rfl rfl (v := ?_) ?_ hHeld ?_
                  rotate_left 1
                  · (intro w hSw; (try dsimp only at hSw); go_simp; (try with_reducible rfl))
                  try simp only [Act.put, lsT, lsZ, lsS]
                  refine wpAnyH_done (by kernel_rfl) ?_ _
                  all_goals
                    go_wp2
                    go_ret
                    exact ⟨by rw [hno.out]; rfl, hB2t⟩
                · have hqb : (xs == act) = false := beq_eq_false_iff_ne.2 hq
                  have hq' := Lib.hid hq; clear hq
                  have hok := Lib.hid (hra.out.2 ⟨hz'.out, hx'.out, fun _ => by rw [hcv.out]; exact hcl, .inr (fun h => hq'.out (h.trans hae'.out.symm))⟩)
                  have hac : Hid (xs = actOf (L.take (k + 1))) := Lib.hid (by rw [hact'.out]; simp)
                  go_wp2
                  refine wp_region_held_drew (S := (fun w' => w'.cell? ⟨wr.heap.size, 0, none⟩ = some (.int .u64 xs) ∧ w'.cell? ⟨wr.heap.size, 1, none⟩ = some (.int .u32 xf) ∧ w'.cell? ⟨wr.heap.size, 2, none⟩ = some (.string xg) ∧ w'.cell? ⟨wr.heap.size, 3, none⟩ = some (.string xb) ∧ w'.cell? ⟨wr.heap.size, 4, none⟩ = some (.bool false) ∧ w'.cell? ⟨g, off + (k - 1) * 5, none⟩ = some (.int .u64 (L[k - 1]).1) ∧ w'.cell? ⟨g, off + (k - 1) * 5 + 1, none⟩ = some (.int .u32 (L[k - 1]).2.1.1) ∧ w'.cell? ⟨g, off + (k - 1) * 5 + 2, none⟩ = some (.string (L[k - 1]).2.1.2.1) ∧ w'.cell? ⟨g, off + (k - 1) * 5 + 3, none⟩ = some (.string (L[k - 1]).2.1.2.2) ∧ w'.cell? ⟨g, off + (k - 1) * 5 + 4, none⟩ = some (.bool (L[k - 1]).2.2))) (by kernel_rfl) ?_ (fun hHeld => ?_)
                  · (first | exact ⟨h0, h1, h2, h3, h4, r0, r1, r2, r3, r4⟩ | exact ⟨f0, f1, f2, f3, f4, q0, q1, q2, q3, q4⟩ | exact ⟨e0, e1, e2, e3, e4, p0, p1, p2, p3, p4⟩)
                  refine takeY 0 13 rfl rfl (v := ?_) ?_ hHeld ?_
                  rotate_left 1
                  · (intro w hSw; (try dsimp only at hSw); go_simp; (try with_reducible rfl))
                  try simp only [Act.put, lsT, lsZ, lsS]
                  refine takeY 1 14 rfl rfl (v := ?_) ?_ hHeld ?_
                  rotate_left 1
                  · (intro w hSw; (try dsimp only at hSw); go_simp; (try with_reducible rfl))
                  try simp only [Act.put, lsT, lsZ, lsS]
                  refine takeY 2 15 rfl rfl (v := ?_) ?_ hHeld ?_
                  rotate_left 1
                  · (intro w hSw; (try dsimp only at hSw); go_simp; (try with_reducible rfl))
                  try simp only [Act.put, lsT, lsZ, lsS]
                  refine takeY 3 16 rfl rfl (v := ?_) ?_ hHeld ?_
                  rotate_left 1
                  · (intro w hSw; (try dsimp only at hSw); go_simp; (try with_reducible rfl))
                  try simp only [Act.put, lsT, lsZ, lsS]
                  refine takeY 4 17 rfl rfl (v := ?_) ?_ hHeld ?_
                  rotate_left 1
                  · (intro w hSw; (try dsimp only at hSw); go_simp; (try with_reducible rfl))
                  try simp only [Act.put, lsT, lsZ, lsS]
                  refine takeY 5 18 rfl rfl (v := ?_) ?_ hHeld ?_
                  rotate_left 1
                  · (intro w hSw; (try dsimp only at hSw); go_simp; (try with_reducible rfl))
                  try simp only [Act.put, lsT, lsZ, lsS]
                  refine wpAnyH_ready (rs := [6]) (by kernel_rfl) (by simp) ?_
                  refine AllReadyH.cons rfl (fun K hK => ?_) AllReadyH.nil
                  go_simp
                  (go_at_call 99; refine (xid_chk _ (xf, xg, xb) _ hxv.out).mono ?_; rintro e w1 ⟨rfl, hB1⟩; have b1 := b0.drew.pure hB1; have hs1 := hsb.drew.pure hB1; have hB1t := (below_dr hBb).trans (hB1.mono hBb.size); have f0 : w1.cell? ⟨wr.heap.size, 0, none⟩ = some (.int .u64 xs) := b1.cell 0; have f1 : w1.cell? ⟨wr.heap.size, 1, none⟩ = some (.int .u32 xf) := b1.cell 1; have f2 : w1.cell? ⟨wr.heap.size, 2, none⟩ = some (.string xg) := b1.cell 2; have f3 : w1.cell? ⟨wr.heap.size, 3, none⟩ = some (.string xb) := b1.cell 3; have f4 : w1.cell? ⟨wr.heap.size, 4, none⟩ = some (.bool false) := b1.cell 4; obtain ⟨q0, q1, q2, q3, q4⟩ := asc_cells hs1 hk1)
                  refine hK.out _ _ ?_ (fun hHeld => ?_)
                  · (first | exact ⟨h0, h1, h2, h3, h4, r0, r1, r2, r3, r4⟩ | exact ⟨f0, f1, f2, f3, f4, q0, q1, q2, q3, q4⟩ | exact ⟨e0, e1, e2, e3, e4, p0, p1, p2, p3, p4⟩)
                  clear hK K
                  try simp only [Act.put, lsT, lsZ, lsS]
                  refine takeY 7 20 rfl rfl (v := ?_) ?_ hHeld ?_
                  rotate_left 1
                  · (intro w hSw; (try dsimp only at hSw); go_simp; (try with_reducible rfl))
                  try simp only [Act.put, lsT, lsZ, lsS]
                  refine takeY 8 21 rfl rfl (v := ?_) ?_ hHeld ?_
                  rotate_left 1
                  · (intro w hSw; (try dsimp only at hSw); go_simp; (try with_reducible rfl))
                  try simp only [Act.put, lsT, lsZ, lsS]
                  refine takeY 9 22 rfl rfl (v := ?_) ?_ hHeld ?_
                  rotate_left 1
                  · (intro w hSw; (try dsimp only at hSw); go_simp; (try with_reducible rfl))
                  try simp only [Act.put, lsT, lsZ, lsS]
                  refine takeY 10 23 rfl rfl (v := ?_) ?_ hHeld ?_
                  rotate_left 1
                  · (intro w hSw; (try dsimp only at hSw); go_simp; (try with_reducible rfl))
                  try simp only [Act.put, lsT, lsZ, lsS]
                  refine takeY 11 24 rfl rfl (v := ?_) ?_ hHeld ?_
                  rotate_left 1
                  · (intro w hSw; (try dsimp only at hSw); go_simp; (try with_reducible rfl))
                  try simp only [Act.put, lsT, lsZ, lsS]
                  refine takeY 12 25 rfl rfl (v := ?_) ?_ hHeld ?_
                  rotate_left 1
                  · (intro w hSw; (try dsimp only at hSw); go_simp; (try with_reducible rfl))
                  try simp only [Act.put, lsT, lsZ, lsS]
                  refine takeY 13 26 rfl rfl (v := ?_) ?_ hHeld ?_
                  rotate_left 1
                  · (intro w hSw; (try dsimp only at hSw); go_simp; (try with_reducible rfl))
                  try simp only [Act.put, lsT, lsZ, lsS]
                  refine takeY 14 27 rfl rfl (v := ?_) ?_ hHeld ?_
                  rotate_left 1
                  · (intro w hSw; (try dsimp only at hSw); go_simp; (try with_reducible rfl))
                  try simp only [Act.put, lsT, lsZ, lsS]
                  refine takeY 15 28 rfl rfl (v := ?_) ?_ hHeld ?_
                  rotate_left 1
                  · (intro w hSw; (try dsimp only at hSw); go_simp; (try with_reducible rfl))
                  try simp only [Act.put, lsT, lsZ, lsS]
                  refine takeY 16 29 rfl rfl (v := ?_) ?_ hHeld ?_
                  rotate_left 1
                  · (intro w hSw; (try dsimp only at hSw); go_simp; (try with_reducible rfl))
                  try simp only [Act.put, lsT, lsZ, lsS]
                  refine takeY 17 30 rfl rfl (v := ?_) ?_ hHeld ?_
                  rotate_left 1
                  · (intro w hSw; (try dsimp only at hSw); go_simp; (try with_reducible rfl))
                  try simp only [Act.put, lsT, lsZ, lsS]
                  refine takeY 18 31 rfl rfl (v := ?_) ?_ hHeld ?_
                  rotate_left 1
                  · (intro w hSw; (try dsimp only at hSw); go_simp; (try with_reducible rfl))
                  try simp only [Act.put, lsT, lsZ, lsS]
                  refine wpAnyH_ready (rs := [19]) (by kernel_rfl) (by simp) ?_
                  refine AllReadyH.cons rfl (fun K hK => ?_) AllReadyH.nil
                  go_simp
                  (go_at_call 115; refine (assoc_compare _ (L[k - 1]) (xs, (xf, xg, xb), false)).mono ?_; rw [hcv.out]; rintro e w2 ⟨rfl, hB2⟩; have b2 := b1.pure hB2; have hs2 := hs1.pure hB2; have hB2t := hB1t.trans (hB2.mono hB1t.size); have h0 : w2.cell? ⟨wr.heap.size, 0, none⟩ = some (.int .u64 xs) := b2.cell 0; have h1 : w2.cell? ⟨wr.heap.size, 1, none⟩ = some (.int .u32 xf) := b2.cell 1; have h2 : w2.cell? ⟨wr.heap.size, 2, none⟩ = some (.string xg) := b2.cell 2; have h3 : w2.cell? ⟨wr.heap.size, 3, none⟩ = some (.string xb) := b2.cell 3; have h4 : w2.cell? ⟨wr.heap.size, 4, none⟩ = some (.bool false) := b2.cell 4; obtain ⟨r0, r1, r2, r3, r4⟩ := asc_cells hs2 hk1)
                  refine hK.out _ _ ?_ (fun hHeld => ?_)
                  · (first | exact ⟨h0, h1, h2, h3, h4, r0, r1, r2, r3, r4⟩ | exact ⟨f0, f1, f2, f3, f4, q0, q1, q2, q3, q4⟩ | exact ⟨e0, e1, e2, e3, e4, p0, p1, p2, p3, p4⟩)
                  clear hK K
                  try simp only [Act.put, lsT, lsZ, lsS]
                  refine takeY 20 33 rfl rfl (v := ?_) ?_ hHeld ?_
                  rotate_left 1
                  · (intro w hSw; (try dsimp only at hSw); go_simp; (try with_reducible rfl))
                  try simp only [Act.put, lsT, lsZ, lsS]
                  refine takeY 21 34 rfl rfl (v := ?_) ?_ hHeld ?_
                  rotate_left 1
                  · (intro w hSw; (try dsimp only at hSw); go_simp; (try with_reducible rfl))
                  try simp only [Act.put, lsT, lsZ, lsS]
                  refine takeY 22 35 rfl rfl (v := ?_) ?_ hHeld ?_
                  rotate_left 1
                  · (intro w hSw; (try dsimp only at hSw); go_simp; (try with_reducible rfl))
                  try simp only [Act.put, lsT, lsZ, lsS]
                  refine takeY 23 36 rfl rfl (v := ?_) ?_ hHeld ?_
                  rotate_left 1
                  · (intro w hSw; (try dsimp only at hSw); go_simp; (try with_reducible rfl))
                  try simp only [Act.put, lsT, lsZ, lsS]
                  refine takeY 24 37 rfl rfl (v := ?_) ?_ hHeld ?_
                  rotate_left 1
                  · (intro w hSw; (try dsimp only at hSw); go_simp; (try with_reducible rfl))
                  try simp only [Act.put, lsT, lsZ, lsS]
                  refine takeY 25 38 rfl rfl (v := ?_) ?_ hHeld ?_
                  rotate_left 1
                  · (intro w hSw; (try dsimp only at hSw); go_simp; (try with_reducible rfl))
                  try simp only [Act.put, lsT, lsZ, lsS]
                  refine takeY 26 39 rfl rfl (v := ?_) ?_ hHeld ?_
                  rotate_left 1
                  · (intro w hSw; (try dsimp only at hSw); go_simp; (try with_reducible rfl))
                  try simp only [Act.put, lsT, lsZ, lsS]
                  refine takeY 27 40 rfl rfl (v := ?_) ?_ hHeld ?_
                  rotate_left 1
                  · (intro w hSw; (try dsimp only at hSw); go_simp; (try with_reducible rfl))
                  try simp only [Act.put, lsT, lsZ, lsS]
                  refine takeY 28 41 rfl rfl (v := ?_) ?_ hHeld ?_
                  rotate_left 1
                  · (intro w hSw; (try dsimp only at hSw); go_simp; (try with_reducible rfl))
                  try simp only [Act.put, lsT, lsZ, lsS]
                  refine takeY 29 42 rfl rfl (v := ?_) ?_ hHeld ?_
                  rotate_left 1
                  · (intro w hSw; (try dsimp only at hSw); go_simp; (try with_reducible rfl))
                  try simp only [Act.put, lsT, lsZ, lsS]
                  refine takeY 30 43 rfl rfl (v := ?_) ?_ hHeld ?_
                  rotate_left 1
                  · (intro w hSw; (try dsimp only at hSw); go_simp; (try with_reducible rfl))
                  try simp only [Act.put, lsT, lsZ, lsS]
                  refine takeY 31 44 rfl rfl (v := ?_) ?_ hHeld ?_
                  rotate_left 1
                  · (intro w hSw; (try dsimp only at hSw); go_simp; (try with_reducible rfl))
                  try simp only [Act.put, lsT, lsZ, lsS]
                  refine takeY 32 45 rfl rfl (v := ?_) ?_ hHeld ?_
                  rotate_left 1
                  · (intro w hSw; (try dsimp only at hSw); go_simp; (try with_reducible rfl))
                  try simp only [Act.put, lsT, lsZ, lsS]
                  refine takeY 33 46 rfl rfl (v := ?_) ?_ hHeld ?_
                  rotate_left 1
                  · (intro w hSw; (try dsimp only at hSw); go_simp; (try with_reducible rfl))
                  try simp only [Act.put, lsT, lsZ, lsS]
                  refine wpAnyH_done (by kernel_rfl) ?_ _
                  all_goals
                    go_wp2
                    go_roundw
                    case rel => exact ⟨k + 1, by omega, by go_num, by rw [hac.out], hok.out, hB2t⟩
                    case measure => simp [intOf]; omega
              · have hdum := True.intro
                have hok := Lib.hid (hra.out.2 ⟨hz'.out, hx'.out, fun _ => by rw [hcv.out]; exact hcl, .inl rfl⟩)
                have hac : Hid (act = actOf (L.take (k + 1))) := Lib.hid (by rw [hact'.out, hae'.out]; simp)
                go_wp2
                refine wp_region_held_drew (S := (fun w' => w'.cell? ⟨wr.heap.size, 0, none⟩ = some (.int .u64 xs) ∧ w'.cell? ⟨wr.heap.size, 1, none⟩ = some (.int .u32 xf) ∧ w'.cell? ⟨wr.heap.size, 2, none⟩ = some (.string xg) ∧ w'.cell? ⟨wr.heap.size, 3, none⟩ = some (.string xb) ∧ w'.cell? ⟨wr.heap.size, 4, none⟩ = some (.bool true) ∧ w'.cell? ⟨g, off + (k - 1) * 5, none⟩ = some (.int .u64 (L[k - 1]).1) ∧ w'.cell? ⟨g, off + (k - 1) * 5 + 1, none⟩ = some (.int .u32 (L[k - 1]).2.1.1) ∧ w'.cell? ⟨g, off + (k - 1) * 5 + 2, none⟩ = some (.string (L[k - 1]).2.1.2.1) ∧ w'.cell? ⟨g, off + (k - 1) * 5 + 3, none⟩ = some (.string (L[k - 1]).2.1.2.2) ∧ w'.cell? ⟨g, off + (k - 1) * 5 + 4, none⟩ = some (.bool (L[k - 1]).2.2))) (by kernel_rfl) ?_ (fun hHeld => ?_)
                · (first | exact ⟨h0, h1, h2, h3, h4, r0, r1, r2, r3, r4⟩ | exact ⟨f0, f1, f2, f3, f4, q0, q1, q2, q3, q4⟩ | exact ⟨e0, e1, e2, e3, e4, p0, p1, p2, p3, p4⟩)
                refine takeY 0 13 rfl rfl (v := ?_) ?_ hHeld ?_
                rotate_left 1
                · (intro w hSw; (try dsimp only at hSw); go_simp; (try with_reducible rfl))
                try simp only [Act.put, lsT, lsZ, lsS]
                refine takeY 1 14 rfl rfl (v := ?_) ?_ hHeld ?_
                rotate_left 1
                · (intro w hSw; (try dsimp only at hSw); go_simp; (try with_reducible rfl))
                try simp only [Act.put, lsT, lsZ, lsS]
                refine takeY 2 15 rfl rfl (v := ?_) ?_ hHeld ?_
                rotate_left 1
                · (intro w hSw; (try dsimp only at hSw); go_simp; (try with_reducible rfl))
                try simp only [Act.put, lsT, lsZ, lsS]
                refine takeY 3 16 rfl rfl (v := ?_) ?_ hHeld ?_
                rotate_left 1
                · (intro w hSw; (try dsimp only at hSw); go_simp; (try with_reducible rfl))
                try simp only [Act.put, lsT, lsZ, lsS]
                refine takeY 4 17 rfl rfl (v := ?_) ?_ hHeld ?_
                rotate_left 1
                · (intro w hSw; (try dsimp only at hSw); go_simp; (try with_reducible rfl))
                try simp only [Act.put, lsT, lsZ, lsS]
                refine takeY 5 18 rfl rfl (v := ?_) ?_ hHeld ?_
                rotate_left 1
                · (intro w hSw; (try dsimp only at hSw); go_simp; (try with_reducible rfl))
                try simp only [Act.put, lsT, lsZ, lsS]
                refine wpAnyH_ready (rs := [6]) (by kernel_rfl) (by simp) ?_
                refine AllReadyH.cons rfl (fun K hK => ?_) AllReadyH.nil
                go_simp
                (go_at_call 99; refine (xid_chk _ (xf, xg, xb) _ hxv.out).mono ?_; rintro e w1 ⟨rfl, hB1⟩; have b1 := b0.drew.pure hB1; have hs1 := hsb.drew.pure hB1; have hB1t := (below_dr hBb).trans (hB1.mono hBb.size); have f0 : w1.cell? ⟨wr.heap.size, 0, none⟩ = some (.int .u64 xs) := b1.cell 0; have f1 : w1.cell? ⟨wr.heap.size, 1, none⟩ = some (.int .u32 xf) := b1.cell 1; have f2 : w1.cell? ⟨wr.heap.size, 2, none⟩ = some (.string xg) := b1.cell 2; have f3 : w1.cell? ⟨wr.heap.size, 3, none⟩ = some (.string xb) := b1.cell 3; have f4 : w1.cell? ⟨wr.heap.size, 4, none⟩ = some (.bool true) := b1.cell 4; obtain ⟨q0, q1, q2, q3, q4⟩ := asc_cells hs1 hk1)
                refine hK.out _ _ ?_ (fun hHeld => ?_)
                · (first | exact ⟨h0, h1, h2, h3, h4, r0, r1, r2, r3, r4⟩ | exact ⟨f0, f1, f2, f3, f4, q0, q1, q2, q3, q4⟩ | exact ⟨e0, e1, e2, e3, e4, p0, p1, p2, p3, p4⟩)
                clear hK K
                try simp only [Act.put, lsT, lsZ, lsS]
                refine takeY 7 20 rfl rfl (v := ?_) ?_ hHeld ?_
                rotate_left 1
                · (intro w hSw; (try dsimp only at hSw); go_simp; (try with_reducible rfl))
                try simp only [Act.put, lsT, lsZ, lsS]
                refine takeY 8 21 rfl rfl (v := ?_) ?_ hHeld ?_
                rotate_left 1
                · (intro w hSw; (try dsimp only at hSw); go_simp; (try with_reducible rfl))
                try simp only [Act.put, lsT, lsZ, lsS]
                refine takeY 9 22 rfl rfl (v := ?_) ?_ hHeld ?_
                rotate_left 1
                · (intro w hSw; (try dsimp only at hSw); go_simp; (try with_reducible rfl))
                try simp only [Act.put, lsT, lsZ, lsS]
                refine takeY 10 23 rfl rfl (v := ?_) ?_ hHeld ?_
                rotate_left 1
                · (intro w hSw; (try dsimp only at hSw); go_simp; (try with_reducible rfl))
                try simp only [Act.put, lsT, lsZ, lsS]
                refine takeY 11 24 rfl rfl (v := ?_) ?_ hHeld ?_
                rotate_left 1
                · (intro w hSw; (try dsimp only at hSw); go_simp; (try with_reducible rfl))
                try simp only [Act.put, lsT, lsZ, lsS]
                refine takeY 12 25 rfl rfl (v := ?_) ?_ hHeld ?_
                rotate_left 1
                · (intro w hSw; (try dsimp only at hSw); go_simp; (try with_reducible rfl))
                try simp only [Act.put, lsT, lsZ, lsS]
                refine takeY 13 26 rfl rfl (v := ?_) ?_ hHeld ?_
                rotate_left 1
                · (intro w hSw; (try dsimp only at hSw); go_simp; (try with_reducible rfl))
                try simp only [Act.put, lsT, lsZ, lsS]
                refine takeY 14 27 rfl rfl (v := ?_) ?_ hHeld ?_
                rotate_left 1
                · (intro w hSw; (try dsimp only at hSw); go_simp; (try with_reducible rfl))
                try simp only [Act.put, lsT, lsZ, lsS]
                refine takeY 15 28 rfl rfl (v := ?_) ?_ hHeld ?_
                rotate_left 1
                · (intro w hSw; (try dsimp only at hSw); go_simp; (try with_reducible rfl))
                try simp only [Act.put, lsT, lsZ, lsS]
                refine takeY 16 29 rfl rfl (v := ?_) ?_ hHeld ?_
                rotate_left 1
                · (intro w hSw; (try dsimp only at hSw); go_simp; (try with_reducible rfl))
                try simp only [Act.put, lsT, lsZ, lsS]
                refine takeY 17 30 rfl rfl (v := ?_) ?_ hHeld ?_
                rotate_left 1
                · (intro w hSw; (try dsimp only at hSw); go_simp; (try with_reducible rfl))
                try simp only [Act.put, lsT, lsZ, lsS]
                refine takeY 18 31 rfl rfl (v := ?_) ?_ hHeld ?_
                rotate_left 1
                · (intro w hSw; (try dsimp only at hSw); go_simp; (try with_reducible rfl))
                try simp only [Act.put, lsT, lsZ, lsS]
                refine wpAnyH_ready (rs := [19]) (by kernel_rfl) (by simp) ?_
                refine AllReadyH.cons rfl (fun K hK => ?_) AllReadyH.nil
                go_simp
                (go_at_call 115; refine (assoc_compare _ (L[k - 1]) (xs, (xf, xg, xb), true)).mono ?_; rw [hcv.out]; rintro e w2 ⟨rfl, hB2⟩; have b2 := b1.pure hB2; have hs2 := hs1.pure hB2; have hB2t := hB1t.trans (hB2.mono hB1t.size); have h0 : w2.cell? ⟨wr.heap.size, 0, none⟩ = some (.int .u64 xs) := b2.cell 0; have h1 : w2.cell? ⟨wr.heap.size, 1, none⟩ = some (.int .u32 xf) := b2.cell 1; have h2 : w2.cell? ⟨wr.heap.size, 2, none⟩ = some (.string xg) := b2.cell 2; have h3 : w2.cell? ⟨wr.heap.size, 3, none⟩ = some (.string xb) := b2.cell 3; have h4 : w2.cell? ⟨wr.heap.size, 4, none⟩ = some (.bool true) := b2.cell 4; obtain ⟨r0, r1, r2, r3, r4⟩ := asc_cells hs2 hk1)
                refine hK.out _ _ ?_ (fun hHeld => ?_)
                · (first | exact ⟨h0, h1, h2, h3, h4, r0, r1, r2, r3, r4⟩ | exact ⟨f0, f1, f2, f3, f4, q0, q1, q2, q3, q4⟩ | exact ⟨e0, e1, e2, e3, e4, p0, p1, p2, p3, p4⟩)
                clear hK K
                try simp only [Act.put, lsT, lsZ, lsS]
                refine takeY 20 33 rfl rfl (v := ?_) ?_ hHeld ?_
                rotate_left 1
                · (intro w hSw; (try dsimp only at hSw); go_simp; (try with_reducible rfl))
                try simp only [Act.put, lsT, lsZ, lsS]
                refine takeY 21 34 rfl rfl (v := ?_) ?_ hHeld ?_
                rotate_left 1
                · (intro w hSw; (try dsimp only at hSw); go_simp; (try with_reducible rfl))
                try simp only [Act.put, lsT, lsZ, lsS]
                refine takeY 22 35 rfl rfl (v := ?_) ?_ hHeld ?_
                rotate_left 1
                · (intro w hSw; (try dsimp only at hSw); go_simp; (try with_reducible rfl))
                try simp only [Act.put, lsT, lsZ, lsS]
                refine takeY 23 36 rfl rfl (v := ?_) ?_ hHeld ?_
                rotate_left 1
                · (intro w hSw; (try dsimp only at hSw); go_simp; (try with_reducible rfl))
                try simp only [Act.put, lsT, lsZ, lsS]
                refine takeY 24 37 rfl rfl (v := ?_) ?_ hHeld ?_
                rotate_left 1
                · (intro w hSw; (try dsimp only at hSw); go_simp; (try with_reducible rfl))
                try simp only [Act.put, lsT, lsZ, lsS]
                refine takeY 25 38 rfl rfl (v := ?_) ?_ hHeld ?_
                rotate_left 1
                · (intro w hSw; (try dsimp only at hSw); go_simp; (try with_reducible rfl))
                try simp only [Act.put, lsT, lsZ, lsS]
                refine takeY 26 39 rfl rfl (v := ?_) ?_ hHeld ?_
                rotate_left 1
                · (intro w hSw; (try dsimp only at hSw); go_simp; (try with_reducible rfl))
                try simp only [Act.put, lsT, lsZ, lsS]
                refine takeY 27 40 rfl rfl (v := ?_) ?_ hHeld ?_
                rotate_left 1
                · (intro w hSw; (try dsimp only at hSw); go_simp; (try with_reducible rfl))
                try simp only [Act.put, lsT, lsZ, lsS]
                refine takeN 28 41 rfl rfl hHeld ?_
                try simp only [Act.put, lsT, lsZ, lsS]
                refine takeN 29 42 rfl rfl hHeld ?_
                try simp only [Act.put, lsT, lsZ, lsS]
                refine takeN 30 43 rfl rfl hHeld ?_
                try simp only [Act.put, lsT, lsZ, lsS]
                refine takeN 31 44 rfl rfl hHeld ?_
                try simp only [Act.put, lsT, lsZ, lsS]
                refine takeY 32 45 rfl rfl (v := ?_) ?_ hHeld ?_
                rotate_left 1
                · (intro w hSw; (try dsimp only at hSw); go_simp; (try with_reducible rfl))
                try simp only [Act.put, lsT, lsZ, lsS]
                refine takeY 33 46 rfl rfl (v := ?_) ?_ hHeld ?_
                rotate_left 1
                · (intro w hSw; (try dsimp only at hSw); go_simp; (try with_reducible rfl))
                try simp only [Act.put, lsT, lsZ, lsS]
                refine wpAnyH_done (by kernel_rfl) ?_ _
                all_goals
                  go_wp2
                  go_roundw
                  case rel => exact ⟨k + 1, by omega, by go_num, by rw [hac.out], hok.out, hB2t⟩
                  case measure => simp [intOf]; omega
            · have hnc : decide ((0 : Int) ≤ cv) = true := decide_eq_true (by omega)
              have hno := Lib.hid (hbad.out (fun h => (fun q => hcl (by have h9 := q.2.2.1 (by omega); rw [hcv.out] at h9; exact h9)) (hra.out.1 h)))
              go_wp2
              refine wp_region_held_drew (S := (fun w' => w'.cell? ⟨wr.heap.size, 0, none⟩ = some (.int .u64 xs) ∧ w'.cell? ⟨wr.heap.size, 1, none⟩ = some (.int .u32 xf) ∧ w'.cell? ⟨wr.heap.size, 2, none⟩ = some (.string xg) ∧ w'.cell? ⟨wr.heap.size, 3, none⟩ = some (.string xb) ∧ w'.cell? ⟨wr.heap.size, 4, none⟩ = some (.bool xz) ∧ w'.cell? ⟨g, off + (k - 1) * 5, none⟩ = some (.int .u64 (L[k - 1]).1) ∧ w'.cell? ⟨g, off + (k - 1) * 5 + 1, none⟩ = some (.int .u32 (L[k - 1]).2.1.1) ∧ w'.cell? ⟨g, off + (k - 1) * 5 + 2, none⟩ = some (.string (L[k - 1]).2.1.2.1) ∧ w'.cell? ⟨g, off + (k - 1) * 5 + 3, none⟩ = some (.string (L[k - 1]).2.1.2.2) ∧ w'.cell? ⟨g, off + (k - 1) * 5 + 4, none⟩ = some (.bool (L[k - 1]).2.2))) (by kernel_rfl) ?_ (fun hHeld => ?_)
              · (first | exact ⟨h0, h1, h2, h3, h4, r0, r1, r2, r3, r4⟩ | exact ⟨f0, f1, f2, f3, f4, q0, q1, q2, q3, q4⟩ | exact ⟨e0, e1, e2, e3, e4, p0, p1, p2, p3, p4⟩)
              refine takeY 0 13 rfl rfl (v := ?_) ?_ hHeld ?_
              rotate_left 1
              · (intro w hSw; (try dsimp only at hSw); go_simp; (try with_reducible rfl))
              try simp only [Act.put, lsT, lsZ, lsS]
              refine takeY 1 14 rfl rfl (v := ?_) ?_ hHeld ?_
              rotate_left 1
              · (intro w hSw; (try dsimp only at hSw); go_simp; (try with_reducible rfl))
              try simp only [Act.put, lsT, lsZ, lsS]
              refine takeY 2 15 rfl rfl (v := ?_) ?_ hHeld ?_
              rotate_left 1
              · (intro w hSw; (try dsimp only at hSw); go_simp; (try with_reducible rfl))
              try simp only [Act.put, lsT, lsZ, lsS]
              refine takeY 3 16 rfl rfl (v := ?_) ?_ hHeld ?_
              rotate_left 1
              · (intro w hSw; (try dsimp only at hSw); go_simp; (try with_reducible rfl))
              try simp only [Act.put, lsT, lsZ, lsS]
              refine takeY 4 17 rfl rfl (v := ?_) ?_ hHeld ?_
              rotate_left 1
              · (intro w hSw; (try dsimp only at hSw); go_simp; (try with_reducible rfl))
              try simp only [Act.put, lsT, lsZ, lsS]
              refine takeY 5 18 rfl rfl (v := ?_) ?_ hHeld ?_
              rotate_left 1
              · (intro w hSw; (try dsimp only at hSw); go_simp; (try with_reducible rfl))
              try simp only [Act.put, lsT, lsZ, lsS]
              refine wpAnyH_ready (rs := [6]) (by kernel_rfl) (by simp) ?_
              refine AllReadyH.cons rfl (fun K hK => ?_) AllReadyH.nil
              go_simp
              (go_at_call 99; refine (xid_chk _ (xf, xg, xb) _ hxv.out).mono ?_; rintro e w1 ⟨rfl, hB1⟩; have b1 := b0.drew.pure hB1; have hs1 := hsb.drew.pure hB1; have hB1t := (below_dr hBb).trans (hB1.mono hBb.size); have f0 : w1.cell? ⟨wr.heap.size, 0, none⟩ = some (.int .u64 xs) := b1.cell 0; have f1 : w1.cell? ⟨wr.heap.size, 1, none⟩ = some (.int .u32 xf) := b1.cell 1; have f2 : w1.cell? ⟨wr.heap.size, 2, none⟩ = some (.string xg) := b1.cell 2; have f3 : w1.cell? ⟨wr.heap.size, 3, none⟩ = some (.string xb) := b1.cell 3; have f4 : w1.cell? ⟨wr.heap.size, 4, none⟩ = some (.bool xz) := b1.cell 4; obtain ⟨q0, q1, q2, q3, q4⟩ := asc_cells hs1 hk1)
              refine hK.out _ _ ?_ (fun hHeld => ?_)
              · (first | exact ⟨h0, h1, h2, h3, h4, r0, r1, r2, r3, r4⟩ | exact ⟨f0, f1, f2, f3, f4, q0, q1, q2, q3, q4⟩ | exact ⟨e0, e1, e2, e3, e4, p0, p1, p2, p3, p4⟩)
              clear hK K
              try simp only [Act.put, lsT, lsZ, lsS]
              refine takeY 7 20 rfl rfl (v := ?_) ?_ hHeld ?_
              rotate_left 1
              · (intro w hSw; (try dsimp only at hSw); go_simp; (try with_reducible rfl))
              try simp only [Act.put, lsT, lsZ, lsS]
              refine takeY 8 21 rfl rfl (v := ?_) ?_ hHeld ?_
              rotate_left 1
              · (intro w hSw; (try dsimp only at hSw); go_simp; (try with_reducible rfl))
              try simp only [Act.put, lsT, lsZ, lsS]
              refine takeY 9 22 rfl rfl (v := ?_) ?_ hHeld ?_
              rotate_left 1
              · (intro w hSw; (try dsimp only at hSw); go_simp; (try with_reducible rfl))
              try simp only [Act.put, lsT, lsZ, lsS]
              refine takeY 10 23 rfl rfl (v := ?_) ?_ hHeld ?_
              rotate_left 1
              · (intro w hSw; (try dsimp only at hSw); go_simp; (try with_reducible rfl))
              try simp only [Act.put, lsT, lsZ, lsS]
              refine takeY 11 24 rfl rfl (v := ?_) ?_ hHeld ?_
              rotate_left 1
              · (intro w hSw; (try dsimp only at hSw); go_simp; (try with_reducible rfl))
              try simp only [Act.put, lsT, lsZ, lsS]
              refine takeY 12 25 rfl rfl (v := ?_) ?_ hHeld ?_
              rotate_left 1
              · (intro w hSw; (try dsimp only at hSw); go_simp; (try with_reducible rfl))
              try simp only [Act.put, lsT, lsZ, lsS]
              refine takeY 13 26 rfl rfl (v := ?_) ?_ hHeld ?_
              rotate_left 1
              · (intro w hSw; (try dsimp only at hSw); go_simp; (try with_reducible rfl))
              try simp only [Act.put, lsT, lsZ, lsS]
              refine takeY 14 27 rfl rfl (v := ?_) ?_ hHeld ?_
              rotate_left 1
              · (intro w hSw; (try dsimp only at hSw); go_simp; (try with_reducible rfl))
              try simp only [Act.put, lsT, lsZ, lsS]
              refine takeY 15 28 rfl rfl (v := ?_) ?_ hHeld ?_
              rotate_left 1
              · (intro w hSw; (try dsimp only at hSw); go_simp; (try with_reducible rfl))
              try simp only [Act.put, lsT, lsZ, lsS]
              refine takeY 16 29 rfl rfl (v := ?_) ?_ hHeld ?_
              rotate_left 1
              · (intro w hSw; (try dsimp only at hSw); go_simp; (try with_reducible rfl))
              try simp only [Act.put, lsT, lsZ, lsS]
              refine takeY 17 30 rfl rfl (v := ?_) ?_ hHeld ?_
              rotate_left 1
              · (intro w hSw; (try dsimp only at hSw); go_simp; (try with_reducible rfl))
              try simp only [Act.put, lsT, lsZ, lsS]
              refine takeY 18 31 rfl rfl (v := ?_) ?_ hHeld ?_
              rotate_left 1
              · (intro w hSw; (try dsimp only at hSw); go_simp; (try with_reducible rfl))
              try simp only [Act.put, lsT, lsZ, lsS]
              refine wpAnyH_ready (rs := [19]) (by kernel_rfl) (by simp) ?_
              refine AllReadyH.cons rfl (fun K hK => ?_) AllReadyH.nil
              go_simp
              (go_at_call 115; refine (assoc_compare _ (L[k - 1]) (xs, (xf, xg, xb), xz)).mono ?_; rw [hcv.out]; rintro e w2 ⟨rfl, hB2⟩; have b2 := b1.pure hB2; have hs2 := hs1.pure hB2; have hB2t := hB1t.trans (hB2.mono hB1t.size); have h0 : w2.cell? ⟨wr.heap.size, 0, none⟩ = some (.int .u64 xs) := b2.cell 0; have h1 : w2.cell? ⟨wr.heap.size, 1, none⟩ = some (.int .u32 xf) := b2.cell 1; have h2 : w2.cell? ⟨wr.heap.size, 2, none⟩ = some (.string xg) := b2.cell 2; have h3 : w2.cell? ⟨wr.heap.size, 3, none⟩ = some (.string xb) := b2.cell 3; have h4 : w2.cell? ⟨wr.heap.size, 4, none⟩ = some (.bool xz) := b2.cell 4; obtain ⟨r0, r1, r2, r3, r4⟩ := asc_cells hs2 hk1)
              refine hK.out _ _ ?_ (fun hHeld => ?_)
              · (first | exact ⟨h0, h1, h2, h3, h4, r0, r1, r2, r3, r4⟩ | exact ⟨f0, f1, f2, f3, f4, q0, q1, q2, q3, q4⟩ | exact ⟨e0, e1, e2, e3, e4, p0, p1, p2, p3, p4⟩)
              clear hK K
              try simp only [Act.put, lsT, lsZ, lsS]
              refine takeY 20 33 rfl rfl (v := ?_) ?_ hHeld ?_
              rotate_left 1
              · (intro w hSw; (try dsimp only at hSw); go_simp; (try with_reducible rfl))
              try simp only [Act.put, lsT, lsZ, lsS]
              refine takeY 21 34 rfl rfl (v := ?_) ?_ hHeld ?_
              rotate_left 1
              · (intro w hSw; (try dsimp only at hSw); go_simp; (try with_reducible rfl))
              try simp only [Act.put, lsT, lsZ, lsS]
              refine takeY 22 35 rfl rfl (v := ?_) ?_ hHeld ?_
              rotate_left 1
              · (intro w hSw; (try dsimp only at hSw); go_simp; (try with_reducible rfl))
              try simp only [Act.put, lsT, lsZ, lsS]
              refine takeY 23 36 rfl rfl (v := ?_) ?_ hHeld ?_
              rotate_left 1
              · (intro w hSw; (try dsimp only at hSw); go_simp; (try with_reducible rfl))
              try simp only [Act.put, lsT, lsZ, lsS]
              refine takeN 24 37 rfl rfl hHeld ?_
              try simp only [Act.put, lsT, lsZ, lsS]
              refine takeN 25 38 rfl rfl hHeld ?_
              try simp only [Act.put, lsT, lsZ, lsS]
              refine takeN 26 39 rfl rfl hHeld ?_
              try simp only [Act.put, lsT, lsZ, lsS]
              refine takeN 27 40 rfl rfl hHeld ?_
              try simp only [Act.put, lsT, lsZ, lsS]
              refine takeN 28 41 rfl rfl hHeld ?_
              try simp only [Act.put, lsT, lsZ, lsS]
              refine takeN 29 42 rfl rfl hHeld ?_
              try simp only [Act.put, lsT, lsZ, lsS]
              refine takeN 30 43 rfl rfl hHeld ?_
              try simp only [Act.put, lsT, lsZ, lsS]
              refine takeN 31 44 rfl rfl hHeld ?_
              try simp only [Act.put, lsT, lsZ, lsS]
              refine takeN 32 45 rfl rfl hHeld ?_
              try simp only [Act.put, lsT, lsZ, lsS]
              refine takeY 33 46 rfl rfl (v := ?_) ?_ hHeld ?_
              rotate_left 1
              · (intro w hSw; (try dsimp only at hSw); go_simp; (try with_reducible rfl))
              try simp only [Act.put, lsT, lsZ, lsS]
              refine wpAnyH_done (by kernel_rfl) ?_ _
              all_goals
                go_wp2
                go_ret
                exact ⟨by rw [hno.out]; rfl, hB2t⟩
        · have hxv : Hid ((if XidOk (xf, xg, xb) then (0 : Int) else 40) = 40) := Lib.hid (if_neg hx)
          have hx' := Lib.hid hx; clear hx
          have hno := Lib.hid (hbad.out (fun h => (fun q => hx'.out q.2.1) (hra.out.1 h)))
          go_wp2
          refine wp_region_held_drew (S := (fun w' => w'.cell? ⟨wr.heap.size, 0, none⟩ = some (.int .u64 xs) ∧ w'.cell? ⟨wr.heap.size, 1, none⟩ = some (.int .u32 xf) ∧ w'.cell? ⟨wr.heap.size, 2, none⟩ = some (.string xg) ∧ w'.cell? ⟨wr.heap.size, 3, none⟩ = some (.string xb) ∧ w'.cell? ⟨wr.heap.size, 4, none⟩ = some (.bool xz))) (by kernel_rfl) ?_ (fun hHeld => ?_)
          · (first | exact ⟨h0, h1, h2, h3, h4⟩ | exact ⟨f0, f1, f2, f3, f4⟩ | exact ⟨e0, e1, e2, e3, e4⟩)
          refine takeY 0 13 rfl rfl (v := ?_) ?_ hHeld ?_
          rotate_left 1
          · (intro w hSw; (try dsimp only at hSw); go_simp; (try with_reducible rfl))
          try simp only [Act.put, lsT, lsZ, lsS]
          refine takeY 1 14 rfl rfl (v := ?_) ?_ hHeld ?_
          rotate_left 1
          · (intro w hSw; (try dsimp only at hSw); go_simp; (try with_reducible rfl))
          try simp only [Act.put, lsT, lsZ, lsS]
          refine takeY 2 15 rfl rfl (v := ?_) ?_ hHeld ?_
          rotate_left 1
          · (intro w hSw; (try dsimp only at hSw); go_simp; (try with_reducible rfl))
          try simp only [Act.put, lsT, lsZ, lsS]
          refine takeY 3 16 rfl rfl (v := ?_) ?_ hHeld ?_
          rotate_left 1
          · (intro w hSw; (try dsimp only at hSw); go_simp; (try with_reducible rfl))
          try simp only [Act.put, lsT, lsZ, lsS]
          refine takeY 4 17 rfl rfl (v := ?_) ?_ hHeld ?_
          rotate_left 1
          · (intro w hSw; (try dsimp only at hSw); go_simp; (try with_reducible rfl))
          try simp only [Act.put, lsT, lsZ, lsS]
          refine takeY 5 18 rfl rfl (v := ?_) ?_ hHeld ?_
          rotate_left 1
          · (intro w hSw; (try dsimp only at hSw); go_simp; (try with_reducible rfl))
          try simp only [Act.put, lsT, lsZ, lsS]
          refine wpAnyH_ready (rs := [6]) (by kernel_rfl) (by simp) ?_
          refine AllReadyH.cons rfl (fun K hK => ?_) AllReadyH.nil
          go_simp
          (go_at_call 99; refine (xid_chk _ (xf, xg, xb) _ hxv.out).mono ?_; rintro e w1 ⟨rfl, hB1⟩; have b1 := b0.drew.pure hB1; have hs1 := hsb.drew.pure hB1; have hB1t := (below_dr hBb).trans (hB1.mono hBb.size); have f0 : w1.cell? ⟨wr.heap.size, 0, none⟩ = some (.int .u64 xs) := b1.cell 0; have f1 : w1.cell? ⟨wr.heap.size, 1, none⟩ = some (.int .u32 xf) := b1.cell 1; have f2 : w1.cell? ⟨wr.heap.size, 2, none⟩ = some (.string xg) := b1.cell 2; have f3 : w1.cell? ⟨wr.heap.size, 3, none⟩ = some (.string xb) := b1.cell 3; have f4 : w1.cell? ⟨wr.heap.size, 4, none⟩ = some (.bool xz) := b1.cell 4)
          refine hK.out _ _ ?_ (fun hHeld => ?_)
          · (first | exact ⟨h0, h1, h2, h3, h4⟩ | exact ⟨f0, f1, f2, f3, f4⟩ | exact ⟨e0, e1, e2, e3, e4⟩)
          clear hK K
          try simp only [Act.put, lsT, lsZ, lsS]
          refine takeY 7 20 rfl rfl (v := ?_) ?_ hHeld ?_
          rotate_left 1
          · (intro w hSw; (try dsimp only at hSw); go_simp; (try with_reducible rfl))
          try simp only [Act.put, lsT, lsZ, lsS]
          refine takeY 8 21 rfl rfl (v := ?_) ?_ hHeld ?_
          rotate_left 1
          · (intro w hSw; (try dsimp only at hSw); go_simp; (try with_reducible rfl))
          try simp only [Act.put, lsT, lsZ, lsS]
          refine takeY 9 22 rfl rfl (v := ?_) ?_ hHeld ?_
          rotate_left 1
          · (intro w hSw; (try dsimp only at hSw); go_simp; (try with_reducible rfl))
          try simp only [Act.put, lsT, lsZ, lsS]
          refine takeN 10 23 rfl rfl hHeld ?_
          try simp only [Act.put, lsT, lsZ, lsS]
          refine takeN 11 24 rfl rfl hHeld ?_
          try simp only [Act.put, lsT, lsZ, lsS]
          refine takeN 12 25 rfl rfl hHeld ?_
          try simp only [Act.put, lsT, lsZ, lsS]
          refine takeN 13 26 rfl rfl hHeld ?_
          try simp only [Act.put, lsT, lsZ, lsS]
          refine takeN 14 27 rfl rfl hHeld ?_
          try simp only [Act.put, lsT, lsZ, lsS]
          refine takeN 15 28 rfl rfl hHeld ?_
          try simp only [Act.put, lsT, lsZ, lsS]
          refine takeN 16 29 rfl rfl hHeld ?_
          try simp only [Act.put, lsT, lsZ, lsS]
          refine takeN 17 30 rfl rfl hHeld ?_
          try simp only [Act.put, lsT, lsZ, lsS]
          refine takeN 18 31 rfl rfl hHeld ?_
          try simp only [Act.put, lsT, lsZ, lsS]
          refine takeN 19 32 rfl rfl hHeld ?_
          try simp only [Act.put, lsT, lsZ, lsS]
          refine takeN 20 33 rfl rfl hHeld ?_
          try simp only [Act.put, lsT, lsZ, lsS]
          refine takeN 21 34 rfl rfl hHeld ?_
          try simp only [Act.put, lsT, lsZ, lsS]
          refine takeY 22 35 rfl rfl (v := ?_) ?_ hHeld ?_
          rotate_left 1
          · (intro w hSw; (try dsimp only at hSw); go_simp; (try with_reducible rfl))
          try simp only [Act.put, lsT, lsZ, lsS]
          refine takeY 23 36 rfl rfl (v := ?_) ?_ hHeld ?_
          rotate_left 1
          · (intro w hSw; (try dsimp only at hSw); go_simp; (try with_reducible rfl))
          try simp only [Act.put, lsT, lsZ, lsS]
          refine takeN 24 37 rfl rfl hHeld ?_
          try simp only [Act.put, lsT, lsZ, lsS]
          refine takeN 25 38 rfl rfl hHeld ?_
          try simp only [Act.put, lsT, lsZ, lsS]
          refine takeN 26 39 rfl rfl hHeld ?_
          try simp only [Act.put, lsT, lsZ, lsS]
          refine takeN 27 40 rfl rfl hHeld ?_
          try simp only [Act.put, lsT, lsZ, lsS]
          refine takeN 28 41 rfl rfl hHeld ?_
          try simp only [Act.put, lsT, lsZ, lsS]
          refine takeN 29 42 rfl rfl hHeld ?_
          try simp only [Act.put, lsT, lsZ, lsS]
          refine takeN 30 43 rfl rfl hHeld ?_
          try simp only [Act.put, lsT, lsZ, lsS]
          refine takeN 31 44 rfl rfl hHeld ?_
          try simp only [Act.put, lsT, lsZ, lsS]
          refine takeN 32 45 rfl rfl hHeld ?_
          try simp only [Act.put, lsT, lsZ, lsS]
          refine takeY 33 46 rfl rfl (v := ?_) ?_ hHeld ?_
          rotate_left 1
          · (intro w hSw; (try dsimp only at hSw); go_simp; (try with_reducible rfl))
          try simp only [Act.put, lsT, lsZ, lsS]
          refine wpAnyH_done (by kernel_rfl) ?_ _
          all_goals
            go_wp2
            go_ret
            exact ⟨by rw [hno.out]; rfl, hB1t⟩
    · obtain rfl : k = L.length := by omega
      rw [List.take_length] at hR
      have hre := Lib.hid (rowE_yes hR)
      go_wp2
      go_ret
      exact ⟨by rw [hre.out]; rfl, hB⟩
end Go.Proofs.Ytcelpincmpjhkaa
