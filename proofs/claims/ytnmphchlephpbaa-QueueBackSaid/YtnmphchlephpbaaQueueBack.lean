/- The law QueueBack, walked: it returns true whatever its arguments are, and nothing that was there has changed. Conditions: the last argument reads as a row of bools. -/
import Derived.Test.YtnmphchlephpbaaQueueBackLaw
import Derived.Test.YtnmphchlephpbaaQueueOrder
import Derived.Test.YtnmphchlephpbaaOpenB
namespace Go.Proofs.Ytnmphchlephpbaa
open Go.RowKit

theorem Kept.more {B : Nat} {v : Value} {w0 w1 w2 : World} (hB : w0.heap.size = B) (h : Below B w0 w1) (k : Kept (XF B v) w1 w2) : Below B w0 w2 := by
  subst hB
  exact h.trans (Upd.below k h.size (fun j hj => Nat.le_of_not_lt (fun h => hj (.inl h))))

set_option maxRecDepth 100000 in
set_option maxHeartbeats 8000000 in
theorem back_any (w : World) (a b : Int) (u : Value) (O : List Bool) (a0 : 0 ≤ a) (a1 : a ≤ 255) (b0 : 0 ≤ b) (b1 : b ≤ 255) (hO : Slc boolEnc 1 w u O) :
    Calls Try.prog 4 #[.int .u8 a, .int .u8 b, u] w fun e w' => e = .returned (.bool true) ∧ Below w.heap.size w w' := by
  obtain ⟨n, hn⟩ : ∃ n : Nat, (n : Int) = a % 61 := ⟨(a % 61).toNat, by omega⟩
  have hn2 : n < 61 := by omega
  have hn' := Lib.hid hn; clear hn
  obtain ⟨k, hk⟩ : ∃ k : Nat, (k : Int) = b % ((n : Int) + 1) := ⟨(b % ((n : Int) + 1)).toNat, by have := Int.emod_nonneg b (show ((n : Int) + 1) ≠ 0 by omega); omega⟩
  have hk2 : k ≤ n := by have := Int.emod_lt_of_pos b (show 0 < (n : Int) + 1 by omega); omega
  have hk' := Lib.hid hk; clear hk
  obtain ⟨ao, capo, rfl, hmo⟩ := hO.len
  unfold maxLen at hmo
  go_enter Try.func4, Try.ntmps4
  go_wp2_with (go_at_call 8; rw [← hn'.out, ← hk'.out]; refine (newX _ 100 (by omega)).mono ?_; rintro e w1 ⟨rfl, hB1, hR1⟩)
  have hB1s := hB1.size
  go_loopw [10] (fun s10 wr => ∃ (i : Nat) (s : QS), i ≤ n ∧ s10 = .int .i64 i ∧ QueX (fun j => j < w.heap.size) wr (w.heap.size + 1) s ∧ Below w.heap.size w wr ∧ BkS s i (fun _ => none)) (fun s10 _ => n - (intOf s10).toNat)
  case atStart => exact ⟨0, QS.new 100, by omega, rfl, hR1, hB1, BkS.new⟩
  case round =>
    obtain ⟨i, s, hi, rfl, hR, hB, hS⟩ := hrel
    have hS' := Lib.hid hS; clear hS
    by_cases hlt : i < n
    · obtain ⟨p1, p2⟩ := hS'.out.put hR.ok (by omega)
      have hput := putX (id := (i : Int) + 1) hR (fun k hk => Nat.lt_of_lt_of_le hk hB.size) (by rw [hS'.out.len]; omega) (by omega)
      rw [p1] at hput
      have hput' := Lib.hid hput
      have p2' := Lib.hid p2
      clear p1 p2 hput
      go_wp2_with fail
      refine hput'.out.mono ?_
      rintro e w2 ⟨rfl, hR2, hK2⟩
      have hB2 := Kept.below hB hK2
      clear hR hB hK2 hput'
      go_wp2_with fail
      go_roundw
      case rel => exact ⟨i + 1, _, by omega, by go_num, hR2, hB2, p2'.out⟩
      case measure => simp [intOf]; omega
    · obtain rfl : i = n := by omega
      have hf0 : BkS s i (f5 0) := hS'.out.ext (fun j _ => by simp [f5])
      have hf0' := Lib.hid hf0
      clear hf0 hS'
      go_wp2_with fail
      go_loopw [11] (fun s11 wr => ∃ (m : Nat) (s : QS), m ≤ k ∧ s11 = .int .i64 m ∧ QueX (fun j => j < w.heap.size) wr (w.heap.size + 1) s ∧ Below w.heap.size w wr ∧ BkS s i (f5 m)) (fun s11 _ => k - (intOf s11).toNat)
      case atStart => exact ⟨0, s, by omega, rfl, hR, hB, hf0'.out⟩
      case round =>
        clear hR hB hf0'
        obtain ⟨m, s, hm, rfl, hR, hB, hS⟩ := hrel
        have hS' := Lib.hid hS; clear hS
        have hsl : s.ids.length ≤ 1000000 := by rw [hS'.out.len]; omega
        by_cases hlt : m < k
        · obtain ⟨p1, p2, p3⟩ := hS'.out.next (show m < i by omega)
          have hnx := nextX_some (o := 5) hR (fun k hk => Nat.lt_of_lt_of_le hk hB.size) hsl (by omega) p2 p1
          rw [p3] at hnx
          have hnx' := Lib.hid hnx
          have p2' := Lib.hid (hS'.out.next5 (show m < i by omega))
          clear p1 p2 p3 hnx
          go_wp2_with fail
          refine hnx'.out.mono ?_
          rintro e w2 ⟨rfl, hR2, hK2⟩
          have hB2 := Kept.below hB hK2
          clear hR hB hK2 hnx'
          go_wp2_with fail
          go_roundw
          case rel => exact ⟨m + 1, _, by omega, by go_num, hR2, hB2, p2'.out⟩
          case measure => simp [intOf]; omega
        · obtain rfl : m = k := by omega
          obtain ⟨bb, hbb⟩ : ∃ bb : Nat → Bool, bb = fun j => O.getD j false := ⟨_, rfl⟩
          have hbt : ∀ j (h : j < O.length), bb j = O[j] := fun j h => by rw [hbb]; simp [List.getD_eq_getElem?_getD, List.getElem?_eq_getElem h]
          have hbf : ∀ j, ¬ j < O.length → bb j = false := fun j h => by rw [hbb]; simp [List.getD_eq_getElem?_getD, List.getElem?_eq_none (Nat.le_of_not_lt h)]
          have hS0 := Lib.hid (hS'.out.to_fb bb)
          clear hbb hS'
          have hbt' := Lib.hid hbt; clear hbt
          have hbf' := Lib.hid hbf; clear hbf
          go_wp2_with fail
          go_loopw [12, 13] (fun s12 s13 wr => ∃ (j : Nat) (s : QS), j ≤ m ∧ s13 = .int .i64 j ∧ QueX (XF w.heap.size s12) wr (w.heap.size + 1) s ∧ Own w.heap.size 27 1 (intEnc .u64) wr s12 (wantOf m bb j) ∧ Below w.heap.size w wr ∧ BkS s i (fb m bb j)) (fun _ s13 _ => m - (intOf s13).toNat)
          case atStart => exact ⟨0, s, by omega, rfl, hR.more (fun k hk _ => hk.elim id (fun h => by simp [Value.ownBlock] at h)), Own.nil, hB, hS0.out⟩
          case round =>
            clear hR hB hS0
            obtain ⟨j, s, hj, rfl, hR, hL, hB, hS⟩ := hrel
            have hS' := Lib.hid hS; clear hS
            have hsl : s.ids.length ≤ 1000000 := by rw [hS'.out.len]; omega
            have hwl := want_len m bb j
            have hXl : ∀ x, XF w.heap.size u12 x → x < wr.heap.size := by
              intro x hx
              rcases hx with hx | hx
              · have := hB.size; omega
              · exact hL.lt hx
            by_cases hlt : j < m
            · have hBs := hB.size
              have noC : bb j = false → wantOf m bb (j + 1) = wantOf m bb j ∧ BkS s i (fb m bb (j + 1)) := fun hb => ⟨want_no (by rw [hb]; simp; omega), hS'.out.stay hb⟩
              have noC' := Lib.hid noC; clear noC
              by_cases hjO : j < O.length
              · obtain ⟨go, offo, rfl, co⟩ := (hO.pure (hB.mono (Nat.le_refl _))).loadB j hjO
                cases hq : O[j]
                · obtain ⟨n1, n2⟩ := noC'.out ((hbt'.out j hjO).trans hq)
                  have n1' := Lib.hid n1
                  have n2' := Lib.hid n2
                  rw [hq] at co
                  clear n1 n2 hq
                  go_wp2_with fail
                  go_roundw
                  case rel => exact ⟨j + 1, s, by omega, by go_num, hR, by rw [n1'.out]; exact hL, hB, n2'.out⟩
                  case measure => simp [intOf]; omega
                · have hb := (hbt'.out j hjO).trans hq
                  rw [hq] at co
                  obtain ⟨p1, p2⟩ := hS'.out.free hb hlt (by omega)
                  have hfr := freeX (id := (j : Int) + 1) (o := 5) hR hXl hsl (by unfold u64ok; omega)
                  rw [p1] at hfr
                  have hw := Lib.hid (want_yes (k := m) (bb := bb) (i := j) (by rw [hb]; simp))
                  have hfr' := Lib.hid hfr
                  have p2' := Lib.hid p2
                  clear p1 p2 hfr hb hq noC'
                  go_wp2_with fail
                  refine hfr'.out.mono ?_
                  rintro e w2 ⟨rfl, hR2, hK2⟩
                  have hL2 := hL.upd hK2 (fun j hj h => h (.inr hj))
                  have hB2 := Kept.more rfl hB hK2
                  have hB2s := hB2.size
                  clear hR hL hB hK2 hXl co hfr'
                  go_wp2_with (at_builtin; refine wpList_app1 rfl _ _ 28 27 rfl elem_u64 (intEnc_len _) (intEnc_one _) u12 _ rfl (hL2.alloc _) w2.heap.size 1 ((j : Int) + 1) rfl (fun x u hu => ((Blk.new w2 [.int .u64 ((j : Int) + 1)] 27).cell x).trans hu) (by omega) (by unfold maxLen; omega) (by simp; omega) ?_; intro g' cap' w4 hown hgr hfr)
                  go_roundw
                  case rel =>
                    refine ⟨j + 1, _, by omega, by go_num, ?_, by rw [hw.out]; exact hown, (hB2.alloc hB2s _).grown hgr (by simp; omega) (fun j e => hL2.ge e), p2'.out⟩
                    refine (hR2.pure ((Below.refl _ _).alloc (Nat.le_refl _) _)).step (Upd.grown (S := fun j => u12.ownBlock = some j) hgr (fun j e => e)) (fun j hj _ => .inr hj) ?_
                    rintro x (hx | hx) hl
                    · exact .inl hx
                    · simp only [Value.ownBlock, Option.some.injEq] at hx
                      subst hx
                      rcases hfr with h | h
                      · exact .inr h
                      · omega
                  case measure => simp [intOf]; omega
              · obtain ⟨n1, n2⟩ := noC'.out (hbf'.out j hjO)
                have n1' := Lib.hid n1
                have n2' := Lib.hid n2
                clear n1 n2
                go_wp2_with fail
                go_roundw
                case rel => exact ⟨j + 1, s, by omega, by go_num, hR, by rw [n1'.out]; exact hL, hB, n2'.out⟩
                case measure => simp [intOf]; omega
            · obtain rfl : j = m := by omega
              clear hXl
              go_wp2_with fail
              have hrd := Lib.hid (hS'.out.rd)
              clear hS'
              go_loopw [12, 14] (fun s12 s14 wr => ∃ t : Nat, j ≤ t ∧ t ≤ i ∧ s14 = .int .i64 t ∧ QueX (XF w.heap.size s12) wr (w.heap.size + 1) s ∧ Own w.heap.size 27 1 (intEnc .u64) wr s12 (wantOf j bb t) ∧ Below w.heap.size w wr) (fun _ s14 _ => i - (intOf s14).toNat)
              case atStart => exact ⟨j, by omega, by omega, rfl, hR, hL, hB⟩
              case round =>
                clear hR hL hB
                obtain ⟨t, ht1, ht2, rfl, hR, hL, hB⟩ := hrel
                have hwl := want_len j bb t
                by_cases hlt : t < i
                · have hBs := hB.size
                  have hw := Lib.hid (want_yes (k := j) (bb := bb) (i := t) (by simp; omega))
                  go_wp2_with (at_builtin; refine wpList_app1 rfl _ _ 28 27 rfl elem_u64 (intEnc_len _) (intEnc_one _) u12 _ rfl (hL.alloc _) wr.heap.size 1 ((t : Int) + 1) rfl (fun x u hu => ((Blk.new wr [.int .u64 ((t : Int) + 1)] 27).cell x).trans hu) (by omega) (by unfold maxLen; omega) (by simp; omega) ?_; intro g' cap' w4 hown hgr hfr)
                  go_roundw
                  case rel =>
                    refine ⟨t + 1, by omega, by omega, by go_num, ?_, by rw [hw.out]; exact hown, (hB.alloc hBs _).grown hgr (by simp; omega) (fun j e => hL.ge e)⟩
                    refine (hR.pure ((Below.refl _ _).alloc (Nat.le_refl _) _)).step (Upd.grown (S := fun j => u12.ownBlock = some j) hgr (fun j e => e)) (fun j hj _ => .inr hj) ?_
                    rintro x (hx | hx) hl
                    · exact .inl hx
                    · simp only [Value.ownBlock, Option.some.injEq] at hx
                      subst hx
                      rcases hfr with h | h
                      · exact .inr h
                      · omega
                  case measure => simp [intOf]; omega
                · obtain rfl : t = i := by omega
                  obtain ⟨W, hW⟩ : ∃ W, W = wantOf j bb t := ⟨_, rfl⟩
                  have hof := fun s' => @RdS.of s' t j bb
                  rw [← hW] at hL hrd hwl hof
                  clear hW
                  have hof' := Lib.hid hof; clear hof
                  obtain ⟨wa, wc, rfl, hwm⟩ := (hL.slc (intEnc_len _)).len
                  unfold maxLen at hwm
                  go_wp2_with fail
                  go_loopw [15] (fun s15 wr => ∃ (m : Nat) (s : QS), m ≤ W.length ∧ s15 = .int .i64 m ∧ QueX (XF w.heap.size (.slice wa W.length wc)) wr (w.heap.size + 1) s ∧ Own w.heap.size 27 1 (intEnc .u64) wr (.slice wa W.length wc) W ∧ Below w.heap.size w wr ∧ RdS s t W m) (fun s15 _ => W.length - (intOf s15).toNat)
                  case atStart => exact ⟨0, s, by omega, rfl, hR, hL, hB, hrd.out⟩
                  case round =>
                    clear hR hL hB hrd
                    obtain ⟨m, s, hm, rfl, hR, hL, hB, hS⟩ := hrel
                    have hS' := Lib.hid hS; clear hS
                    have hsl : s.ids.length = t := by rw [hS'.out.ids, up_len]
                    have hXl : ∀ x, XF w.heap.size (.slice wa W.length wc) x → x < wr.heap.size := by
                      intro x hx
                      rcases hx with hx | hx
                      · have := hB.size; omega
                      · exact hL.lt hx
                    by_cases hlt : m < W.length
                    · obtain ⟨gl, offl, rfl, cl⟩ := (hL.slc (intEnc_len _)).load m hlt
                      obtain ⟨y, p1, p2, p3⟩ := hS'.out.next hlt
                      have hnx := nextX_some (o := 6) hR hXl (by omega) (by omega) p2 p1
                      rw [p3] at hnx
                      have hnx' := Lib.hid hnx
                      have p2' := Lib.hid (hS'.out.hold hR.ok hlt)
                      clear p1 p2 p3 hnx
                      go_wp2_with fail
                      refine hnx'.out.mono ?_
                      rintro e w2 ⟨rfl, hR2, hK2⟩
                      have hL2 := hL.upd hK2 (fun j hj h => h (.inr hj))
                      have hB2 := Kept.more rfl hB hK2
                      have cl2 := (Upd.cell hK2 (p := ⟨gl, offl + m, none⟩) (World.block_lt_of_cell? _ _ cl) (fun h => h (.inr rfl))).trans cl
                      clear hR hL hB hK2 hXl cl hnx'
                      go_wp2_with fail
                      go_roundw
                      case rel => exact ⟨m + 1, _, by omega, by go_num, hR2, hL2, hB2, p2'.out⟩
                      case measure => simp [intOf]; omega
                    · obtain rfl : m = W.length := by omega
                      have hnx' := Lib.hid (nextX_none (o := 6) hR (by omega) (by omega) hS'.out.none)
                      have hWs := hof'.out s hS'.out
                      clear hXl
                      go_wp2_with (first | (go_at_call 10; refine hnx'.out.mono ?_; clear hnx'; rintro e w2 ⟨rfl, hB2⟩; have hB2' := hB.trans (hB2.mono hB.size); have hR2 := hR.pure hB2; have hL2 := hL.pure hB2; clear hB2 hR hL hB) | (go_at_call 14; refine (allX hR2 (by omega)).mono ?_; rintro e w3 ⟨r, rfl, hr, hB3⟩; obtain ⟨ra, rc, rfl, -⟩ := hr.len; rw [hsl]; have hB3' := hB2'.trans (hB3.mono hB2'.size); have hR3 := hR2.pure hB3; have hL3 := hL2.pure hB3; clear hB3 hr hR2 hL2 hB2') | (go_at_call 16; refine (ofX hR3 (by omega) (by omega)).mono ?_; rw [hWs]; rintro e w4 ⟨r4, rfl, hr4, hB4⟩; have hB4' := hB3'.trans (hB4.mono hB3'.size); have hL4 := hL3.pure hB4; clear hB4 hR3 hL3 hB3') | (go_at_call 15; refine (same_any _ _ _ _ _ hr4 (hL4.slc (intEnc_len _))).mono ?_; rw [decide_eq_true rfl]; rintro e w5 ⟨rfl, hB5⟩; have hB5' := hB4'.trans (hB5.mono hB4'.size); clear hB5 hB4' hL4 hr4) | (go_at_call 7; refine (head_any _).mono ?_; rintro e w6 ⟨rfl, hB6⟩))
                      go_ret
                      exact ⟨rfl, hB5'.trans (hB6.mono hB5'.size)⟩

end Go.Proofs.Ytnmphchlephpbaa
