/- The law CreditFair, walked: it returns true whatever its two numbers are, and nothing that was there has changed. Conditions: none. -/
import Derived.Test.YtelebabegbkdnaaCreditFairLaw
import Derived.Test.YtelebabegbkdnaaCreditG
namespace Go.Proofs.Ytelebabegbkdnaa
open Go.RowKit

theorem info_str : (Try.prog.info? 9).map (fun i => (i.zero, i.size, i.bytes)) = some (some (.string ⟨#[]⟩), 1, 16) := by kernel_rfl
theorem elem_str : ElemT Try.prog 26 9 1 16 := ElemT.mk' Try.underlying26 info_str rfl (by omega)

/-- What the round must leave alone: what was there at first, and a slice's own block. -/
def XG (B : Nat) (v t : Value) (k : Nat) : Prop := k < B ∨ v.ownBlock = some k ∨ t.ownBlock = some k
def XF (B : Nat) (v : Value) (k : Nat) : Prop := k < B ∨ v.ownBlock = some k

set_option maxRecDepth 100000 in
set_option maxHeartbeats 2000000 in
theorem fair_any (w : World) (a b : Int) (a0 : 0 ≤ a) (a1 : a ≤ 255) (b0 : 0 ≤ b) (b1 : b ≤ 255) :
    Calls Try.prog 4 #[.int .u8 a, .int .u8 b] w fun e w' => e = .returned (.bool true) ∧ Below w.heap.size w w' := by
  obtain ⟨n, hn⟩ : ∃ n : Nat, (n : Int) = 1 + a % 10 := ⟨(1 + a % 10).toNat, by omega⟩
  have hn1 : 0 < n := by omega
  have hn2 : n < 11 := by omega
  have hn' := Lib.hid hn; clear hn
  go_enter Try.func4, Try.ntmps4
  go_wp2_with (go_at_call 8; refine (newX _).mono ?_; rintro e w1 ⟨rfl, hB1, hR1, hz1⟩)
  rw [← hn'.out]
  have hB1s := hB1.size
  go_loopw [8, 9] (fun s8 s9 wr => ∃ k : Nat, k ≤ n ∧ s9 = .int .i64 k ∧ RndX (XF w.heap.size s8) wr w.heap.size (full k) 0 ∧ Own w.heap.size 9 1 strEnc wr s8 (mays k) ∧ Below w.heap.size w wr) (fun _ s9 _ => n - (intOf s9).toNat)
  case atStart => exact ⟨0, by omega, rfl, hR1.more (fun k hk _ => hk.elim id (fun h => by simp [Value.ownBlock] at h)), Own.nil, hB1⟩
  case round =>
    obtain ⟨k, hk, rfl, hR, hO, hB⟩ := hrel
    by_cases hlt : k < n
    · obtain ⟨q1, q2, q3, q4, q5⟩ := full_facts k (by omega)
      have q5' := Lib.hid q5; clear q5
      have q1' := Lib.hid q1; clear q1
      have hXl : ∀ j, XF w.heap.size u8 j → j < wr.heap.size := by
        intro j hj
        rcases hj with hj | hj
        · have := hB.size; omega
        · exact hO.lt hj
      go_wp2_with fail
      refine (addX hR hXl (by have := q1'.out; change 0 < (tg k).size; omega) (by have := q1'.out; change (tg k).size ≤ 40; omega) q2 (by rw [full_len]; omega)).mono ?_
      rintro e w2 ⟨rfl, hR2, hK2⟩
      have hO2 := hO.upd hK2 (fun j hj h => h (.inr hj))
      have hB2 : Below w.heap.size w w2 := hB.trans (hK2.below hB.size (fun j hj => Nat.le_of_not_lt (fun h => hj (.inl h))))
      clear hR hO hB hK2 hXl
      go_wp2_with fail
      have hil : k < (full k ++ [(tg k, 0)]).length := by rw [List.length_append, full_len]; simp
      have hik : (full k ++ [(tg k, 0)])[k] = (tg k, 0) := by rw [List.getElem?_eq_getElem hil] at q4; exact Option.some.inj q4
      refine (giveX (n := 4294967295) hR2 hil q3 (by rw [hik]; exact Int.le_refl 0) (by rw [hik]; exact (by decide : (0 : Int) ≤ 4294967295)) (by decide) (by decide)).mono ?_
      rintro e w3 ⟨rfl, hR3, hK3⟩
      rw [hik] at hR3
      have hR3 : RndX (XF w.heap.size u8) w3 w.heap.size (full (k + 1)) 0 := by rw [← q5'.out]; exact hR3
      have hO3 := hO2.upd hK3 (fun j hj h => h (.inr hj))
      have hB3 : Below w.heap.size w w3 := hB2.trans (hK3.below hB2.size (fun j hj => Nat.le_of_not_lt (fun h => hj (.inl h))))
      clear hR2 hO2 hB2 hK3 hik q2 q3 q4
      have hB3s := hB3.size
      go_wp2_with (at_builtin; refine wpList_app1 rfl _ _ 26 9 rfl elem_str strEnc_len strEnc_one u8 (mays k) rfl (hO3.alloc _) w3.heap.size 1 (tg k) rfl (fun j u hu => ((Blk.new w3 [.string (tg k)] 9).cell j).trans hu) (by simp [mays]; omega) (by unfold maxLen; simp [mays]; omega) (by simp; omega) ?_; intro g' cap' w4 hown hgr hfr)
      go_roundw
      case rel =>
        refine ⟨k + 1, by omega, by go_num, ?_, by rw [mays_succ]; exact hown, (hB3.alloc hB3s _).grown hgr (by simp; omega) (fun j e => hO3.ge e)⟩
        refine (hR3.pure ((Below.refl _ _).alloc (Nat.le_refl _) _)).step (Upd.grown (S := fun j => u8.ownBlock = some j) hgr (fun j e => e)) (fun j hj _ => .inr hj) ?_
        rintro j (hj | hj) hl
        · exact .inl hj
        · simp only [Value.ownBlock, Option.some.injEq] at hj
          subst hj
          rcases hfr with h | h
          · exact .inr h
          · omega
      case measure => simp [intOf]; omega
    · obtain rfl : n = k := by omega
      obtain ⟨m, hm⟩ : ∃ m : Nat, (m : Int) = b % 101 := ⟨(b % 101).toNat, by omega⟩
      have hmm : m ≤ 100 := by omega
      have hm' := Lib.hid hm; clear hm
      go_wp2_with fail
      obtain ⟨wo, rfl⟩ : ∃ wo : World, wo = wr := ⟨_, rfl⟩
      go_loopw [11, 12] (fun s11 s12 wr => ∃ k : Nat, k ≤ m ∧ s12 = .int .i64 k ∧ RndX (XG w.heap.size u8 s11) wr w.heap.size (full n) (nxAt n k) ∧ Own w.heap.size 9 1 strEnc wr u8 (mays n) ∧
        Own w.heap.size 9 1 strEnc wr s11 (toldOf n k) ∧ (∀ j, u8.ownBlock = some j → s11.ownBlock ≠ some j) ∧ Below w.heap.size w wr) (fun _ s12 _ => m - (intOf s12).toNat)
      case atStart => exact ⟨0, by omega, rfl, hR.more (fun k hk _ => hk.elim .inl (fun h => h.elim .inr (fun h => by simp [Value.ownBlock] at h))), hO, Own.nil, by simp [Value.ownBlock], hB⟩
      case round =>
        clear hR hO hB
        obtain ⟨k, hk, rfl, hR, hO, hT, hap, hB⟩ := hrel
        have hmq := hm'.out
        by_cases hlt : k < m
        · obtain ⟨ta, tcap, htv, htm⟩ := (hT.slc strEnc_len).len
          have htl : (toldOf n k).length = k := by simp [toldOf]
          rw [htl] at htv
          subst htv
          have hXl : ∀ j, XG w.heap.size u8 (.slice ta k tcap) j → j < wr.heap.size := by
            intro j hj
            rcases hj with hj | hj | hj
            · have := hB.size; omega
            · exact hO.lt hj
            · exact hT.lt hj
          have hkn : k % n < n := Nat.mod_lt _ hn1
          have htf := turn_full n hn2 hn1 (nxAt n k) (by have := nxAt_le hn1 k; omega)
          rw [nxAt_mod hn1] at htf
          obtain ⟨i, hti, hi⟩ := Option.map_eq_some_iff.1 htf
          obtain ⟨g1, g2, g3⟩ := spend_full n hn2 (k % n) hkn
          have hil : i.1 < (full n).length := i.2
          have hL1 : ((full n)[i.1]).1 = tg (k % n) := by
            rw [← hi, List.getElem?_eq_getElem hil] at g1; rw [← hi]; exact Option.some.inj g1
          have hL2 : ((full n)[i.1]).2 = 4294967295 := by
            rw [← hi, List.getElem?_eq_getElem hil] at g3; exact Option.some.inj g3
          have htr := turnX_some (may := mays n) (mv := u8) hR (hO.slc strEnc_len) (by rw [full_len]; exact nxAt_le hn1 k) (by rw [full_len]; omega) (full_ok n) hti
          have hsp : (full n).set i.1 ((full n)[i.1].1, spent (full n)[i.1].2) = full n := by rw [hL1, hL2, hi]; exact g2
          have htr' : Calls Try.prog 11 #[.pointer (some ⟨w.heap.size, 0, none⟩), u8] wr fun e w' => e = .returned (.tuple #[.string (tg (k % n)), .bool true]) ∧
              RndX (XG w.heap.size u8 (.slice ta k tcap)) w' w.heap.size (full n) (nxAt n (k + 1)) ∧ Kept (XG w.heap.size u8 (.slice ta k tcap)) wr w' := by
            refine htr.mono ?_
            rintro e w' ⟨h1, h2, h3⟩
            refine ⟨by rw [h1]; show Ending.returned (.tuple #[.string (full n)[i.1].1, .bool true]) = _; rw [hL1], ?_, h3⟩
            rw [nxAt_succ, ← hi]
            have h2' : RndX (XG w.heap.size u8 (.slice ta k tcap)) w' w.heap.size ((full n).set i.1 ((full n)[i.1].1, spent (full n)[i.1].2)) (i.1 + 1) := h2
            rw [hsp] at h2'; exact h2'
          have htr'' := Lib.hid htr'
          clear htr htr' hsp hL1 hL2 hil g1 g2 g3 hi hti i htf
          go_wp2_with fail
          refine htr''.out.mono ?_
          rintro e w2 ⟨rfl, hR2, hK2⟩
          have hO2 := hO.upd hK2 (fun j hj h => h (.inr (.inl hj)))
          have hT2 := hT.upd hK2 (fun j hj h => h (.inr (.inr hj)))
          have hB2 : Below w.heap.size w w2 := hB.trans (hK2.below hB.size (fun j hj => Nat.le_of_not_lt (fun h => hj (.inl h))))
          have hB2s := hB2.size
          clear hR hO hT hB hK2 hXl htr''
          go_wp2_with fail
          go_loop [15] (fun s15 => ∃ i : Int, -1 ≤ i ∧ i < k ∧ s15 = .int .i64 i) (fun s15 => (intOf s15 + 1).toNat)
          case atStart => exact ⟨_, by omega, by omega, rfl⟩
          case round =>
            obtain ⟨i, hi0, hi1, rfl⟩ := hrel
            by_cases hgo : 0 ≤ i ∧ (k : Int) - n < i
            · obtain ⟨h1, h2⟩ := hgo
              obtain ⟨x, hxe⟩ : ∃ x : Nat, i.toNat = x := ⟨_, rfl⟩
              have hx : x < (toldOf n k).length := by omega
              obtain ⟨g, cap, hv, hgb, hgl⟩ := hT2.shape (fun e => by rw [e] at hx; simp at hx)
              simp only [Value.slice.injEq] at hv
              obtain ⟨rfl, -, rfl⟩ := hv
              have hc := (hT2.slc strEnc_len).get x hx 0 (.string (tg (x % n))) (by rw [told_get]; rfl)
              simp only [Nat.zero_add, Nat.mul_one, Nat.add_zero] at hc
              have hne : sameS (tg (x % n)) (tg (k % n)) = false := by
                rw [tg_same _ (by have := Nat.mod_lt x hn1; omega) _ (by omega)]
                have := mod_apart hn1 (show x < k by omega) (show k < x + n by omega)
                simpa using this
              unfold sameS at hne
              have htl' := Lib.hid htl
              clear htl hmq hR2 hO2 hT2 hB2 hap hx htm
              generalize tg (x % n) = t1 at *
              generalize tg (k % n) = t2 at *
              rw [← hxe] at hc
              clear hxe
              go_wp2_with fail
              go_round
              case rel => exact ⟨i - 1, by omega, by omega, rfl⟩
              case measure => simp [intOf]; omega
            · have hcs : (0 ≤ i ∧ i ≤ (k : Int) - n) ∨ i < 0 := by omega
              rcases hcs with ⟨h1, h2⟩ | h1
              all_goals (go_wp2_with (at_builtin; refine wpList_app1 rfl _ _ 26 9 rfl elem_str strEnc_len strEnc_one (.slice ta k tcap) (toldOf n k) rfl (hT2.alloc _) w2.heap.size 1 (tg (k % n)) rfl (fun j u hu => ((Blk.new w2 [.string (tg (k % n))] 9).cell j).trans hu) (by rw [htl]; omega) (by rw [htl]; unfold maxLen; omega) (by simp; omega) ?_; intro g' cap' w4 hown hgr hfr))
              all_goals
                rw [htl] at hown
                go_roundw
                case rel =>
                  have hne : ∀ j, u8.ownBlock = some j → some j ≠ (.slice ta k tcap : Value).ownBlock := fun j hj e => hap j hj e.symm
                  refine ⟨k + 1, by omega, by go_num, ?_, (hO2.alloc _).keep (fun j hj hl => hgr.block j hl (hne j hj)), by rw [told_succ]; exact hown, ?_, (hB2.alloc hB2s _).grown hgr (by simp; omega) (fun j e => hT2.ge e)⟩
                  · refine (hR2.pure ((Below.refl _ _).alloc (Nat.le_refl _) _)).step (Upd.grown (S := fun j => (.slice ta k tcap : Value).ownBlock = some j) hgr (fun j e => e)) (fun j hj _ => .inr (.inr hj)) ?_
                    rintro j (hj | hj | hj) hl
                    · exact .inl hj
                    · exact .inr (.inl hj)
                    · simp only [Value.ownBlock, Option.some.injEq] at hj
                      subst hj
                      rcases hfr with h | h
                      · exact .inr (.inr h)
                      · omega
                  · intro j hj e
                    simp only [Value.ownBlock, Option.some.injEq] at e
                    subst e
                    rcases hfr with h | h
                    · exact hap _ hj h
                    · have := hO2.lt hj; simp at h; omega
                case measure => simp [intOf]; omega
        · go_wp2_with (go_at_call 7; refine (head_any _).mono ?_; rintro e w2 ⟨rfl, hB2⟩)
          go_ret
          exact ⟨rfl, hB.trans (hB2.mono hB.size)⟩
#print axioms fair_any
end Go.Proofs.Ytelebabegbkdnaa
