/- The law CreditSpends, walked: it returns true whatever row of numbers it is given, and nothing that was there has changed. Conditions: the argument reads as a row of bytes. -/
import Derived.Test.YtelebabegbkdnaaCreditSpendsLaw
import Derived.Test.YtelebabegbkdnaaCreditFairWalk
import Derived.Test.YtelebabegbkdnaaOpen
namespace Go.Proofs.Ytelebabegbkdnaa
open Go.RowKit

theorem info_int : (Try.prog.info? 3).map (fun i => (i.zero, i.size, i.bytes)) = some (some (.int .i64 0), 1, 8) := by kernel_rfl
theorem elem_int : ElemZ Try.prog 31 3 1 8 (intEnc .i64 0) := ElemZ.mk' Try.underlying31 info_int rfl (by omega) rfl

set_option maxRecDepth 100000 in
set_option maxHeartbeats 400000 in
theorem spends_great (w : World) (v : Value) (G : List Int) (hG : Slc (intEnc .u8) 1 w v G) (h10 : 10 < G.length) :
    Calls Try.prog 3 #[v] w fun e w' => e = .returned (.bool true) ∧ Below w.heap.size w w' := by
  obtain ⟨a, cap, rfl, hm⟩ := hG.len
  clear hG
  go_enter Try.func3, Try.ntmps3
  go_wp2_with (go_at_call 7; refine (head_any _).mono ?_; rintro e w2 ⟨rfl, hB2⟩)
  go_ret
  exact ⟨rfl, hB2⟩

/-- The credits that a row of bytes gives. -/
def credOf (G : List Int) : List Int := G.map (· % 10)
theorem cred_take (G : List Int) (k : Nat) (h : k < G.length) : (credOf G).take (k + 1) = (credOf G).take k ++ [G[k] % 10] := by
  rw [List.take_succ_eq_append_getElem (by simpa [credOf] using h)]
  simp [credOf]

set_option maxRecDepth 100000 in
set_option maxHeartbeats 4000000 in
theorem spends_small (w : World) (v : Value) (G : List Int) (hG : Slc (intEnc .u8) 1 w v G) (h10 : G.length ≤ 10) (hb : ∀ n ∈ G, 0 ≤ n ∧ n ≤ 255) :
    Calls Try.prog 3 #[v] w fun e w' => e = .returned (.bool true) ∧ Below w.heap.size w w' := by
  obtain ⟨a, cap, rfl, hmx⟩ := hG.len
  have hcl : (credOf G).length = G.length := by simp [credOf]
  have hcb : ∀ c ∈ credOf G, 0 ≤ c ∧ c ≤ 9 := by
    intro c hc
    simp only [credOf, List.mem_map] at hc
    obtain ⟨n, hn, rfl⟩ := hc
    omega
  have hcl' := Lib.hid hcl; clear hcl
  go_enter Try.func3, Try.ntmps3
  go_wp2_with (go_at_call 8; refine (newX _).mono ?_; rintro e w1 ⟨rfl, hB1, hR1, hz1⟩)
  have hB1s := hB1.size
  go_loopw [5, 6, 7] (fun s5 s6 s7 wr => ∃ k : Nat, k ≤ G.length ∧ s7 = .int .i64 k ∧ s6 = .int .i64 (sumI ((credOf G).take k)) ∧ RndX (XF w.heap.size s5) wr w.heap.size (crs ((credOf G).take k)) 0 ∧ Own w.heap.size 9 1 strEnc wr s5 (mays k) ∧ Below w.heap.size w wr) (fun _ _ s7 _ => G.length - (intOf s7).toNat)
  case atStart => exact ⟨0, by omega, rfl, rfl, hR1.more (fun k hk _ => hk.elim id (fun h => by simp [Value.ownBlock] at h)), Own.nil, hB1⟩
  case round =>
    obtain ⟨k, hk, rfl, rfl, hR, hO, hB⟩ := hrel
    have hsum0 : 0 ≤ sumI ((credOf G).take k) := sumI_nonneg (fun c hc => (hcb c (List.mem_of_mem_take hc)).1)
    have hsum1 : sumI ((credOf G).take k) ≤ 90 := by
      have := sumI_le (l := (credOf G).take k) (m := 9) (fun c hc => (hcb c (List.mem_of_mem_take hc)).2)
      have h2 : ((credOf G).take k).length ≤ 10 := by have := hcl'.out; simp; omega
      omega
    by_cases hlt : k < G.length
    · obtain ⟨q1, q2, q3, q4, q5⟩ := full_facts k (by omega)
      have q1' := Lib.hid q1
      clear q1 q2 q3 q4 q5
      have hcr : ((credOf G).take k).length = k := by have := hcl'.out; simp; omega
      obtain ⟨g1, g2⟩ := find_crs (rem := (credOf G).take k) (by omega) 0
      rw [hcr] at g1 g2
      have hcr' := Lib.hid hcr; clear hcr
      have hg : ∃ x, x = G[k] := ⟨_, rfl⟩
      obtain ⟨x, hx⟩ := hg
      have hxb : 0 ≤ x ∧ x ≤ 255 := by rw [hx]; exact hb _ (List.getElem_mem hlt)
      have hcell := (hG.pure (hB.mono (Nat.le_refl _))).keep (w' := wr) (fun p hp _ => rfl)
      have hc0 : ∃ g off, a = some ⟨g, off, none⟩ ∧ wr.cell? ⟨g, off + k, none⟩ = some (.int .u8 x) := by
        rcases hcell with ⟨_, _, hv, _, h0⟩ | ⟨g, off, cap', hv, _, _, hc⟩
        · rw [h0] at hlt; simp at hlt
        · simp only [Value.slice.injEq] at hv
          refine ⟨g, off, hv.1, ?_⟩
          have := hc k hlt 0 (.int .u8 x) (by rw [hx]; rfl)
          simpa using this
      obtain ⟨g, off, rfl, hc0⟩ := hc0
      clear hcell
      have hx' := Lib.hid hx; clear hx
      obtain ⟨x0, x1⟩ := hxb
      have hXl : ∀ j, XF w.heap.size u5 j → j < wr.heap.size := by
        intro j hj
        rcases hj with hj | hj
        · have := hB.size; omega
        · exact hO.lt hj
      go_wp2_with fail
      refine (addX hR hXl (by have := q1'.out; change 0 < (tg k).size; omega) (by have := q1'.out; change (tg k).size ≤ 40; omega) g1 (by rw [crs_len]; have := hcr'.out; omega)).mono ?_
      rintro e w2 ⟨rfl, hR2, hK2⟩
      have hO2 := hO.upd hK2 (fun j hj h => h (.inr hj))
      have hB2 : Below w.heap.size w w2 := hB.trans (hK2.below hB.size (fun j hj => Nat.le_of_not_lt (fun h => hj (.inl h))))
      clear hR hO hB hK2 hXl hc0
      go_wp2_with fail
      have hil : k < (crs ((credOf G).take k) ++ [(tg k, 0)]).length := by rw [List.length_append, crs_len, hcr'.out]; simp
      have hik : (crs ((credOf G).take k) ++ [(tg k, 0)])[k] = (tg k, 0) := by
        rw [List.getElem_append_right (by rw [crs_len]; have := hcr'.out; omega)]; simp
      refine (giveX (n := x % 10) hR2 hil g2 (by rw [hik]; exact Int.le_refl 0) (by rw [hik]; exact (by decide : (0 : Int) ≤ 4294967295)) (by omega) (by omega)).mono ?_
      rintro e w3 ⟨rfl, hR3, hK3⟩
      rw [hik] at hR3
      have hgv : gave 0 (x % 10) = x % 10 := by unfold gave; rw [if_neg (by omega)]; omega
      have hst : (crs ((credOf G).take k) ++ [(tg k, 0)]).set k (tg k, gave 0 (x % 10)) = crs ((credOf G).take (k + 1)) := by
        rw [cred_take G k hlt, crs_snoc, hgv, hcr'.out, List.set_append_right _ _ (by rw [crs_len, hcr'.out]; exact Nat.le_refl _), crs_len, hcr'.out, hx'.out]; simp
      have hR3 : RndX (XF w.heap.size u5) w3 w.heap.size (crs ((credOf G).take (k + 1))) 0 := by rw [← hst]; exact hR3
      have hO3 := hO2.upd hK3 (fun j hj h => h (.inr hj))
      have hB3 : Below w.heap.size w w3 := hB2.trans (hK3.below hB2.size (fun j hj => Nat.le_of_not_lt (fun h => hj (.inl h))))
      clear hR2 hO2 hB2 hK3 hik hst hgv g1 g2
      have hB3s := hB3.size
      go_wp2_with (at_builtin; refine wpList_app1 rfl _ _ 26 9 rfl elem_str strEnc_len strEnc_one u5 (mays k) rfl (hO3.alloc _) w3.heap.size 1 (tg k) rfl (fun j u hu => ((Blk.new w3 [.string (tg k)] 9).cell j).trans hu) (by simp [mays]; omega) (by unfold maxLen; simp [mays]; omega) (by simp; omega) ?_; intro g' cap' w4 hown hgr hfr)
      go_roundw
      case rel =>
        refine ⟨k + 1, by omega, by go_num, ?_, ?_, by rw [mays_succ]; exact hown, (hB3.alloc hB3s _).grown hgr (by simp; omega) (fun j e => hO3.ge e)⟩
        · rw [cred_take G k hlt, sumI_append, ← hx'.out]
          show _ = Value.int .i64 (sumI ((credOf G).take k) + (x % 10 + 0))
          rw [Int.add_zero]
        refine (hR3.pure ((Below.refl _ _).alloc (Nat.le_refl _) _)).step (Upd.grown (S := fun j => u5.ownBlock = some j) hgr (fun j e => e)) (fun j hj _ => .inr hj) ?_
        rintro j (hj | hj) hl
        · exact .inl hj
        · simp only [Value.ownBlock, Option.some.injEq] at hj
          subst hj
          rcases hfr with h | h
          · exact .inr h
          · omega
      case measure => simp [intOf]; omega
    · obtain rfl : k = G.length := by omega
      have htk : (credOf G).take G.length = credOf G := by rw [← hcl'.out, List.take_length]
      rw [htk] at hR hsum0 hsum1
      rw [htk]
      clear htk
      obtain ⟨wo, rfl⟩ : ∃ wo : World, wo = wr := ⟨_, rfl⟩
      have hBs := hB.size
      obtain ⟨N, hN⟩ : ∃ N : Nat, (N : Int) = sumI (credOf G) := ⟨(sumI (credOf G)).toNat, by omega⟩
      have hN' := Lib.hid hN
      rw [← hN]
      clear hN
      go_wp2_with (at_make; refine wpList_mk rfl _ _ 31 3 rfl 0 elem_int (intEnc_len .i64) .i64 .i64 _ _ G.length rfl rfl rfl rfl (by omega) hmx hBs ?_; intro w3 hS3 hg3)
      have hR3 : RndX (XG w.heap.size u5 (.slice (some ⟨wo.heap.size, 0, none⟩) G.length G.length)) w3 w.heap.size (crs (credOf G)) 0 := by
        refine hR.step (Upd.grown (S := fun _ => False) hg3 (fun k e => by cases e)) (fun j hj _ => hj.elim) ?_
        rintro j (hj | hj | hj) hl
        · exact .inl hj
        · exact .inr hj
        · simp only [Value.ownBlock, Option.some.injEq] at hj; omega
      have hO3 := hO.keep (fun j hj hl => hg3.block j hl (by simp)) (w' := w3)
      have hB3 : Below w.heap.size w w3 := hB.grown hg3 hBs (fun k e => by cases e)
      have hz3 : wo.heap.size < w3.heap.size := hS3.lt rfl
      have hap3 : ∀ j, u5.ownBlock = some j → j ≠ wo.heap.size := fun j hj e => by have := hO.lt hj; omega
      have hS3' : Own w.heap.size 3 1 (intEnc .i64) w3 (.slice (some ⟨wo.heap.size, 0, none⟩) G.length G.length) (srv (credOf G) (credOf G)) := by
        rw [srv_self, hcl'.out]; exact hS3
      clear hR hO hB hS3 hg3 hB1 hR1 hz1
      go_wp2_with fail
      go_loopw [11] (fun s11 wr => ∃ (k : Nat) (rem : List Int) (nx : Nat), k ≤ N ∧ s11 = .int .i64 k ∧ rem.length = G.length ∧ nx ≤ G.length ∧ (∀ c ∈ rem, 0 ≤ c ∧ c ≤ 9) ∧ sumI rem = (N : Int) - k ∧
        RndX (XG w.heap.size u5 (.slice (some ⟨wo.heap.size, 0, none⟩) G.length G.length)) wr w.heap.size (crs rem) nx ∧ Own w.heap.size 9 1 strEnc wr u5 (mays G.length) ∧
        Own w.heap.size 3 1 (intEnc .i64) wr (.slice (some ⟨wo.heap.size, 0, none⟩) G.length G.length) (srv (credOf G) rem) ∧ Below w.heap.size w wr) (fun s11 _ => N - (intOf s11).toNat)
      case atStart => exact ⟨0, credOf G, 0, by omega, rfl, hcl'.out, by omega, hcb, by have := hN'.out; omega, hR3, hO3, hS3', hB3⟩
      case round =>
        clear hR3 hO3 hS3' hB3
        obtain ⟨k, rem, nx, hk, rfl, hrl, hnx, hrb, hrs, hR, hO, hS, hB⟩ := hrel
        have hrl' := Lib.hid hrl; clear hrl
        have hrs' := Lib.hid hrs; clear hrs
        by_cases hlt : k < N
        · obtain ⟨i0, hi0, hi1⟩ := sumI_pos (fun c hc => (hrb c hc).1) (by rw [hrs'.out]; omega)
          obtain ⟨j, htj, hpj⟩ := turn_crs_some (nx := nx) (by rw [hrl'.out]; exact h10) hi0 hi1
          have hjn : j.1 < G.length := by have h1 := j.2; have h2 := crs_len rem; have h3 := hrl'.out; omega
          rw [hrl'.out] at htj
          have hj9 : rem.getD j.1 0 ≤ 9 := by
            have h1 : j.1 < rem.length := by rw [hrl'.out]; exact hjn
            have := (hrb _ (List.getElem_mem h1)).2
            simpa [List.getD_eq_getElem?_getD, List.getElem?_eq_getElem h1] using this
          have htr := turnX_some (may := mays G.length) (mv := u5) hR (hO.slc strEnc_len) (by rw [crs_len, hrl'.out]; exact hnx) (by rw [crs_len, hrl'.out]; omega) (crs_ok hrb) htj
          have hLj : (crs rem)[j.1]'j.2 = (tg j.1, rem.getD j.1 0) := crs_get rem j.1 j.2
          obtain ⟨b, hb1, hb2⟩ := tg_one (i := j.1) (by omega)
          have htr' : Calls Try.prog 11 #[.pointer (some ⟨w.heap.size, 0, none⟩), u5] wr fun e w' => e = .returned (.tuple #[.string ⟨#[b]⟩, .bool true]) ∧
              RndX (XG w.heap.size u5 (.slice (some ⟨wo.heap.size, 0, none⟩) G.length G.length)) w' w.heap.size (crs (rem.set j.1 (rem.getD j.1 0 - 1))) (j.1 + 1) ∧ Kept (XG w.heap.size u5 (.slice (some ⟨wo.heap.size, 0, none⟩) G.length G.length)) wr w' := by
            refine htr.mono ?_
            rintro e w' ⟨h1, h2, h3⟩
            refine ⟨by rw [h1]; show Ending.returned (.tuple #[.string ((crs rem)[j.1]'j.2).1, .bool true]) = _; rw [hLj, hb1], ?_, h3⟩
            have h2' : RndX (XG w.heap.size u5 (.slice (some ⟨wo.heap.size, 0, none⟩) G.length G.length)) w' w.heap.size ((crs rem).set j.1 (((crs rem)[j.1]'j.2).1, spent ((crs rem)[j.1]'j.2).2)) (j.1 + 1) := h2
            rw [hLj] at h2'
            have hsp : spent (rem.getD j.1 0) = rem.getD j.1 0 - 1 := by unfold spent; rw [if_neg (by omega)]
            rw [show (tg j.1, rem.getD j.1 0).2 = rem.getD j.1 0 from rfl, hsp, crs_set rem j.1 _ (by rw [hrl'.out]; exact hjn)] at h2'
            exact h2'
          have hset := srv_set (credOf G) rem j.1 (by rw [hcl'.out]; exact hjn) (by rw [hcl'.out, hrl'.out])
          have hsum := sumI_set (l := rem) (i := j.1) (by rw [hrl'.out]; exact hjn) (rem.getD j.1 0 - 1)
          have hset' := Lib.hid hset
          have hsum' := Lib.hid hsum
          have htr'' := Lib.hid htr'
          obtain ⟨jj, hjj⟩ : ∃ jj : Nat, j.1 = jj := ⟨_, rfl⟩
          rw [hjj] at hb2 hjn hset' hsum' htr'' hpj hj9
          clear htr htr' hset hsum hLj htj hi0 hi1 hb1 hjj j
          go_wp2_with fail
          refine htr''.out.mono ?_
          rintro e w4 ⟨rfl, hR4, hK4⟩
          have hO4 := hO.upd hK4 (fun j hj h => h (.inr (.inl hj)))
          have hS4 := hS.upd hK4 (fun j hj h => h (.inr (.inr hj)))
          have hB4 : Below w.heap.size w w4 := hB.trans (hK4.below hB.size (fun j hj => Nat.le_of_not_lt (fun h => hj (.inl h))))
          have hcs : w4.cell? ⟨wo.heap.size, jj, none⟩ = some (.int .i64 ((credOf G).getD jj 0 - rem.getD jj 0)) := by
            have := hS4.cell (intEnc_len .i64) jj (by rw [srv_len, hcl'.out]; exact hjn) 0 (.int .i64 ((credOf G).getD jj 0 - rem.getD jj 0)) (by rw [srv_get]; rfl)
            simpa using this
          have hfs := hS4.frozen jj
          obtain ⟨cv, hcv⟩ : ∃ cv, (credOf G).getD jj 0 - rem.getD jj 0 = cv := ⟨_, rfl⟩
          have hcv0 : -9 ≤ cv ∧ cv ≤ 9 := by
            have h1 : jj < (credOf G).length := by rw [hcl'.out]; exact hjn
            have := hcb _ (List.getElem_mem h1)
            have h2 : (credOf G).getD jj 0 = (credOf G)[jj] := by rw [List.getD_eq_getElem?_getD, List.getElem?_eq_getElem h1]; rfl
            omega
          obtain ⟨hcv1, hcv2⟩ := hcv0
          have hNb : N ≤ 90 := by have := hN'.out; omega
          rw [hcv] at hcs
          have hcv' := Lib.hid hcv; clear hcv
          have hb3 : (((⟨#[b]⟩ : ByteArray)[0]'(Nat.lt_add_one 0)).toNat : Int) = 97 + jj := hb2
          clear hR hO hS hB hK4 htr''
          go_wp2_with fail
          go_roundw
          case rel =>
            have hne : ∀ b, u5.ownBlock = some b → b ≠ wo.heap.size := hap3
            refine ⟨k + 1, rem.set jj (rem.getD jj 0 - 1), jj + 1, by omega, by go_num, by rw [List.length_set]; exact hrl'.out, by omega, ?_, by rw [hsum'.out, hrs'.out]; simp only [Int.natCast_add]; omega, ?_, hO4.other _ _ hne, ?_, hB4.setCell (p := ⟨wo.heap.size, jj, none⟩) hBs _⟩
            · intro c hc
              rcases List.mem_or_eq_of_mem_set hc with h | h
              · exact hrb c h
              · subst h; omega
            · exact hR4.upd (Upd.set (S := (· = wo.heap.size)) (p := ⟨wo.heap.size, jj, none⟩) rfl _) (fun j hj _ => by subst hj; exact .inr (.inr rfl))
            · have := hS4.set (intEnc_len .i64) jj (by rw [srv_len, hcl'.out]; exact hjn) 0 (.int .i64 (cv + 1)) (cv + 1) (by omega) rfl
              rw [← hset'.out, hcv'.out]
              simpa using this
          case measure => simp [intOf]; omega
        · obtain rfl : k = N := by omega
          have hrz : ∀ i, i < rem.length → rem.getD i 0 = 0 := sumI_zero (fun c hc => (hrb c hc).1) (by rw [hrs'.out]; omega)
          obtain ⟨wp, rfl⟩ : ∃ wp : World, wp = wr := ⟨_, rfl⟩
          have hB5s := hB.size
          go_wp2_with fail
          go_loopw [14] (fun s14 wr => ∃ i : Nat, i ≤ G.length ∧ s14 = .int .i64 i ∧ Below wp.heap.size wp wr) (fun s14 _ => G.length - (intOf s14).toNat)
          case atStart => exact ⟨0, by omega, rfl, Below.refl _ _⟩
          case round =>
            obtain ⟨i, hi, rfl, hBr⟩ := hrel
            by_cases hlt : i < G.length
            · have hS6 := hS.pure hBr
              have hc1 : wr.cell? ⟨wo.heap.size, i, none⟩ = some (.int .i64 (G[i] % 10)) := by
                have h1 : i < (credOf G).length := by rw [hcl'.out]; exact hlt
                have := hS6.cell (intEnc_len .i64) i (by rw [srv_len]; exact h1) 0 (.int .i64 (G[i] % 10)) (by
                  rw [srv_get, hrz i (by rw [hrl'.out]; exact hlt)]
                  have h2 : (credOf G).getD i 0 = G[i] % 10 := by rw [List.getD_eq_getElem?_getD, List.getElem?_eq_getElem h1]; simp [credOf]
                  rw [h2, Int.sub_zero]; rfl)
                simpa using this
              have hG6 := hG.pure (hB.trans (hBr.mono hB5s))
              have hc2 : ∃ g off, a = some ⟨g, off, none⟩ ∧ wr.cell? ⟨g, off + i, none⟩ = some (.int .u8 G[i]) := by
                rcases hG6 with ⟨_, _, hv, _, h0⟩ | ⟨g, off, cap', hv, _, _, hc⟩
                · rw [h0] at hlt; simp at hlt
                · simp only [Value.slice.injEq] at hv
                  refine ⟨g, off, hv.1, ?_⟩
                  have := hc i hlt 0 (.int .u8 G[i]) rfl
                  simpa using this
              obtain ⟨g, off, rfl, hc2⟩ := hc2
              have hx01 := hb _ (List.getElem_mem hlt)
              obtain ⟨x, hx⟩ : ∃ x, G[i] = x := ⟨_, rfl⟩
              rw [hx] at hc1 hc2 hx01
              clear hx hG6 hS6
              obtain ⟨x0, x1⟩ := hx01
              have htm : x.tmod 10 = x % 10 := Int.tmod_eq_emod_of_nonneg x0
              go_wp2_with fail
              go_quiet (fail)
              go_wp2_with fail
              go_roundw
              case rel => exact ⟨i + 1, by omega, by go_num, below_drewN hBr _⟩
              case measure => simp [intOf]; omega
            · have hR6 := hR.pure hBr
              have hO6 := hO.pure hBr
              have htn := turn_crs_none (rem := rem) (nx := nx) (by rw [hrl'.out]; exact h10) (fun i hi => by rw [hrz i hi]; exact Int.le_refl 0)
              rw [hrl'.out] at htn
              have htr := turnX_none (may := mays G.length) (mv := u5) hR6 (hO6.slc strEnc_len) (by rw [crs_len, hrl'.out]; exact hnx) (by rw [crs_len, hrl'.out]; omega) (crs_ok hrb) htn
              have hB6 := hB.trans (hBr.mono hB5s)
              clear htn hR6 hO6 hrz hR hO hS hB hBr
              have htr' := Lib.hid htr; clear htr
              go_wp2_with fail
              refine htr'.out.mono ?_
              rintro e w7 ⟨rfl, hB7⟩
              go_wp2_with (go_at_call 7; refine (head_any _).mono ?_; rintro e w8 ⟨rfl, hB8⟩)
              go_ret
              exact ⟨rfl, (hB6.trans (hB7.mono hB6.size)).trans (hB8.mono (Nat.le_trans hB6.size hB7.size))⟩
#print axioms spends_small

open Go.ChangeShapes Go.WideShapes Go.ChangeAt in
theorem spends_args {H : Type} (enc : TypeId × Value → H) (W : World) {base : Nat} (v0 : Value) (d0 : DataW H) (p0 : List MemPlace)
    (h0 : DataW.Trod enc Try.prog W 0 (fun _ => true) true 22 v0 d0 p0)
    (k0 : Value.okWide Try.prog W .any base 22 v0) {S : Prop} (_ : S) :
    Calls Try.prog 3 #[v0] W fun e w' => e = .returned (.bool true) ∧ Below W.heap.size W w' := by
  obtain ⟨a, len, cap, rfl⟩ := okWide_slice Try.underlying22 k0
  obtain ⟨G, hG, hw⟩ := open_slc_ints Try.underlying22 Try.underlying5 (by kernel_rfl) ⟨_, _, _, rfl⟩ h0
  by_cases h : 10 < G.length
  · exact spends_great W _ G hG h
  · exact spends_small W _ G hG (by omega) (fun n hn => bounds_u8 (hw n hn))

end Go.Proofs.Ytelebabegbkdnaa
