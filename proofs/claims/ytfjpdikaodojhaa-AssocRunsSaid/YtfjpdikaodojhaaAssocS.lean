/- Document's side of chapter 18: Leave, Clear, Resume, Suspend, End. Conditions: at most a million. Written by gen_rturns.py. -/
import Derived.Test.YtfjpdikaodojhaaAssocR
namespace Go.Proofs.Ytfjpdikaodojhaa
open Go.RowKit
set_option linter.unusedVariables false

theorem fnd_no {L : List Asc} {s : Int} {x : Xid} {i : Int} (h : FndA L s x i) (hm : ¬ Mem L s x) : i = -1 := by
  rcases h with ⟨_, h⟩ | ⟨k, hk, he, _⟩
  · exact h
  · exact absurd ⟨k, hk, he⟩ hm
theorem fnd_yes {L : List Asc} (hr : Rises L) {s : Int} {x : Xid} {i : Int} {k : Nat} (h : FndA L s x i) (hk : k < L.length) (he : keyA L[k] = (s, x)) : i = k := by
  rcases h with ⟨hn, _⟩ | ⟨j, hj, hje, h⟩
  · exact absurd ⟨k, hk, he⟩ hn
  · rw [h, same_idx hr hj hk (hje.trans he.symm)]
theorem rfind_no (w : World) (v : Value) (L : List Asc) (s : Int) (y : Xid) (hs : Slc ascEnc 5 w v L) (hL : L.length ≤ 1000000) (hn : ¬ Mem L s y) :
    Calls Try.prog 12 #[v, .int .u64 s, .agg #[.int .u32 y.1, .string y.2.1, .string y.2.2]] w fun e w' => e = .returned (.int .i64 (-1)) ∧ Below w.heap.size w w' := by
  refine (find_any w v L s y hs hL).mono ?_
  rintro e w' ⟨⟨i, rfl, hf⟩, hB⟩
  rw [fnd_no hf hn]; exact ⟨rfl, hB⟩
theorem rfind_yes (w : World) (v : Value) (L : List Asc) (s : Int) (y : Xid) (k : Nat) (hs : Slc ascEnc 5 w v L) (hr : Rises L) (hL : L.length ≤ 1000000) (hk : k < L.length) (he : keyA L[k] = (s, y)) :
    Calls Try.prog 12 #[v, .int .u64 s, .agg #[.int .u32 y.1, .string y.2.1, .string y.2.2]] w fun e w' => e = .returned (.int .i64 k) ∧ Below w.heap.size w w' := by
  refine (find_any w v L s y hs hL).mono ?_
  rintro e w' ⟨⟨i, rfl, hf⟩, hB⟩
  rw [fnd_yes hr hf hk he]; exact ⟨rfl, hB⟩

theorem asc_eta (x : Asc) : ascEnc x = [.int .u64 x.1, .int .u32 x.2.1.1, .string x.2.1.2.1, .string x.2.1.2.2, .bool x.2.2] := rfl


set_option maxRecDepth 100000 in
set_option maxHeartbeats 1600000 in
theorem rleave_any (w : World) (v : Value) (L : List Asc) (s : Int) (hs : Slc ascEnc 5 w v L) (hL : L.length ≤ 1000000) :
    Calls Try.prog 19 #[v, .int .u64 s] w fun e w' => ∃ r, e = .returned (.tuple #[r, .int .i64 (mayN L s (0, ⟨#[120]⟩, ⟨#[]⟩))]) ∧ Own w.heap.size 37 5 ascEnc w' r (if mayN L s (0, ⟨#[120]⟩, ⟨#[]⟩) = 0 then L.filter (fun a => a.1 != s) else []) ∧ Below w.heap.size w w' := by
  have hm := rmay_any w v L s (0, ⟨#[120]⟩, ⟨#[]⟩) hs hL
  obtain ⟨c, hc⟩ : ∃ c, c = mayN L s (0, ⟨#[120]⟩, ⟨#[]⟩) := ⟨_, rfl⟩
  rw [← hc] at hm ⊢
  clear hc
  have hm' := Lib.hid hm; clear hm
  by_cases hz : c = 0
  · subst hz
    obtain ⟨a, cap, rfl, hmx⟩ := hs.len
    unfold maxLen at hmx
    go_enter Try.func19, Try.ntmps19
    go_wp2_with (go_at_call 41; refine hm'.out.mono ?_; rintro e w1 ⟨rfl, hB1⟩)
    go_loopw [7, 8] (fun s7 s8 wr => ∃ k : Nat, k ≤ L.length ∧ s8 = .int .i64 k ∧ Own w.heap.size 37 5 ascEnc wr s7 ((L.take k).filter (fun a => a.1 != s)) ∧ Below w.heap.size w wr) (fun _ s8 _ => L.length - (intOf s8).toNat)
    case atStart => exact ⟨0, by omega, rfl, Own.nil, hB1⟩
    case round =>
      obtain ⟨k, hk, rfl, hO, hB⟩ := hrel
      have hBs := hB.size
      by_cases hlt : k < L.length
      · have hsr := hs.pure hB
        obtain ⟨g, off, rfl⟩ := hsr.addr hlt
        obtain ⟨c0, c1, c2, c3, c4⟩ := asc_cells hsr hlt
        have hll : ((L.take k).filter (fun a => a.1 != s)).length ≤ k := Nat.le_trans (List.length_filter_le _ _) (by rw [List.length_take]; omega)
        have hkeq := Lib.hid (filter_snoc (p := fun a => a.1 != s) hlt)
        cases hq : (L[k].1 != s)
        · have hnew := Lib.hid (show (L.take (k + 1)).filter (fun a => a.1 != s) = (L.take k).filter (fun a => a.1 != s) by rw [hkeq.out, hq]; simp)
          go_wp2
          go_roundw
          case rel => exact ⟨k + 1, by omega, by go_num, by rw [hnew.out]; exact hO, hB⟩
          case measure => simp [intOf]; omega
        · have hnew := Lib.hid (show (L.take (k + 1)).filter (fun a => a.1 != s) = (L.take k).filter (fun a => a.1 != s) ++ [L[k]] by rw [hkeq.out, hq]; simp)
          go_wp2_with (at_builtin; refine wpList_app1 rfl (.tmp 29) (.tmp 34) 22 37 rfl elem_asc ascEnc_len ascEnc_one u7 _ rfl (hO.alloc _) wr.heap.size 1 L[k] rfl (fun j u hu => ((Blk.new wr (ascEnc L[k]) 37).cell j).trans hu) (by omega) (by unfold maxLen; omega) (by simp; omega) ?_; intro g' cap' w4 hown hgr hfr)
          go_roundw
          case rel => exact ⟨k + 1, by omega, by go_num, by rw [hnew.out]; exact hown, (hB.alloc hBs _).grown hgr (by simp; omega) (fun j e => hO.ge e)⟩
          case measure => simp [intOf]; omega
      · obtain rfl : k = L.length := by omega
        rw [List.take_length] at hO
        go_wp2
        go_ret2
        exact ⟨_, rfl, by simp only [if_true]; exact hO, hB⟩
  · have hzb : (c != 0) = true := bne_iff_ne.2 hz
    rw [if_neg hz]
    obtain ⟨a, n, cap, rfl⟩ := hs.shape3
    clear hs hz
    go_enter Try.func19, Try.ntmps19
    go_wp2_with (go_at_call 41; refine hm'.out.mono ?_; rintro e w1 ⟨rfl, hB1⟩)
    go_ret2
    exact ⟨_, rfl, Own.nil, hB1⟩


set_option maxRecDepth 100000 in
set_option maxHeartbeats 1600000 in
theorem rclear_any (w : World) (v : Value) (L : List Asc) (y : Xid) (hs : Slc ascEnc 5 w v L) (hL : L.length ≤ 1000000) :
    Calls Try.prog 21 #[v, .agg #[.int .u32 y.1, .string y.2.1, .string y.2.2]] w fun e w' => ∃ r, e = .returned (.tuple #[r, .int .i64 (mayN L 1 y)]) ∧ Own w.heap.size 37 5 ascEnc w' r (if mayN L 1 y = 0 then L.filter (fun a => a.2.1 != y) else []) ∧ Below w.heap.size w w' := by
  obtain ⟨yf, yg, yb⟩ := y
  simp only
  have hB0 := (Below.refl w.heap.size w).alloc (Nat.le_refl _) (.cells #[.int .u32 yf, .string yg, .string yb] 26)
  have b0 := Blk.new w [.int .u32 yf, .string yg, .string yb] 26
  have hm := rmay_any (w.alloc (.cells #[.int .u32 yf, .string yg, .string yb] 26)) v L 1 (yf, yg, yb) (hs.pure hB0) hL
  obtain ⟨c, hc⟩ : ∃ c, c = mayN L 1 (yf, yg, yb) := ⟨_, rfl⟩
  rw [← hc] at hm ⊢
  clear hc
  have hm' := Lib.hid hm; clear hm
  by_cases hz : c = 0
  · subst hz
    obtain ⟨a, cap, rfl, hmx⟩ := hs.len
    unfold maxLen at hmx
    go_enter Try.func21, Try.ntmps21
    go_wp2_with (go_at_call 41; refine hm'.out.mono ?_; rintro e w1 ⟨rfl, hB1⟩; have hB1t := hB0.trans (hB1.mono (by simp)); have b1 := b0.pure hB1; have d0 := b1.at 0 rfl; have d1 := b1.at 1 rfl; have d2 := b1.at 2 rfl)
    clear d0 d1 d2
    go_loopw [7, 8] (fun s7 s8 wr => ∃ k : Nat, k ≤ L.length ∧ s8 = .int .i64 k ∧ Own w.heap.size 37 5 ascEnc wr s7 ((L.take k).filter (fun a => a.2.1 != (yf, yg, yb))) ∧ Below w.heap.size w wr ∧ Blk wr w.heap.size [.int .u32 yf, .string yg, .string yb] ∧ ∀ j, s7.ownBlock = some j → w.heap.size < j) (fun _ s8 _ => L.length - (intOf s8).toNat)
    case atStart => exact ⟨0, by omega, rfl, Own.nil, hB1t, b1, fun j e => by simp [Value.ownBlock] at e⟩
    case round =>
      clear b1
      obtain ⟨k, hk, rfl, hO, hB, b1, hj⟩ := hrel
      have hj' := Lib.hid hj; clear hj
      have hBs := hB.size
      by_cases hlt : k < L.length
      · have hsr := hs.pure hB
        obtain ⟨g, off, rfl⟩ := hsr.addr hlt
        obtain ⟨c0, c1, c2, c3, c4⟩ := asc_cells hsr hlt
        have d0 := b1.at 0 rfl; have d1 := b1.at 1 rfl; have d2 := b1.at 2 rfl
        have hll : ((L.take k).filter (fun a => a.2.1 != (yf, yg, yb))).length ≤ k := Nat.le_trans (List.length_filter_le _ _) (by rw [List.length_take]; omega)
        have hkeq := Lib.hid (filter_snoc (p := fun a => a.2.1 != (yf, yg, yb)) hlt)
        have qE := fun (u : World) => xid_neq u L[k].2.1.1 yf L[k].2.1.2.1 L[k].2.1.2.2 yg yb
        have hb1l := b1.lt
        obtain ⟨q, hq⟩ : ∃ q, ((L[k].2.1.1, L[k].2.1.2.1, L[k].2.1.2.2) != (yf, yg, yb)) = q := ⟨_, rfl⟩
        simp only [hq] at qE
        have hq2 : (L[k].2.1 != (yf, yg, yb)) = q := hq
        have hq' := Lib.hid hq2; clear hq2 hq
        cases q
        · have hnew := Lib.hid (show (L.take (k + 1)).filter (fun a => a.2.1 != (yf, yg, yb)) = (L.take k).filter (fun a => a.2.1 != (yf, yg, yb)) by rw [hkeq.out, hq'.out]; simp)
          go_wp2
          go_quiet (fail)
          go_wp2
          go_roundw
          case rel => exact ⟨k + 1, by omega, by go_num, by rw [hnew.out]; exact hO, below_drewN hB _, b1, hj'.out⟩
          case measure => simp [intOf]; omega
        · have hnew := Lib.hid (show (L.take (k + 1)).filter (fun a => a.2.1 != (yf, yg, yb)) = (L.take k).filter (fun a => a.2.1 != (yf, yg, yb)) ++ [L[k]] by rw [hkeq.out, hq'.out]; simp)
          go_wp2
          go_quiet (fail)
          go_wp2_with (at_builtin; refine wpList_app1 rfl (.tmp 28) (.tmp 33) 22 37 rfl elem_asc ascEnc_len ascEnc_one u7 _ rfl ((hO.pure (below_drewN (Below.refl _ _) _)).alloc _) wr.heap.size 1 L[k] rfl (fun j u hu => ((Blk.new _ (ascEnc L[k]) 37).cell j).trans hu) (by omega) (by unfold maxLen; omega) (by simp; omega) ?_; intro g' cap' w4 hown hgr hfr)
          go_roundw
          case rel => exact ⟨k + 1, by omega, by go_num, by rw [hnew.out]; exact hown, ((below_drewN hB _).alloc hBs _).grown hgr (by simp; omega) (fun j e => hO.ge e), ((b1.pure (below_drewN (Below.refl _ _) _)).alloc (.cells (ascEnc L[k]).toArray 37)).keep (hgr.block _ (by simp; omega) (fun e => Nat.lt_irrefl _ (hj'.out _ e.symm))), fun j e => by
            simp only [Value.ownBlock, Option.map, Option.some.injEq] at e
            rcases hfr with h | h
            · rw [← e]; exact hj'.out _ h
            · rw [← e, h]; simp; omega⟩
          case measure => simp [intOf]; omega
      · obtain rfl : k = L.length := by omega
        rw [List.take_length] at hO
        go_wp2
        go_ret2
        exact ⟨_, rfl, by simp only [if_true]; exact hO, hB⟩
  · have hzb : (c != 0) = true := bne_iff_ne.2 hz
    rw [if_neg hz]
    obtain ⟨a, n, cap, rfl⟩ := hs.shape3
    clear hs hz
    go_enter Try.func21, Try.ntmps21
    go_wp2_with (go_at_call 41; refine hm'.out.mono ?_; rintro e w1 ⟨rfl, hB1⟩; have hB1t := hB0.trans (hB1.mono (by simp)); have b1 := b0.pure hB1; have d0 := b1.at 0 rfl; have d1 := b1.at 1 rfl; have d2 := b1.at 2 rfl)
    go_ret2
    exact ⟨_, rfl, Own.nil, hB1t⟩

end Go.Proofs.Ytfjpdikaodojhaa
