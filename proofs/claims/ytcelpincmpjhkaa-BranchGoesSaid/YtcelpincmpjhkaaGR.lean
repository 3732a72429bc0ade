/- Document's side of chapter 18: Leave, Clear, Resume, Suspend, End. Conditions: at most a million. Written by gen_rturns.py. (Texts joined; the heads of the others stand below.) -/
import Derived.Test.YtcelpincmpjhkaaAssocQ

/- Document's side of chapter 18: may, Active, Leave, Clear, Count. Conditions: at most a million. -/
namespace Go.Proofs.Ytcelpincmpjhkaa
set_option linter.unusedSimpArgs false
set_option linter.unusedVariables false
open Go.RowKit

set_option maxHeartbeats 800000 in
theorem rmay_any (w : World) (v : Value) (L : List Asc) (s : Int) (x : Xid) (hs : Slc ascEnc 5 w v L) (hL : L.length ≤ 1000000) :
    Calls Try.prog 107 #[v, .int .u64 s, .agg #[.int .u32 x.1, .string x.2.1, .string x.2.2]] w fun e w' => e = .returned (.int .i64 (mayN L s x)) ∧ Below w.heap.size w w' := by
  obtain ⟨xf, xg, xb⟩ := x
  simp only
  have hB0 := (Below.refl w.heap.size w).alloc (Nat.le_refl _) (.cells #[.int .u32 xf, .string xg, .string xb] 28)
  have b0 := Blk.new w [.int .u32 xf, .string xg, .string xb] 28
  have hc := rcheck_any (w.alloc (.cells #[.int .u32 xf, .string xg, .string xb] 28)) v L (hs.pure hB0) hL
  unfold mayN
  rcases rowE_cases L with ⟨h1, h2⟩ | ⟨h1, h2⟩
  · rw [h2] at hc ⊢
    rw [if_neg (by simp)]
    by_cases hz : s = 0
    · rw [if_pos hz]
      have hzb : (s == 0) = true := by rw [hz]; rfl
      clear hz h2
      go_enter Try.func107, Try.ntmps107
      go_wp2_with (go_at_call 75; refine hc.mono ?_; clear hc; rintro e w1 ⟨rfl, hB1⟩)
      go_ret
      exact ⟨rfl, hB0.trans (hB1.mono (by simp))⟩
    · rw [if_neg hz]
      have hzb : (s == 0) = false := beq_eq_false_iff_ne.2 hz
      clear hz h2
      obtain ⟨cx, hcx⟩ : ∃ cx, (if XidOk (xf, xg, xb) then (0 : Int) else 40) = cx := ⟨_, rfl⟩
      rw [hcx]
      have hcx' := Lib.hid hcx; clear hcx
      go_enter Try.func107, Try.ntmps107
      go_wp2_with (first | (go_at_call 75; refine hc.mono ?_; clear hc; rintro e w1 ⟨rfl, hB1⟩; have b1 := b0.pure hB1; have c0 := b1.at 0 rfl; have c1 := b1.at 1 rfl; have c2 := b1.at 2 rfl) | (go_at_call 73; refine (rcheck4 _ (xf, xg, xb) _ hcx'.out).mono ?_; rintro e w2 ⟨rfl, hB2⟩))
      go_ret
      have hB3 := hB0.trans (hB1.mono (by simp))
      exact ⟨rfl, hB3.trans (hB2.mono hB3.size)⟩
  · rw [h2] at hc ⊢
    rw [if_pos (by simp)]
    clear h2
    go_enter Try.func107, Try.ntmps107
    go_wp2_with (go_at_call 75; refine hc.mono ?_; clear hc; rintro e w1 ⟨rfl, hB1⟩)
    go_ret
    exact ⟨rfl, hB0.trans (hB1.mono (by simp))⟩

theorem actA_none {L : List Asc} {s : Int} (h : rowE L = 0 → ∀ a ∈ L, (a.1 == s && !a.2.2) = false) : actA L s = none := by
  unfold actA
  by_cases hz : rowE L = 0
  · rw [if_pos hz, List.find?_eq_none.2 (fun a ha => by simpa using h hz a ha)]; rfl
  · rw [if_neg hz]

set_option maxRecDepth 100000 in
set_option maxHeartbeats 1600000 in
theorem ractive_any (w : World) (v : Value) (L : List Asc) (s : Int) (hs : Slc ascEnc 5 w v L) (hL : L.length ≤ 1000000) :
    Calls Try.prog 58 #[v, .int .u64 s] w fun e w' => e = .returned (.tuple #[.agg #[.int .u32 (optX (actA L s)).1, .string (optX (actA L s)).2.1, .string (optX (actA L s)).2.2], .bool (actA L s).isSome]) ∧ Below w.heap.size w w' := by
  obtain ⟨a, cap, rfl, hm⟩ := hs.len
  unfold maxLen at hm
  have hB0 := (Below.refl w.heap.size w).alloc (Nat.le_refl _) (.cells #[.int .u32 0, .string ⟨#[]⟩, .string ⟨#[]⟩] 28)
  have b0 := Blk.new w [.int .u32 0, .string ⟨#[]⟩, .string ⟨#[]⟩] 28
  have hck := Lib.hid (fun (w1 : World) (h : Below w.heap.size w w1) => rcheck_any w1 _ L (hs.pure h) hL)
  obtain ⟨r, hr⟩ : ∃ r, r = rowE L := ⟨_, rfl⟩
  rw [← hr] at hck
  have hr' := Lib.hid hr; clear hr
  go_enter Try.func58, Try.ntmps58
  go_wp2
  go_loopw [6] (fun s6 wr => ∃ k : Nat, k ≤ L.length ∧ s6 = .int .i64 k ∧ (∀ a ∈ L.take k, (a.1 == s && !a.2.2) = false) ∧ Below (w.heap.size + 1) (w.alloc (.cells #[.int .u32 0, .string ⟨#[]⟩, .string ⟨#[]⟩] 28)) wr) (fun s6 _ => L.length - (intOf s6).toNat)
  case atStart => exact ⟨0, by omega, rfl, by simp, Below.refl _ _⟩
  case round =>
    obtain ⟨k, hk, rfl, hN, hB⟩ := hrel
    have hN' := Lib.hid hN; clear hN
    have hBt := hB0.trans (hB.mono (by omega))
    have hBs := hBt.size
    have b2 := b0.below hB (by omega)
    by_cases hlt : k < L.length
    · have hsr := hs.pure hBt
      obtain ⟨g, off, rfl⟩ := hsr.addr hlt
      have hfa := Lib.hid (fun hp => find_at (p := fun a => a.1 == s && !a.2.2) hlt hN'.out hp)
      have hfn := Lib.hid (fun hp => find_none_take (p := fun a => a.1 == s && !a.2.2) hlt hN'.out hp)
      rcases rowE_cases L with ⟨h1, h2⟩ | ⟨h1, h2⟩
      · obtain rfl : r = 0 := by rw [hr'.out, h2]
        have h2' := Lib.hid h2; clear h2 h1
        obtain ⟨q, hq⟩ : ∃ q, (L[k].1 == s) = q := ⟨_, rfl⟩
        obtain ⟨z, hz⟩ : ∃ z, L[k].2.2 = z := ⟨_, rfl⟩
        rw [hq, hz] at hfa hfn
        cases q
        · have hN2 := Lib.hid (hfn.out rfl)
          go_wp2_with (go_at_call 75; refine (hck.out _ hBt).mono ?_; rintro e w1 ⟨rfl, hB1⟩; have hB1t := hB.trans (hB1.mono (Nat.le_trans (by simp) hB.size)); obtain ⟨c0, c1, c2, c3, c4⟩ := asc_cells (hsr.pure hB1) hlt)
          go_roundw
          case rel => exact ⟨k + 1, by omega, by go_num, hN2.out, hB1t⟩
          case measure => simp [intOf]; omega
        · cases z
          · have hF := Lib.hid (hfa.out rfl)
            go_wp2_with (go_at_call 75; refine (hck.out _ hBt).mono ?_; rintro e w1 ⟨rfl, hB1⟩; have hB1t := hBt.trans (hB1.mono hBs); obtain ⟨c0, c1, c2, c3, c4⟩ := asc_cells (hsr.pure hB1) hlt; rw [hz] at c4; have b3 := b2.pure hB1; have z0 := b3.frozen 0; have z1 := b3.frozen 1; have z2 := b3.frozen 2; have d0 := b3.at 0 rfl; have d1 := b3.at 1 rfl; have d2 := b3.at 2 rfl; clear hz)
            have hA : actA L s = some L[k].2.1 := by unfold actA; rw [if_pos h2'.out, hF.out]; rfl
            have b5 := ((b3.set 0 (.int .u32 L[k].2.1.1)).set 1 (.string L[k].2.1.2.1)).set 2 (.string L[k].2.1.2.2)
            have y0 := b5.cell 0; have y1 := b5.cell 1; have y2 := b5.cell 2
            simp only [List.set, List.getElem?_cons_zero, List.getElem?_cons_succ] at y0 y1 y2
            rw [hA]
            refine bodyPost_ret (v := .tuple #[.agg #[.int .u32 L[k].2.1.1, .string L[k].2.1.2.1, .string L[k].2.1.2.2], .bool true]) (by simp [results, Try.results58, go_sem, y0, y1, y2]) rfl ⟨rfl, ?_⟩
            exact below_set (below_set (below_set hB1t (Nat.le_refl _) _ _) (Nat.le_refl _) _ _) (Nat.le_refl _) _ _
          · have hN2 := Lib.hid (hfn.out rfl)
            go_wp2_with (go_at_call 75; refine (hck.out _ hBt).mono ?_; rintro e w1 ⟨rfl, hB1⟩; have hB1t := hB.trans (hB1.mono (Nat.le_trans (by simp) hB.size)); obtain ⟨c0, c1, c2, c3, c4⟩ := asc_cells (hsr.pure hB1) hlt; rw [hz] at c4; clear hz)
            go_roundw
            case rel => exact ⟨k + 1, by omega, by go_num, hN2.out, hB1t⟩
            case measure => simp [intOf]; omega
      · obtain rfl : r = 180 := by rw [hr'.out, h2]
        have hA := Lib.hid (actA_bad (L := L) (by rw [h2]; simp) s)
        clear h1 h2
        go_wp2_with (go_at_call 75; refine (hck.out _ hBt).mono ?_; rintro e w1 ⟨rfl, hB1⟩; have hB1t := hBt.trans (hB1.mono hBs); have b3 := b2.pure hB1; have z0 := b3.frozen 0; have z1 := b3.frozen 1; have z2 := b3.frozen 2; have d0 := b3.at 0 rfl; have d1 := b3.at 1 rfl; have d2 := b3.at 2 rfl)
        have b5 := ((b3.set 0 (.int .u32 0)).set 1 (.string ⟨#[]⟩)).set 2 (.string ⟨#[]⟩)
        have y0 := b5.cell 0; have y1 := b5.cell 1; have y2 := b5.cell 2
        simp only [List.set, List.getElem?_cons_zero, List.getElem?_cons_succ] at y0 y1 y2
        rw [hA.out]
        refine bodyPost_ret (v := .tuple #[.agg #[.int .u32 0, .string ⟨#[]⟩, .string ⟨#[]⟩], .bool false]) (by simp [results, Try.results58, go_sem, y0, y1, y2]) rfl ⟨rfl, ?_⟩
        exact below_set (below_set (below_set hB1t (Nat.le_refl _) _ _) (Nat.le_refl _) _ _) (Nat.le_refl _) _ _
    · obtain rfl : k = L.length := by omega
      have hN2 := hN'.out
      rw [List.take_length] at hN2
      have hA := Lib.hid (actA_none (fun _ => hN2))
      clear hN2
      have z0 := b2.frozen 0; have z1 := b2.frozen 1; have z2 := b2.frozen 2; have d0 := b2.at 0 rfl; have d1 := b2.at 1 rfl; have d2 := b2.at 2 rfl
      go_wp2
      have b5 := ((b2.set 0 (.int .u32 0)).set 1 (.string ⟨#[]⟩)).set 2 (.string ⟨#[]⟩)
      have y0 := b5.cell 0; have y1 := b5.cell 1; have y2 := b5.cell 2
      simp only [List.set, List.getElem?_cons_zero, List.getElem?_cons_succ] at y0 y1 y2
      rw [hA.out]
      refine bodyPost_ret (v := .tuple #[.agg #[.int .u32 0, .string ⟨#[]⟩, .string ⟨#[]⟩], .bool false]) (by simp [results, Try.results58, go_sem, y0, y1, y2]) rfl ⟨rfl, ?_⟩
      exact below_set (below_set (below_set hBt (Nat.le_refl _) _ _) (Nat.le_refl _) _ _) (Nat.le_refl _) _ _

set_option maxRecDepth 100000 in
set_option maxHeartbeats 1600000 in
theorem rcount_any (w : World) (v : Value) (L : List Asc) (y : Xid) (hs : Slc ascEnc 5 w v L) (hL : L.length ≤ 1000000) :
    Calls Try.prog 84 #[v, .agg #[.int .u32 y.1, .string y.2.1, .string y.2.2]] w fun e w' => e = .returned (.int .i64 (cntA L y)) ∧ Below w.heap.size w w' := by
  obtain ⟨yf, yg, yb⟩ := y
  simp only
  obtain ⟨a, cap, rfl, hm⟩ := hs.len
  unfold maxLen at hm
  have hB0 := (Below.refl w.heap.size w).alloc (Nat.le_refl _) (.cells #[.int .u32 yf, .string yg, .string yb] 28)
  have b0 := Blk.new w [.int .u32 yf, .string yg, .string yb] 28
  have hck := Lib.hid (fun (w1 : World) (h : Below w.heap.size w w1) => rcheck_any w1 _ L (hs.pure h) hL)
  obtain ⟨r, hr⟩ : ∃ r, r = rowE L := ⟨_, rfl⟩
  rw [← hr] at hck
  have hr' := Lib.hid hr; clear hr
  go_enter Try.func84, Try.ntmps84
  go_wp2
  go_loopw [5, 6] (fun s5 s6 wr => ∃ k c : Nat, k ≤ L.length ∧ c ≤ k ∧ s6 = .int .i64 k ∧ s5 = .int .i64 c ∧ c + ((L.take k).filter (fun a => a.2.1 != (yf, yg, yb))).length = k ∧ (rowE L ≠ 0 → k = 0) ∧ Below (w.heap.size + 1) (w.alloc (.cells #[.int .u32 yf, .string yg, .string yb] 28)) wr) (fun _ s6 _ => L.length - (intOf s6).toNat)
  case atStart => exact ⟨0, 0, by omega, by omega, rfl, rfl, by simp, fun _ => rfl, Below.refl _ _⟩
  case round =>
    obtain ⟨k, c, hk, hck0, rfl, rfl, hc, h0, hB⟩ := hrel
    have hc' := Lib.hid hc; clear hc
    have h0' := Lib.hid h0; clear h0
    have hBt := hB0.trans (hB.mono (by omega))
    have hBs := hBt.size
    have b2 := b0.below hB (by omega)
    by_cases hlt : k < L.length
    · have hsr := hs.pure hBt
      obtain ⟨g, off, rfl⟩ := hsr.addr hlt
      rcases rowE_cases L with ⟨h1, h2⟩ | ⟨h1, h2⟩
      · obtain rfl : r = 0 := by rw [hr'.out, h2]
        have h2' := Lib.hid h2; clear h2 h1
        have hkeq := Lib.hid (filter_snoc (p := fun a => a.2.1 != (yf, yg, yb)) hlt)
        have qE := fun (u : World) => xid_eql u L[k].2.1.1 yf L[k].2.1.2.1 L[k].2.1.2.2 yg yb
        obtain ⟨q, hq⟩ : ∃ q, (L[k].2.1.1 == yf && (L[k].2.1.2.1 == yg && L[k].2.1.2.2 == yb)) = q := ⟨_, rfl⟩
        simp only [hq] at qE
        have hq2 : (L[k].2.1 != (yf, yg, yb)) = !q := by rw [← hq]; rfl
        have hq' := Lib.hid hq2; clear hq2 hq
        cases q
        · have hnew : c + ((L.take (k + 1)).filter (fun a => a.2.1 != (yf, yg, yb))).length = k + 1 := by rw [hkeq.out, hq'.out]; have := hc'.out; simp; omega
          have hnew' := Lib.hid hnew; clear hnew
          go_wp2_with (go_at_call 75; refine (hck.out _ hBt).mono ?_; rintro e w1 ⟨rfl, hB1⟩; have hB1t := hB.trans (hB1.mono (Nat.le_trans (by simp) hB.size)); obtain ⟨c0, c1, c2, c3, c4⟩ := asc_cells (hsr.pure hB1) hlt; have b3 := b2.pure hB1; have d0 := b3.at 0 rfl; have d1 := b3.at 1 rfl; have d2 := b3.at 2 rfl)
          go_quiet (fail)
          go_wp2
          go_roundw
          case rel => exact ⟨k + 1, c, by omega, by omega, by go_num, rfl, hnew'.out, fun h => absurd h2'.out h, below_drewN hB1t _⟩
          case measure => simp [intOf]; omega
        · have hnew : (c + 1) + ((L.take (k + 1)).filter (fun a => a.2.1 != (yf, yg, yb))).length = k + 1 := by rw [hkeq.out, hq'.out]; have := hc'.out; simp; omega
          have hnew' := Lib.hid hnew; clear hnew
          go_wp2_with (go_at_call 75; refine (hck.out _ hBt).mono ?_; rintro e w1 ⟨rfl, hB1⟩; have hB1t := hB.trans (hB1.mono (Nat.le_trans (by simp) hB.size)); obtain ⟨c0, c1, c2, c3, c4⟩ := asc_cells (hsr.pure hB1) hlt; have b3 := b2.pure hB1; have d0 := b3.at 0 rfl; have d1 := b3.at 1 rfl; have d2 := b3.at 2 rfl)
          go_quiet (fail)
          go_wp2
          go_roundw
          case rel => exact ⟨k + 1, c + 1, by omega, by omega, by go_num, by go_num, hnew'.out, fun h => absurd h2'.out h, below_drewN hB1t _⟩
          case measure => simp [intOf]; omega
      · obtain rfl : r = 180 := by rw [hr'.out, h2]
        have hne : rowE L ≠ 0 := by rw [h2]; simp
        have hc0 := Lib.hid (show (c : Int) = cntA L (yf, yg, yb) by have := h0'.out hne; unfold cntA; rw [if_neg hne]; omega)
        clear h1 h2 hne
        go_wp2_with (go_at_call 75; refine (hck.out _ hBt).mono ?_; rintro e w1 ⟨rfl, hB1⟩; have hB1t := hBt.trans (hB1.mono hBs))
        go_ret
        exact ⟨by rw [← hc0.out]; rfl, hB1t⟩
    · obtain rfl : k = L.length := by omega
      have hc0 : (c : Int) = cntA L (yf, yg, yb) := by
        have h1 := hc'.out
        rw [List.take_length] at h1
        unfold cntA
        by_cases hz : rowE L = 0
        · rw [if_pos hz]; omega
        · have := h0'.out hz; rw [if_neg hz]; omega
      have hc0' := Lib.hid hc0; clear hc0
      go_wp2
      go_ret
      exact ⟨by rw [← hc0'.out]; rfl, hBt⟩
end Go.Proofs.Ytcelpincmpjhkaa

/- Document's side of chapter 18: Leave, Clear, Resume, Suspend, End. Conditions: at most a million. Written by gen_rturns.py. -/
namespace Go.Proofs.Ytcelpincmpjhkaa
set_option linter.unusedSimpArgs false
set_option linter.unusedVariables false
open Go.RowKit

theorem fnd_no {L : List Asc} {s : Int} {x : Xid} {i : Int} (h : FndA L s x i) (hm : ¬ Mem L s x) : i = -1 := by
  rcases h with ⟨_, h⟩ | ⟨k, hk, he, _⟩
  · exact h
  · exact absurd ⟨k, hk, he⟩ hm
theorem fnd_yes {L : List Asc} (hr : Rises L) {s : Int} {x : Xid} {i : Int} {k : Nat} (h : FndA L s x i) (hk : k < L.length) (he : keyA L[k] = (s, x)) : i = k := by
  rcases h with ⟨hn, _⟩ | ⟨j, hj, hje, h⟩
  · exact absurd ⟨k, hk, he⟩ hn
  · rw [h, same_idx hr hj hk (hje.trans he.symm)]
theorem rfind_no (w : World) (v : Value) (L : List Asc) (s : Int) (y : Xid) (hs : Slc ascEnc 5 w v L) (hL : L.length ≤ 1000000) (hn : ¬ Mem L s y) :
    Calls Try.prog 61 #[v, .int .u64 s, .agg #[.int .u32 y.1, .string y.2.1, .string y.2.2]] w fun e w' => e = .returned (.int .i64 (-1)) ∧ Below w.heap.size w w' := by
  refine (find_any w v L s y hs hL).mono ?_
  rintro e w' ⟨⟨i, rfl, hf⟩, hB⟩
  rw [fnd_no hf hn]; exact ⟨rfl, hB⟩
theorem rfind_yes (w : World) (v : Value) (L : List Asc) (s : Int) (y : Xid) (k : Nat) (hs : Slc ascEnc 5 w v L) (hr : Rises L) (hL : L.length ≤ 1000000) (hk : k < L.length) (he : keyA L[k] = (s, y)) :
    Calls Try.prog 61 #[v, .int .u64 s, .agg #[.int .u32 y.1, .string y.2.1, .string y.2.2]] w fun e w' => e = .returned (.int .i64 k) ∧ Below w.heap.size w w' := by
  refine (find_any w v L s y hs hL).mono ?_
  rintro e w' ⟨⟨i, rfl, hf⟩, hB⟩
  rw [fnd_yes hr hf hk he]; exact ⟨rfl, hB⟩

theorem asc_eta (x : Asc) : ascEnc x = [.int .u64 x.1, .int .u32 x.2.1.1, .string x.2.1.2.1, .string x.2.1.2.2, .bool x.2.2] := rfl


set_option maxRecDepth 100000 in
set_option maxHeartbeats 1600000 in
theorem rleave_any (w : World) (v : Value) (L : List Asc) (s : Int) (hs : Slc ascEnc 5 w v L) (hL : L.length ≤ 1000000) :
    Calls Try.prog 97 #[v, .int .u64 s] w fun e w' => ∃ r, e = .returned (.tuple #[r, .int .i64 (mayN L s (0, ⟨#[120]⟩, ⟨#[]⟩))]) ∧ Own w.heap.size 57 5 ascEnc w' r (if mayN L s (0, ⟨#[120]⟩, ⟨#[]⟩) = 0 then L.filter (fun a => a.1 != s) else []) ∧ Below w.heap.size w w' := by
  have hm := rmay_any w v L s (0, ⟨#[120]⟩, ⟨#[]⟩) hs hL
  obtain ⟨c, hc⟩ : ∃ c, c = mayN L s (0, ⟨#[120]⟩, ⟨#[]⟩) := ⟨_, rfl⟩
  rw [← hc] at hm ⊢
  clear hc
  have hm' := Lib.hid hm; clear hm
  by_cases hz : c = 0
  · subst hz
    obtain ⟨a, cap, rfl, hmx⟩ := hs.len
    unfold maxLen at hmx
    go_enter Try.func97, Try.ntmps97
    go_wp2_with (go_at_call 107; refine hm'.out.mono ?_; rintro e w1 ⟨rfl, hB1⟩)
    go_loopw [7, 8] (fun s7 s8 wr => ∃ k : Nat, k ≤ L.length ∧ s8 = .int .i64 k ∧ Own w.heap.size 57 5 ascEnc wr s7 ((L.take k).filter (fun a => a.1 != s)) ∧ Below w.heap.size w wr) (fun _ s8 _ => L.length - (intOf s8).toNat)
    case atStart => exact ⟨0, by omega, rfl, Own.nil, hB1⟩
    case round =>
      obtain ⟨k, hk, rfl, hO, hB⟩ := hrel
      have hBs := hB.size
      by_cases hlt : k < L.length
      · have hsr := hs.pure hB
        obtain ⟨g, off, rfl⟩ := hsr.addr hlt
        obtain ⟨c0, c1, c2, c3, c4⟩ := asc_cells hsr hlt
        have hll : ((L.take k).filter (fun a => a.1 != s)).length ≤ k := Nat.le_trans (List.length_filter_le _ _) (by rw [List.length_take]; omega)
        have hkeq := Lib.hid (filter_snoc (p := fun a => a.1 != s) hlt)
        cases hq : (L[k].1 != s)
        · have hnew := Lib.hid (show (L.take (k + 1)).filter (fun a => a.1 != s) = (L.take k).filter (fun a => a.1 != s) by rw [hkeq.out, hq]; simp)
          go_wp2
          go_roundw
          case rel => exact ⟨k + 1, by omega, by go_num, by rw [hnew.out]; exact hO, hB⟩
          case measure => simp [intOf]; omega
        · have hnew := Lib.hid (show (L.take (k + 1)).filter (fun a => a.1 != s) = (L.take k).filter (fun a => a.1 != s) ++ [L[k]] by rw [hkeq.out, hq]; simp)
          go_wp2_with (at_builtin; refine wpList_app1 rfl (.tmp 29) (.tmp 34) 23 57 rfl elem_asc ascEnc_len ascEnc_one u7 _ rfl (hO.alloc _) wr.heap.size 1 L[k] rfl (fun j u hu => ((Blk.new wr (ascEnc L[k]) 57).cell j).trans hu) (by omega) (by unfold maxLen; omega) (by simp; omega) ?_; intro g' cap' w4 hown hgr hfr)
          go_roundw
          case rel => exact ⟨k + 1, by omega, by go_num, by rw [hnew.out]; exact hown, (hB.alloc hBs _).grown hgr (by simp; omega) (fun j e => hO.ge e)⟩
          case measure => simp [intOf]; omega
      · obtain rfl : k = L.length := by omega
        rw [List.take_length] at hO
        go_wp2
        go_ret2
        exact ⟨_, rfl, by simp only [if_true]; exact hO, hB⟩
  · have hzb : (c != 0) = true := bne_iff_ne.2 hz
    rw [if_neg hz]
    obtain ⟨a, n, cap, rfl⟩ := hs.shape3
    clear hs hz
    go_enter Try.func97, Try.ntmps97
    go_wp2_with (go_at_call 107; refine hm'.out.mono ?_; rintro e w1 ⟨rfl, hB1⟩)
    go_ret2
    exact ⟨_, rfl, Own.nil, hB1⟩

end Go.Proofs.Ytcelpincmpjhkaa
