/- Package branch: the closure of Leave. Conditions: what on hands it; the session is one. Written by gen_brLw.py. (Texts joined; the heads of the others stand below.) -/
import Derived.Test.YtcelpincmpjhkaaGA
import Derived.Test.YtcelpincmpjhkaaHJ
import Derived.Test.YtcelpincmpjhkaaHZ
import Derived.Test.YtcelpincmpjhkaaGB
import Derived.IntWalk
import Derived.Deep.Cut
import Derived.Deep.RegionHeld3
import Derived.Test.YtcelpincmpjhkaaBrM

/- Slices of different types that a call owns lie apart; a store elsewhere leaves them. Conditions: none. -/
namespace Go.Proofs.Ytcelpincmpjhkaa
set_option linter.unusedSimpArgs false
set_option linter.unusedVariables false
open Go.RowKit
theorem own_far {α β : Type} {b b' e e' m m' : Nat} {enc : α → List Value} {enc' : β → List Value} {w : World} {v v' : Value} {L : List α} {L' : List β} (h : Own b e m enc w v L) (h' : Own b' e' m' enc' w v' L') (hne : e ≠ e') {i : Nat} (hi : v.ownBlock = some i) (hj : v'.ownBlock = some i) : False := by
  rcases h.2 with ⟨rfl, _⟩ | ⟨g, cap, cur, rfl, hb, hg, _⟩
  · simp [Value.ownBlock] at hi
  · rcases h'.2 with ⟨rfl, _⟩ | ⟨g', cap', cur', rfl, hb', hg', _⟩
    · simp [Value.ownBlock] at hj
    · simp only [Value.ownBlock, Option.some.injEq] at hi hj
      subst hi
      subst hj
      rw [hg] at hg'
      simp only [Option.some.injEq, Obj.cells.injEq] at hg'
      exact hne hg'.2.1
theorem own_off {α β : Type} {b b' e e' m m' : Nat} {enc : α → List Value} {enc' : β → List Value} {w : World} {g n c : Nat} {v' : Value} {L : List α} {L' : List β} (h' : Own b' e' m' enc' w v' L') (h : Own b e m enc w (.slice (some ⟨g, 0, none⟩) n c) L) (hne : e ≠ e') (i : Nat) (u : Value) : Own b' e' m' enc' (w.setCell ⟨g, i, none⟩ u) v' L' :=
  h'.other _ _ (fun j hj e => own_far h h' hne rfl (by rw [hj]; exact congrArg some e))
theorem Own.low {α : Type} {base e m : Nat} {enc : α → List Value} {w : World} {v : Value} {L : List α} (h : Own base e m enc w v L) (b i : Nat) (u : Value) (hb : b < base) : Own base e m enc (w.setCell ⟨b, i, none⟩ u) v L :=
  h.other _ _ (fun j hj e => by have h1 := h.ge hj; dsimp only at e; omega)
theorem own_at' {α : Type} {m : Nat} {enc : α → List Value} {base : Nat} {e : TypeId} {w : World} {a : Option Addr} {n c : Nat} {R : List α} (h : Own base e m enc w (.slice a n c) R) {k : Nat} (hk : k < R.length) : ∃ g, a = some ⟨g, 0, none⟩ ∧ base ≤ g := by
  rcases h.cases with ⟨_, h2⟩ | ⟨g, cap, h1, h2, _⟩
  · rw [h2] at hk; simp at hk
  · simp only [Value.slice.injEq] at h1; exact ⟨g, h1.1, h2⟩
end Go.Proofs.Ytcelpincmpjhkaa

/- Package branch: the closure of Tick. Conditions: what on hands it; the fields are in their bounds. Written by gen_brTk.py. -/
namespace Go.Proofs.Ytcelpincmpjhkaa
set_option linter.unusedSimpArgs false
set_option linter.unusedVariables false
open Go.RowKit
def tickN (R : List Brn) (k : Nat) : List Brn := (R.take k).map tickB ++ R.drop k
theorem tickN_len (R : List Brn) (k : Nat) : (tickN R k).length = R.length := by unfold tickN; simp; omega
theorem tickN_zero (R : List Brn) : tickN R 0 = R := by unfold tickN; simp
theorem tickN_all (R : List Brn) : tickN R R.length = R.map tickB := by unfold tickN; simp
theorem tickN_get {R : List Brn} {k : Nat} (h : k < R.length) (h2 : k < (tickN R k).length) : (tickN R k)[k] = R[k] := by
  have e : (tickN R k)[k]? = R[k]? := by
    unfold tickN
    rw [List.getElem?_append_right (by simp; omega), List.getElem?_drop]
    congr 1
    simp; omega
  rw [List.getElem?_eq_getElem h2, List.getElem?_eq_getElem h] at e
  injection e
theorem tickN_succ {R : List Brn} {k : Nat} (h : k < R.length) : (tickN R k).set k (tickB R[k]) = tickN R (k + 1) := by
  unfold tickN
  rw [List.set_append_right _ _ (by simp; omega), List.take_succ_eq_append_getElem h, List.map_append, List.append_assoc]
  congr 1
  rw [List.drop_eq_getElem_cons h]
  simp only [List.length_map, List.length_take]
  rw [show k - min k R.length = 0 by omega, List.set_cons_zero]
  rfl
theorem tickN_same {R : List Brn} {k : Nat} (h : k < R.length) (hl : R[k].lf = 0) : tickN R (k + 1) = tickN R k := by
  rw [← tickN_succ h]
  have e : tickB R[k] = (tickN R k)[k]'(by rw [tickN_len]; exact h) := by rw [tickN_get h]; unfold tickB; rw [if_pos hl]
  rw [e, List.set_getElem_self]
theorem tickT_snoc {R : List Brn} {k : Nat} (h : k < R.length) : tickT (R.take (k + 1)) = tickT (R.take k) ++ (if (R[k].lf == 1) = true then [R[k].x] else []) := by
  unfold tickT
  rw [List.take_succ_eq_append_getElem h, List.filter_append, List.map_append]
  congr 1
  by_cases q : (R[k].lf == 1) = true
  · rw [if_pos q]; simp [List.filter_cons, q]
  · rw [if_neg q]; simp [List.filter_cons, q]
theorem tickT_le (R : List Brn) (k : Nat) : (tickT (R.take k)).length ≤ k := by unfold tickT; rw [List.length_map]; exact Nat.le_trans (List.length_filter_le _ _) (by rw [List.length_take]; omega)
/-- What Tick and Leave have told lies in the box q. -/
def Told (s q : Nat) (L : List Xid) (w : World) : Prop := ∃ tv, Blk w q [tv] ∧ Own (s + 5) 28 3 xEnc w tv L
theorem Told.keep {s q : Nat} {L : List Xid} {u u' : World} (h : Told s q L u) (hq : q < s) (hu : Upd (fun k => s + 2 ≤ k ∧ k < s + 5) u u') : Told s q L u' := by
  obtain ⟨tv, h1, h2⟩ := h
  exact ⟨tv, h1.upd hu (fun h => by omega), h2.upd hu (fun k hk h => by have := h2.ge hk; omega)⟩

set_option maxRecDepth 100000 in
set_option maxHeartbeats 6400000 in
theorem tick_do (s : Nat) (w1 : World) (tb qb : Nat) (rv av : Value) (R : List Brn) (A : List Asc) (hpre : DoPre s w1 tb rv av R A) (q1 : Blk w1 qb [.slice none 0 0]) (hqs : qb < s) (hlf : ∀ b ∈ R, 0 ≤ b.lf ∧ b.lf ≤ 4294967295) (hLR : R.length ≤ 1000000) :
    Calls Try.prog 94 #[.pointer (some ⟨tb, 0, none⟩), .pointer (some ⟨qb, 0, none⟩)] w1 (DoPost s tb (R.map tickB, A, 0, 0) (fun k => k = qb) (Told s qb (tickT R)) w1) := by
  obtain ⟨hroom, t1, hhigh, hO1, hA1, hrt, hat, hap⟩ := hpre
  obtain ⟨ra, rc, rfl⟩ := own_len hO1
  obtain ⟨aa, ac, rfl⟩ := own_len hA1
  have hat' := Lib.hid hat; have hap' := Lib.hid hap; have hrt' := Lib.hid hrt
  clear hat hap hrt
  have c0 := t1.at 0 rfl; have c1 := t1.at 1 rfl; have cq := q1.at 0 rfl
  go_enter Try.func94, Try.ntmps94
  go_wp2
  clear c0 c1 cq
  go_loopw [12] (fun s12 wr => ∃ (k : Nat) (tv : Value), k ≤ R.length ∧ s12 = .int .i64 k ∧ Own (s + 5) 44 7 brEnc wr (.slice ra R.length rc) (tickN R k) ∧ Own (s + 5) 57 5 ascEnc wr (.slice aa A.length ac) A ∧ Blk wr tb [.slice ra R.length rc, .slice aa A.length ac] ∧ Blk wr qb [tv] ∧ Own (s + 5) 28 3 xEnc wr tv (tickT (R.take k)) ∧ tv.ownBlock ≠ some tb ∧ Upd (fun k => k = qb ∨ s + 5 ≤ k) w1 wr) (fun s12 _ => R.length - (intOf s12).toNat)
  case atStart => exact ⟨0, _, by omega, rfl, by rw [tickN_zero]; exact hO1, hA1, t1, q1, Own.nil, by simp [Value.ownBlock], Upd.refl _ _⟩
  case round =>
    obtain ⟨k, tv, hk, rfl, hO, hA, tt, qq, hT, htt, hU⟩ := hrel
    have htt' := Lib.hid htt; clear htt
    have hS := hU.size
    obtain ⟨ta, tn, tc, rfl⟩ := hT.shape3
    have ct0 := tt.at 0 rfl; have ct1 := tt.at 1 rfl; have cq := qq.at 0 rfl
    by_cases hlt : k < R.length
    · have hkN : k < (tickN R k).length := by rw [tickN_len]; exact hlt
      obtain ⟨g, rfl, hg⟩ := own_at' hO hkN
      have y4 := hO.frozen (k * 7 + 4); have y6 := hO.frozen (k * 7 + 6)
      have hbr := br_cells (hO.slc brEnc_len) hkN
      rw [tickN_get hlt hkN] at hbr
      obtain ⟨q0, q1', q2, q3, q4, q5, q6⟩ := hbr
      simp only [Nat.zero_add] at q0 q1' q2 q3 q4 q5 q6
      have hk0 : (0 : Int) ≤ (k : Int) := by omega
      have hk1 : (k : Int) < (R.length : Int) := by omega
      have hlk := hlf R[k] (List.getElem_mem hlt)
      have hgt : g ≠ tb := fun e => hrt'.out (by rw [e]; rfl)
      have htl := tickT_le R k
      have hsn := Lib.hid (tickT_snoc hlt)
      by_cases hl : R[k].lf = 0
      · have hlb : (R[k].lf == 0) = true := by rw [hl]; rfl
        have hN := Lib.hid (tickN_same hlt hl)
        have hT2 := Lib.hid (show tickT (R.take (k + 1)) = tickT (R.take k) by rw [hsn.out, hl]; simp)
        clear hl hlk
        go_wp2
        go_roundw
        case rel => exact ⟨k + 1, _, by omega, by go_num, by rw [hN.out]; exact hO, hA, tt, qq, by rw [hT2.out]; exact hT, htt'.out, hU⟩
        case measure => simp [intOf]; omega
      · have hlb : (R[k].lf == 0) = false := beq_eq_false_iff_ne.2 hl
        have hl0 : 0 ≤ R[k].lf - 1 := by omega
        have hl9 : R[k].lf - 1 ≤ 4294967295 := by omega
        have s1 := hO.set brEnc_len k hkN 6 (.int .u32 (R[k].lf - 1)) { R[k] with lf := R[k].lf - 1 } (by omega) (by rw [tickN_get hlt hkN]; rfl)
        have hA2 := own_off hA hO (by decide) (k * 7 + 6) (.int .u32 (R[k].lf - 1))
        have hTa := own_off hT hO (by decide) (k * 7 + 6) (.int .u32 (R[k].lf - 1))
        have t2 := tt.other ⟨g, k * 7 + 6, none⟩ (.int .u32 (R[k].lf - 1)) (fun e => hgt e.symm)
        have qq2 := qq.other ⟨g, k * 7 + 6, none⟩ (.int .u32 (R[k].lf - 1)) (by simp only; omega)
        have hU2 := hU.trans (Upd.set (S := fun k => k = qb ∨ s + 5 ≤ k) (p := ⟨g, k * 7 + 6, none⟩) (Or.inr hg) (.int .u32 (R[k].lf - 1))) (fun _ h _ => h)
        by_cases hz : R[k].lf - 1 = 0
        rotate_left 1
        · have hzb : (R[k].lf - 1 == 0) = false := beq_eq_false_iff_ne.2 hz
          have hN := Lib.hid (show (tickN R k).set k { R[k] with lf := R[k].lf - 1 } = tickN R (k + 1) by rw [← tickN_succ hlt]; unfold tickB; rw [if_neg hl, if_neg hz])
          have hT2 := Lib.hid (show tickT (R.take (k + 1)) = tickT (R.take k) by rw [hsn.out, if_neg (by simp; omega)]; simp)
          clear hl hz hlk
          go_wp2
          go_roundw
          case rel => exact ⟨k + 1, _, by omega, by go_num, by rw [← hN.out]; exact s1, hA2, t2, qq2, by rw [hT2.out]; exact hTa, htt'.out, hU2⟩
          case measure => simp [intOf]; omega
        · have hzb : (R[k].lf - 1 == 0) = true := by rw [hz]; rfl
          have hk2 : k < ((tickN R k).set k { R[k] with lf := R[k].lf - 1 }).length := by simpa using hkN
          have s2 := s1.set brEnc_len k hk2 4 (.int .u8 2) { R[k] with lf := R[k].lf - 1, why := 2 } (by omega) (by rw [List.getElem_set_self]; rfl)
          rw [List.set_set] at s2
          have hN := Lib.hid (show (tickN R k).set k { R[k] with lf := R[k].lf - 1, why := 2 } = tickN R (k + 1) by rw [← tickN_succ hlt]; unfold tickB; rw [if_neg hl, if_pos hz])
          have hT2 := Lib.hid (show tickT (R.take (k + 1)) = tickT (R.take k) ++ [R[k].x] by rw [hsn.out, if_pos (by simp; omega)])
          have hA3 := own_off hA2 s1 (by decide) (k * 7 + 4) (.int .u8 2)
          have hTb := own_off hTa s1 (by decide) (k * 7 + 4) (.int .u8 2)
          have t3 := t2.other ⟨g, k * 7 + 4, none⟩ (.int .u8 2) (fun e => hgt e.symm)
          have qq3 := qq2.other ⟨g, k * 7 + 4, none⟩ (.int .u8 2) (by simp only; omega)
          have hU3 := hU2.trans (Upd.set (S := fun k => k = qb ∨ s + 5 ≤ k) (p := ⟨g, k * 7 + 4, none⟩) (Or.inr hg) (.int .u8 2)) (fun _ h _ => h)
          have hbr3 := br_cells (s2.slc brEnc_len) (by simpa using hkN)
          simp only [List.getElem_set_self, Nat.zero_add] at hbr3
          obtain ⟨n0, n1, n2, -⟩ := hbr3
          have cq3 := qq3.at 0 rfl; have fq3 := qq3.frozen 0
          obtain ⟨W, hW⟩ : ∃ W, W = (wr.setCell ⟨g, k * 7 + 6, none⟩ (.int .u32 (R[k].lf - 1))).setCell ⟨g, k * 7 + 4, none⟩ (.int .u8 2) := ⟨_, rfl⟩
          clear hl hz hlk
          go_upto_region 9 with fail
          rw [← hW]
          rw [← hW] at s2 hA3 hTb t3 qq3 hU3 n0 n1 n2 cq3 fq3
          clear hW s1 hA2 hTa t2 qq2 hU2 hO hA tt qq hT hU ct0 ct1 cq y4 y6 q0 q1' q2 q3 q4 q5 q6
          have hSW := hU3.size
          have hOx := (s2.alloc (.cells #[.int .u32 R[k].x.1, .string R[k].x.2.1, .string R[k].x.2.2] 28)).drew
          have hbx := br_cells (hOx.slc brEnc_len) (by simpa using hkN)
          simp only [List.getElem_set_self, Nat.zero_add] at hbx
          obtain ⟨a0, a1, a2, -⟩ := hbx
          have cqA := (qq3.alloc (.cells #[.int .u32 R[k].x.1, .string R[k].x.2.1, .string R[k].x.2.2] 28)).at 0 rfl
          refine wp_region_held_drew (S := (fun w' => w'.cell? ⟨g, k * 7, none⟩ = some (.int .u32 R[k].x.1) ∧ w'.cell? ⟨g, k * 7 + 1, none⟩ = some (.string R[k].x.2.1) ∧ w'.cell? ⟨g, k * 7 + 2, none⟩ = some (.string R[k].x.2.2))) (by kernel_rfl) ?_ (fun hHeld => ?_)
          · (first | with_reducible exact ⟨p0, p1, p2⟩ | with_reducible exact ⟨m0, m1, m2⟩ | with_reducible exact ⟨a0, a1, a2⟩ | exact ⟨n0, n1, n2⟩)
          refine takeY 1 43 rfl rfl (v := ?_) ?_ hHeld ?_
          rotate_left 1
          · (intro w hSw; (try dsimp only at hSw); go_simp; (try with_reducible rfl))
          try simp only [Act.put, lsT, lsZ, lsS]
          refine takeY 2 44 rfl rfl (v := ?_) ?_ hHeld ?_
          rotate_left 1
          · (intro w hSw; (try dsimp only at hSw); go_simp; (try with_reducible rfl))
          try simp only [Act.put, lsT, lsZ, lsS]
          refine takeY 3 45 rfl rfl (v := ?_) ?_ hHeld ?_
          rotate_left 1
          · (intro w hSw; (try dsimp only at hSw); go_simp; (try with_reducible rfl))
          try simp only [Act.put, lsT, lsZ, lsS]
          refine takeY 4 46 rfl rfl (v := ?_) ?_ hHeld ?_
          rotate_left 1
          · (intro w hSw; (try dsimp only at hSw); go_simp; (try with_reducible rfl))
          try simp only [Act.put, lsT, lsZ, lsS]
          refine wpAnyH_ready (rs := [0, 5]) (by kernel_rfl) (by simp) ?_
          refine AllReadyH.cons rfl (fun K hK => ?_) (AllReadyH.cons rfl (fun K hK => ?_) AllReadyH.nil)
          go_simp
          refine hK.out _ _ ?_ (fun hHeld => ?_)
          · (first | with_reducible exact ⟨p0, p1, p2⟩ | with_reducible exact ⟨m0, m1, m2⟩ | with_reducible exact ⟨a0, a1, a2⟩ | exact ⟨n0, n1, n2⟩)
          clear hK K
          try simp only [Act.put, lsT, lsZ, lsS]
          refine wpAnyH_ready (rs := [5]) (by kernel_rfl) (by simp) ?_
          refine AllReadyH.cons rfl (fun K hK => ?_) AllReadyH.nil
          go_simp
          refine hK.out _ _ ?_ (fun hHeld => ?_)
          · (first | with_reducible exact ⟨p0, p1, p2⟩ | with_reducible exact ⟨m0, m1, m2⟩ | with_reducible exact ⟨a0, a1, a2⟩ | exact ⟨n0, n1, n2⟩)
          clear hK K
          try simp only [Act.put, lsT, lsZ, lsS]
          rotate_left 1
          go_simp
          refine hK.out _ _ ?_ (fun hHeld => ?_)
          · (first | with_reducible exact ⟨p0, p1, p2⟩ | with_reducible exact ⟨m0, m1, m2⟩ | with_reducible exact ⟨a0, a1, a2⟩ | exact ⟨n0, n1, n2⟩)
          clear hK K
          try simp only [Act.put, lsT, lsZ, lsS]
          refine wpAnyH_ready (rs := [0]) (by kernel_rfl) (by simp) ?_
          refine AllReadyH.cons rfl (fun K hK => ?_) AllReadyH.nil
          go_simp
          refine hK.out _ _ ?_ (fun hHeld => ?_)
          · (first | with_reducible exact ⟨p0, p1, p2⟩ | with_reducible exact ⟨m0, m1, m2⟩ | with_reducible exact ⟨a0, a1, a2⟩ | exact ⟨n0, n1, n2⟩)
          clear hK K
          try simp only [Act.put, lsT, lsZ, lsS]
          rotate_left 1
          all_goals
            refine wpAnyH_ready (rs := [6]) (by kernel_rfl) (by simp) ?_
            refine AllReadyH.cons rfl (fun K hK => ?_) AllReadyH.nil
            refine step_of_list rfl (wpList_app1 (base := s + 5) rfl (.tmp 42) (.tmp 47) 52 28 rfl elem_xid xEnc_len xEnc_one (.slice ta tn tc) (tickT (R.take k)) rfl (hTb.alloc _).drew W.heap.size 1 R[k].x rfl (fun j u hu => ((Blk.newAt2 _ (xEnc R[k].x) 28 W.heap.size rfl).cell j).trans hu) (by omega) (by unfold maxLen; omega) (by simp; omega) ?_); intro g' cap' w4 hown hgr hfr; refine ⟨rfl, ?_⟩; have hUg := Upd.grown (S := fun j => Value.ownBlock (.slice ta tn tc) = some j) hgr (fun j e => e); have q4b := (qq3.alloc (.cells #[.int .u32 R[k].x.1, .string R[k].x.2.1, .string R[k].x.2.2] 28)).drew.upd hUg (fun e => by have h1 := hTb.ge e; omega); have t4b := (t3.alloc (.cells #[.int .u32 R[k].x.1, .string R[k].x.2.1, .string R[k].x.2.2] 28)).drew.upd hUg htt'.out; have s4b := hOx.upd hUg (fun j hj e => own_far s2 hTb (by decide) hj e); have A4b := (hA3.alloc (.cells #[.int .u32 R[k].x.1, .string R[k].x.2.1, .string R[k].x.2.2] 28)).drew.upd hUg (fun j hj e => own_far hA3 hTb (by decide) hj e); have hbm := br_cells (s4b.slc brEnc_len) (by simpa using hkN); simp only [List.getElem_set_self, Nat.zero_add] at hbm; obtain ⟨m0, m1, m2, -⟩ := hbm; have U4b := (hU3.trans (Upd.of_below (S := fun k => k = qb ∨ s + 5 ≤ k) ((Below.refl W.heap.size W).alloc (Nat.le_refl _) (.cells #[.int .u32 R[k].x.1, .string R[k].x.2.1, .string R[k].x.2.2] 28))) (fun _ h _ => h)).drew.trans (hUg.mono (T := fun k => k = qb ∨ s + 5 ≤ k) (fun j h _ => Or.inr (hTb.ge h))) (fun _ h _ => h); have j0 := q4b.at 0 rfl; have j1 := q4b.frozen 0; have s5b := s4b.low qb 0 (.slice (some ⟨g', 0, none⟩) ((tickT (R.take k)).length + 1) cap') (by omega); have hbp := br_cells (s5b.slc brEnc_len) (by simpa using hkN); simp only [List.getElem_set_self, Nat.zero_add] at hbp; obtain ⟨p0, p1, p2, -⟩ := hbp
            refine hK.out _ _ ?_ (fun hHeld => ?_)
            · (first | with_reducible exact ⟨p0, p1, p2⟩ | with_reducible exact ⟨m0, m1, m2⟩ | with_reducible exact ⟨a0, a1, a2⟩ | exact ⟨n0, n1, n2⟩)
            clear hK K
            try simp only [Act.put, lsT, lsZ, lsS]
            refine wpAnyH_ready (rs := [7]) (by kernel_rfl) (by simp) ?_
            refine AllReadyH.cons rfl (fun K hK => ?_) AllReadyH.nil
            go_simp
            refine hK.out _ _ ?_ (fun hHeld => ?_)
            · (first | with_reducible exact ⟨p0, p1, p2⟩ | with_reducible exact ⟨m0, m1, m2⟩ | with_reducible exact ⟨a0, a1, a2⟩ | exact ⟨n0, n1, n2⟩)
            clear hK K
            try simp only [Act.put, lsT, lsZ, lsS]
            refine wpAnyH_done (by kernel_rfl) ?_ _
          all_goals
            go_wp2
            go_roundw
            case rel => exact ⟨k + 1, _, by omega, by go_num, by rw [← hN.out]; exact s5b, A4b.low qb 0 _ (by omega), t4b.other ⟨qb, 0, none⟩ _ (by simp only; omega), q4b.set 0 _, by rw [hT2.out]; exact hown.low qb 0 _ (by omega), by simp only [Value.ownBlock, ne_eq, Option.some.injEq]; intro e; rcases hfr with h | h; exact htt'.out (by rw [h, e]); (have h1 := t3.lt; simp at h; omega), U4b.trans (Upd.set (S := fun k => k = qb ∨ s + 5 ≤ k) (p := ⟨qb, 0, none⟩) (Or.inl rfl) _) (fun _ h _ => h)⟩
            case measure => simp [intOf]; omega
    · obtain rfl : k = R.length := by omega
      rw [tickN_all] at hO
      rw [List.take_length] at hT
      go_wp2
      go_ret
      exact .inl ⟨_, _, rfl, rfl, tt, hO, hA, hU, ⟨_, qq, hT⟩⟩
end Go.Proofs.Ytcelpincmpjhkaa

/- Chapter 19: Leave in plain lists: name by name, as the program goes. Conditions: the table is right. -/
namespace Go.Proofs.Ytcelpincmpjhkaa
set_option linter.unusedSimpArgs false
set_option linter.unusedVariables false
open Go.RowKit
theorem fm_congr {α β : Type} {f g : α → Option β} : ∀ {L : List α}, (∀ a ∈ L, f a = g a) → L.filterMap f = L.filterMap g
  | [], _ => rfl
  | a :: L, h => by rw [List.filterMap_cons, List.filterMap_cons, h a (by simp), fm_congr (fun b hb => h b (List.mem_cons_of_mem _ hb))]
theorem xsame_iff (a b : Xid) : cmpX a b = 0 ↔ a = b := cmpX_zero
abbrev RisesX (L : List Xid) : Prop := L.Pairwise (fun a b => cmpX a b < 0)
theorem rx_nodup {L : List Xid} (h : RisesX L) {i j : Nat} (hi : i < L.length) (hj : j < L.length) (hij : i < j) : L[i] ≠ L[j] := by
  intro e
  have := List.pairwise_iff_getElem.1 h i j hi hj hij
  rw [cmpX_zero.2 e] at this; omega
theorem rx_eq : ∀ {L M : List Xid}, RisesX L → RisesX M → (∀ x, x ∈ L ↔ x ∈ M) → L = M
  | [], [], _, _, _ => rfl
  | [], y :: M, _, _, h => absurd ((h y).2 (by simp)) (by simp)
  | x :: L, [], _, _, h => absurd ((h x).1 (by simp)) (by simp)
  | x :: L, y :: M, hL, hM, h => by
    have hl := List.pairwise_cons.1 hL
    have hm := List.pairwise_cons.1 hM
    have e : x = y := by
      have h1 := (h x).1 (by simp)
      have h2 := (h y).2 (by simp)
      rcases List.mem_cons.1 h1 with q | q
      · exact q
      · rcases List.mem_cons.1 h2 with q2 | q2
        · exact q2.symm
        · have a1 := hm.1 x q
          have a2 := hl.1 y q2
          have a3 := cmpX_ok.anti y x
          omega
    subst e
    have : L = M := rx_eq hl.2 hm.2 (fun z => by
      constructor
      · intro hz
        rcases List.mem_cons.1 ((h z).1 (List.mem_cons_of_mem _ hz)) with q | q
        · exact absurd (cmpX_zero.2 q.symm) (by have := hl.1 z hz; omega)
        · exact q
      · intro hz
        rcases List.mem_cons.1 ((h z).2 (List.mem_cons_of_mem _ hz)) with q | q
        · exact absurd (cmpX_zero.2 q.symm) (by have := hm.1 z hz; omega)
        · exact q)
    rw [this]

/-- The names that a session works for. -/
def withX (A : List Asc) (s : Int) : List Xid := (A.filter (fun a => a.1 == s)).map (fun a => a.2.1)
theorem withX_mem {A : List Asc} {s : Int} {x : Xid} : x ∈ withX A s ↔ Mem A s x := by
  unfold withX Mem
  rw [List.mem_map]
  constructor
  · rintro ⟨a, ha, rfl⟩
    obtain ⟨h1, h2⟩ := List.mem_filter.1 ha
    obtain ⟨i, hi, rfl⟩ := List.getElem_of_mem h1
    exact ⟨i, hi, by unfold keyA; rw [eq_of_beq h2]⟩
  · rintro ⟨i, hi, he⟩
    have h1 : A[i].1 = s := congrArg Prod.fst he
    have h2 : A[i].2.1 = x := congrArg Prod.snd he
    exact ⟨A[i], List.mem_filter.2 ⟨List.getElem_mem hi, by rw [h1]; simp⟩, h2⟩
theorem cmpA_same {a b : Asc} (h : cmpA a b < 0) (he : a.1 = b.1) : cmpX a.2.1 b.2.1 < 0 := by
  unfold cmpA keyA keyC lexC thenC cmpI at h
  simp only [he] at h
  simpa using h
theorem withX_rises {A : List Asc} (h : RowA A) (s : Int) : RisesX (withX A s) := by
  unfold withX
  refine List.pairwise_map.2 ?_
  refine List.Pairwise.imp_of_mem ?_ (h.rises.filter _)
  intro a b ha hb hab
  have h1 := eq_of_beq (List.mem_filter.1 ha).2
  have h2 := eq_of_beq (List.mem_filter.1 hb).2
  exact cmpA_same hab (h1.trans h2.symm)
theorem withX_len (A : List Asc) (s : Int) : (withX A s).length ≤ A.length := by unfold withX; rw [List.length_map]; exact List.length_filter_le _ _
theorem withX_snoc {A : List Asc} {s : Int} {k : Nat} (h : k < A.length) : withX (A.take (k + 1)) s = withX (A.take k) s ++ (if (A[k].1 == s) = true then [A[k].2.1] else []) := by
  unfold withX
  rw [filter_snoc h, List.map_append]
  congr 1
  split <;> rfl

/-- What stands of a row, the names xs being done. -/
noncomputable def lvX (C : List Asc) (xs : List Xid) (b : Brn) : Option Brn := by
  classical exact if b.x ∈ xs then (if cntA C b.x = 0 then none else some (b.spoil 1)) else some b
noncomputable def stepR (R : List Brn) (C : List Asc) (xs : List Xid) : List Brn := R.filterMap (lvX C xs)
theorem lvX_no {C : List Asc} {xs : List Xid} {b : Brn} (h : b.x ∉ xs) : lvX C xs b = some b := by unfold lvX; rw [if_neg h]
theorem lvX_gone {C : List Asc} {xs : List Xid} {b : Brn} (h : b.x ∈ xs) (hc : cntA C b.x = 0) : lvX C xs b = none := by unfold lvX; rw [if_pos h, if_pos hc]
theorem lvX_stay {C : List Asc} {xs : List Xid} {b : Brn} (h : b.x ∈ xs) (hc : cntA C b.x ≠ 0) : lvX C xs b = some (b.spoil 1) := by unfold lvX; rw [if_pos h, if_neg hc]
theorem lvX_x {C : List Asc} {xs : List Xid} {b c : Brn} (h : lvX C xs b = some c) : c.x = b.x := by
  unfold lvX at h
  split at h
  · split at h
    · simp at h
    · injection h with h; subst h; rfl
  · injection h with h; subst h; rfl
theorem lvX_more {C : List Asc} {xs : List Xid} {x : Xid} {b : Brn} (h : b.x ≠ x) : lvX C (xs ++ [x]) b = lvX C xs b := by
  by_cases q : b.x ∈ xs
  · have q2 : b.x ∈ xs ++ [x] := List.mem_append_left _ q
    by_cases hc : cntA C b.x = 0
    · rw [lvX_gone q hc, lvX_gone q2 hc]
    · rw [lvX_stay q hc, lvX_stay q2 hc]
  · have q2 : b.x ∉ xs ++ [x] := by rw [List.mem_append, List.mem_singleton]; exact fun h2 => h2.elim q h
    rw [lvX_no q, lvX_no q2]
theorem stepR_rises {R : List Brn} (h : RisesB R) (C : List Asc) (xs : List Xid) : RisesB (stepR R C xs) :=
  List.pairwise_filterMap.2 (h.imp (fun h c hc d hd => by rw [lvX_x hc, lvX_x hd]; exact h))
theorem stepR_len (R : List Brn) (C : List Asc) (xs : List Xid) : (stepR R C xs).length ≤ R.length := List.length_filterMap_le _ _
theorem stepR_nil (R : List Brn) (C : List Asc) : stepR R C [] = R := by
  unfold stepR
  have : lvX C [] = some := by funext b; exact lvX_no (by simp)
  rw [this, List.filterMap_some]
theorem stepR_at {R : List Brn} {C : List Asc} {xs : List Xid} {b : Brn} (hb : b ∈ R) (hx : b.x ∉ xs) : ∃ k, ∃ hk : k < (stepR R C xs).length, (stepR R C xs)[k] = b := by
  have : b ∈ stepR R C xs := List.mem_filterMap.2 ⟨b, hb, lvX_no hx⟩
  obtain ⟨k, hk, e⟩ := List.getElem_of_mem this
  exact ⟨k, hk, e⟩
theorem set_map {R : List Brn} (hr : RisesB R) {k : Nat} (hk : k < R.length) (c : Brn) : R.set k c = R.map (fun d => if cmpX d.x R[k].x = 0 then c else d) := by
  apply List.ext_getElem
  · simp
  · intro i h1 h2
    have hi : i < R.length := by simpa using h1
    rw [List.getElem_set, List.getElem_map]
    by_cases e : k = i
    · subst e
      rw [if_pos rfl, if_pos (cmpX_zero.2 rfl)]
    · rw [if_neg e, if_neg (fun q => e (sameB_idx hr hi hk (cmpX_zero.1 q)).symm)]
theorem step_stay {R : List Brn} {C : List Asc} {xs : List Xid} {b : Brn} (hr : RisesB R) (hb : b ∈ R) (hx : b.x ∉ xs) (hc : cntA C b.x ≠ 0) {k : Nat} (hk : k < (stepR R C xs).length) (he : (stepR R C xs)[k] = b) :
    (stepR R C xs).set k (b.spoil 1) = stepR R C (xs ++ [b.x]) := by
  rw [set_map (stepR_rises hr C xs) hk, he]
  unfold stepR
  rw [List.map_filterMap]
  refine fm_congr (fun d hd => ?_)
  by_cases e : d.x = b.x
  · obtain rfl := uniqB hr hd hb e
    rw [lvX_no hx, lvX_stay (List.mem_append_right _ (by simp)) hc]
    simp [cmpX_zero]
  · rw [lvX_more e]
    cases q : lvX C xs d with
    | none => rfl
    | some c => simp only [Option.map_some]; rw [if_neg (fun h => e (by rw [← lvX_x q]; exact cmpX_zero.1 h))]
theorem step_gone {R : List Brn} {C : List Asc} {xs : List Xid} {b : Brn} (hr : RisesB R) (hb : b ∈ R) (hx : b.x ∉ xs) (hc : cntA C b.x = 0) {k : Nat} (hk : k < (stepR R C xs).length) (he : (stepR R C xs)[k] = b) :
    withoutB ((stepR R C xs).set k (b.spoil 1)) b.x = stepR R C (xs ++ [b.x]) := by
  rw [set_map (stepR_rises hr C xs) hk, he]
  unfold withoutB stepR
  rw [List.map_filterMap, List.filter_filterMap]
  refine fm_congr (fun d hd => ?_)
  by_cases e : d.x = b.x
  · obtain rfl := uniqB hr hd hb e
    rw [lvX_no hx, lvX_gone (List.mem_append_right _ (by simp)) hc]
    simp only [Option.map_some, cmpX_zero.2 rfl, if_true]
    rw [Option.filter_some, if_neg (by rw [neX_decide]; simp [Brn.spoil])]
  · rw [lvX_more e]
    cases q : lvX C xs d with
    | none => rfl
    | some c =>
      have hcx := lvX_x q
      simp only [Option.map_some]
      rw [if_neg (fun h => e (by rw [← hcx]; exact cmpX_zero.1 h)), Option.filter_some, if_pos (by rw [neX_decide]; exact decide_eq_true (by rw [hcx]; exact e))]
theorem step_all (R : List Brn) (A : List Asc) (s : Int) : stepR R (outA A s) (withX A s) = leaveR R A s := by
  unfold stepR leaveR
  refine fm_congr (fun b hb => ?_)
  by_cases h : Mem A s b.x
  · by_cases hc : cntA (outA A s) b.x = 0
    · rw [lvX_gone (withX_mem.2 h) hc, lvB_gone h hc]
    · rw [lvX_stay (withX_mem.2 h) hc, lvB_stay h hc]
  · rw [lvX_no (fun q => h (withX_mem.1 q)), lvB_no h]
/-- The names told, the names xs being done. -/
noncomputable def toldX (R : List Brn) (xs : List Xid) : List Xid := by
  classical exact xs.filter (fun x => decide (∃ b ∈ R, b.x = x ∧ b.why = 0))
theorem toldX_snoc {R : List Brn} {xs : List Xid} {b : Brn} (hr : RisesB R) (hb : b ∈ R) : toldX R (xs ++ [b.x]) = toldX R xs ++ (if b.why = 0 then [b.x] else []) := by
  unfold toldX
  rw [List.filter_append]
  congr 1
  by_cases h : b.why = 0
  · rw [if_pos h, List.filter_cons, if_pos (decide_eq_true ⟨b, hb, rfl, h⟩)]; rfl
  · rw [if_neg h, List.filter_cons, if_neg (fun q => h (by
      have q2 : ∃ d ∈ R, d.x = b.x ∧ d.why = 0 := of_decide_eq_true q
      obtain ⟨c, hc, h1, h2⟩ := q2
      rw [← uniqB hr hc hb h1]; exact h2))]; rfl
theorem toldX_len (R : List Brn) (xs : List Xid) : (toldX R xs).length ≤ xs.length := List.length_filter_le _ _
theorem told_all {R : List Brn} {A : List Asc} (hT : TabOk R A) (s : Int) : toldX R (withX A s) = leaveT R A s := by
  classical
  refine rx_eq ((withX_rises hT.2.1 s).filter _) ?_ (fun x => ?_)
  · unfold leaveT
    exact List.pairwise_map.2 (hT.1.2.filter _)
  · unfold toldX leaveT
    rw [List.mem_filter, List.mem_map, withX_mem, decide_eq_true_iff]
    constructor
    · rintro ⟨h1, b, hb, rfl, h2⟩
      exact ⟨b, List.mem_filter.2 ⟨hb, decide_eq_true ⟨h1, h2⟩⟩, rfl⟩
    · rintro ⟨b, hb, rfl⟩
      obtain ⟨h1, h2⟩ := List.mem_filter.1 hb
      have h5 : Mem A s b.x ∧ b.why = 0 := of_decide_eq_true h2
      obtain ⟨h3, h4⟩ := h5
      exact ⟨h3, b, h1, rfl, h4⟩
theorem with_row {R : List Brn} {A : List Asc} (hT : TabOk R A) {s : Int} {x : Xid} (h : x ∈ withX A s) : ∃ b ∈ R, b.x = x := by
  obtain ⟨j, hj, he⟩ := withX_mem.1 h
  obtain ⟨c, hc, h1, _⟩ := hT.2.2 _ (List.getElem_mem hj)
  exact ⟨c, hc, h1.trans (congrArg Prod.snd he)⟩
theorem take_fresh {L : List Xid} (h : RisesX L) {j : Nat} (hj : j < L.length) : L[j] ∉ L.take j := by
  intro q
  obtain ⟨i, hi, e⟩ := List.getElem_of_mem q
  rw [List.getElem_take] at e
  rw [List.length_take] at hi
  exact rx_nodup h (by omega) hj (by omega) e
end Go.Proofs.Ytcelpincmpjhkaa

/- Package branch: the closure of Leave. Conditions: what on hands it; the session is one. Written by gen_brLw.py. -/
namespace Go.Proofs.Ytcelpincmpjhkaa
set_option linter.unusedSimpArgs false
set_option linter.unusedVariables false
open Go.RowKit
theorem leave2 (w : World) (v : Value) (L : List Asc) (s : Int) (hs : Slc ascEnc 5 w v L) (hL : L.length ≤ 1000000) (hm : mayN L s (0, ⟨#[120]⟩, ⟨#[]⟩) = 0) :
    Calls Try.prog 96 #[v, .int .u64 s] w fun e w' => ∃ r, e = .returned (.tuple #[r, .int .i64 0]) ∧ Own w.heap.size 57 5 ascEnc w' r (outA L s) ∧ Below w.heap.size w w' := by
  have := leave_any w v L s hs hL
  rw [hm] at this
  exact this
theorem cnt_nonneg (L : List Asc) (x : Xid) : 0 ≤ cntA L x := by
  unfold cntA; split
  · have := List.length_filter_le (fun a : Asc => a.2.1 != x) L; omega
  · omega
theorem xcells {w : World} {g off n cap k : Nat} {L : List Xid} (h : Slc xEnc 3 w (.slice (some ⟨g, off, none⟩) n cap) L) (hk : k < L.length) :
    w.cell? ⟨g, off + k * 3, none⟩ = some (.int .u32 L[k].1) ∧ w.cell? ⟨g, off + k * 3 + 1, none⟩ = some (.string L[k].2.1) ∧ w.cell? ⟨g, off + k * 3 + 2, none⟩ = some (.string L[k].2.2) :=
  ⟨h.get k hk 0 _ rfl, h.get k hk 1 _ rfl, h.get k hk 2 _ rfl⟩

set_option maxRecDepth 100000 in
set_option maxHeartbeats 6400000 in
theorem leave_do (s : Nat) (w1 : World) (tb sb qb : Nat) (rv av : Value) (R : List Brn) (A : List Asc) (se : Int) (hpre : DoPre s w1 tb rv av R A) (s1 : Blk w1 sb [.int .u64 se]) (hss : sb < s) (q1 : Blk w1 qb [.slice none 0 0]) (hqs : qb < s) (hsq : sb ≠ qb) (hTab : TabOk R A) (hse : se ≠ 0) (hLR : R.length ≤ 1000000) (hLA : A.length ≤ 1000000) :
    Calls Try.prog 95 #[.pointer (some ⟨tb, 0, none⟩), .pointer (some ⟨sb, 0, none⟩), .pointer (some ⟨qb, 0, none⟩)] w1 (DoPost s tb (leaveR R A se, outA A se, 0, 0) (fun k => k = qb) (Told s qb (leaveT R A se)) w1) := by
  obtain ⟨hroom, t1, hhigh, hO1, hA1, hrt, hat, hap⟩ := hpre
  obtain ⟨ra, rc, rfl⟩ := own_len hO1
  obtain ⟨aa, ac, rfl⟩ := own_len hA1
  have hat' := Lib.hid hat; have hap' := Lib.hid hap; have hrt' := Lib.hid hrt
  have hmay := Lib.hid (mayz_yes (x := ((0, ⟨#[120]⟩, ⟨#[]⟩) : Xid)) hTab.2.1 hse (by decide))
  have hTb := Lib.hid hTab
  clear hat hap hrt hTab hse
  have c0 := t1.at 0 rfl; have c1 := t1.at 1 rfl; have cq := q1.at 0 rfl; have cs := s1.at 0 rfl
  go_enter Try.func95, Try.ntmps95
  go_wp2
  clear c0 c1 cq cs
  go_loopw [5, 17] (fun s5 s17 wr => ∃ k : Nat, k ≤ A.length ∧ s17 = .int .i64 k ∧ Own w1.heap.size 28 3 xEnc wr s5 (withX (A.take k) se) ∧ Below w1.heap.size w1 wr) (fun _ s17 _ => A.length - (intOf s17).toNat)
  case atStart => exact ⟨0, by omega, rfl, Own.nil, Below.refl _ _⟩
  case round =>
    obtain ⟨k, hk, rfl, hX, hB⟩ := hrel
    have ss := s1.pure hB
    have hAr := hA1.pure hB
    have hBs := hB.size
    have cs := ss.at 0 rfl
    by_cases hlt : k < A.length
    · obtain ⟨ga, rfl, hga⟩ := own_at' hAr hlt
      obtain ⟨c0, c1, c2, c3, c4⟩ := asc_cells (hAr.slc ascEnc_len) hlt
      simp only [Nat.zero_add] at c0 c1 c2 c3 c4
      have hk0 : (0 : Int) ≤ (k : Int) := by omega
      have hk1 : (k : Int) < (A.length : Int) := by omega
      have hsn := Lib.hid (withX_snoc (s := se) hlt)
      have hll : (withX (A.take k) se).length ≤ k := Nat.le_trans (withX_len _ _) (by rw [List.length_take]; omega)
      obtain ⟨y, hy⟩ : ∃ y, A[k].2.1 = y := ⟨_, rfl⟩
      obtain ⟨yf, yg, yb⟩ := y
      rw [hy] at c1 c2 c3 hsn
      clear hy
      have cb := Blk.new wr [.int .u64 A[k].1, .int .u32 yf, .string yg, .string yb, .bool A[k].2.2] 57
      have n0 := cb.at 0 rfl; have n1 := cb.at 1 rfl; have n2 := cb.at 2 rfl; have n3 := cb.at 3 rfl
      have hO1b := (Below.refl wr.heap.size wr).alloc (Nat.le_refl _) (.cells #[.int .u64 A[k].1, .int .u32 yf, .string yg, .string yb, .bool A[k].2.2] 57)
      have nss := (ss.pure hO1b).at 0 rfl
      by_cases hq : A[k].1 = se
      · have hqb : (A[k].1 == se) = true := by rw [hq]; simp
        have hN := Lib.hid (show withX (A.take (k + 1)) se = withX (A.take k) se ++ [(yf, yg, yb)] by rw [hsn.out, if_pos hqb])
        clear hq
        go_wp2_with (first | (at_builtin; refine wpList_app1 (base := w1.heap.size) rfl (.tmp 25) (.tmp 28) 52 28 rfl elem_xid xEnc_len xEnc_one u5 (withX (A.take k) se) rfl ((hX.alloc _).alloc _) (wr.heap.size + 1) 1 (yf, yg, yb) rfl (fun j u hu => ((Blk.newAt2 _ (xEnc (yf, yg, yb)) 28 (wr.heap.size + 1) (by simp)).cell j).trans hu) (by omega) (by unfold maxLen; omega) (by simp; omega) ?_; intro g' cap' w4 hown hgr hfr))
        go_roundw
        case rel => exact ⟨k + 1, by omega, by go_num, by rw [hN.out]; exact hown, ((hB.alloc hBs _).alloc (by simp; omega) _).grown hgr (by simp; omega) (fun j e => hX.ge e)⟩
        case measure => simp [intOf]; omega
      · have hqb : (A[k].1 == se) = false := beq_eq_false_iff_ne.2 hq
        have hN := Lib.hid (show withX (A.take (k + 1)) se = withX (A.take k) se by rw [hsn.out, if_neg (by rw [hqb]; simp)]; simp)
        clear hq
        go_wp2
        go_roundw
        case rel => exact ⟨k + 1, by omega, by go_num, by rw [hN.out]; exact hX.alloc _, hB.alloc hBs _⟩
        case measure => simp [intOf]; omega
    · obtain rfl : k = A.length := by omega
      rw [List.take_length] at hX
      clear hlt hk cs
      obtain ⟨X, hX0⟩ : ∃ X, withX A se = X := ⟨_, rfl⟩
      rw [hX0] at hX
      have hXr := hX
      have hXe := Lib.hid hX0
      have hXl : X.length ≤ 1000000 := by rw [← hX0]; exact Nat.le_trans (withX_len _ _) hLA
      have hXs := Lib.hid (hX0 ▸ withX_rises hTb.out.2.1 se)
      clear hX hX0
      obtain ⟨wa, wc, rfl⟩ := own_len hXr
      have tt := t1.pure hB; have qq := q1.pure hB; have hOr := hO1.pure hB
      have hUr := Upd.of_below (S := fun k => k = qb ∨ s + 5 ≤ k) hB
      have css := ss.at 0 rfl; have ct1 := tt.at 1 rfl
      go_upto_region 8 with fail
      refine wp_region_held_drew (S := (fun w' => w'.cell? ⟨sb, 0, none⟩ = some (.int .u64 se))) (by kernel_rfl) ?_ (fun hHeld => ?_)
      · (first | with_reducible exact css3 | with_reducible exact css2 | exact css)
      refine takeY 0 31 rfl rfl (v := ?_) ?_ hHeld ?_
      rotate_left 1
      · (intro w hSw; (try dsimp only at hSw); go_simp; (try with_reducible rfl))
      try simp only [Act.put, lsT, lsZ, lsS]
      refine takeY 1 32 rfl rfl (v := ?_) ?_ hHeld ?_
      rotate_left 1
      · (intro w hSw; (try dsimp only at hSw); go_simp; (try with_reducible rfl))
      try simp only [Act.put, lsT, lsZ, lsS]
      refine takeY 2 33 rfl rfl (v := ?_) ?_ hHeld ?_
      rotate_left 1
      · (intro w hSw; (try dsimp only at hSw); go_simp; (try with_reducible rfl))
      try simp only [Act.put, lsT, lsZ, lsS]
      refine takeY 3 34 rfl rfl (v := ?_) ?_ hHeld ?_
      rotate_left 1
      · (intro w hSw; (try dsimp only at hSw); go_simp; (try with_reducible rfl))
      try simp only [Act.put, lsT, lsZ, lsS]
      refine takeY 4 35 rfl rfl (v := ?_) ?_ hHeld ?_
      rotate_left 1
      · (intro w hSw; (try dsimp only at hSw); go_simp; (try with_reducible rfl))
      try simp only [Act.put, lsT, lsZ, lsS]
      refine takeY 6 37 rfl rfl (v := ?_) ?_ hHeld ?_
      rotate_left 1
      · (intro w hSw; (try dsimp only at hSw); go_simp; (try with_reducible rfl))
      try simp only [Act.put, lsT, lsZ, lsS]
      refine wpAnyH_ready (rs := [5]) (by kernel_rfl) (by simp) ?_
      refine AllReadyH.cons rfl (fun K hK => ?_) AllReadyH.nil
      go_simp
      refine hK.out _ _ ?_ (fun hHeld => ?_)
      · (first | with_reducible exact css3 | with_reducible exact css2 | exact css)
      clear hK K
      try simp only [Act.put, lsT, lsZ, lsS]
      refine wpAnyH_ready (rs := [7]) (by kernel_rfl) (by simp) ?_
      refine AllReadyH.cons rfl (fun K hK => ?_) AllReadyH.nil
      go_simp
      go_at_call 96
      refine (leave2 _ (.slice aa A.length ac) A se (hAr.drew.slc ascEnc_len) hLA hmay.out).mono ?_
      rintro e w2 ⟨v2, rfl, hM, hB2⟩
      have t2 := tt.drew.pure hB2; have s2 := ss.drew.pure hB2; have q2 := qq.drew.pure hB2; have O2 := hOr.drew.pure hB2; have X2 := hXr.drew.pure hB2; have css2 := s2.at 0 rfl
      have U2 := hUr.trans (Upd.of_below (S := fun k => k = qb ∨ s + 5 ≤ k) (below_dr (Below.refl _ _))) (fun _ h _ => h) |>.trans (Upd.of_below (S := fun k => k = qb ∨ s + 5 ≤ k) hB2) (fun _ h _ => h)
      refine hK.out _ _ ?_ (fun hHeld => ?_)
      · (first | with_reducible exact css3 | with_reducible exact css2 | exact css)
      clear hK K
      try simp only [Act.put, lsT, lsZ, lsS]
      refine takeY 8 39 rfl rfl (v := ?_) ?_ hHeld ?_
      rotate_left 1
      · (intro w hSw; (try dsimp only at hSw); go_simp; (try with_reducible rfl))
      try simp only [Act.put, lsT, lsZ, lsS]
      refine takeY 9 40 rfl rfl (v := ?_) ?_ hHeld ?_
      rotate_left 1
      · (intro w hSw; (try dsimp only at hSw); go_simp; (try with_reducible rfl))
      try simp only [Act.put, lsT, lsZ, lsS]
      refine wpAnyH_ready (rs := [10]) (by kernel_rfl) (by simp) ?_
      refine AllReadyH.cons rfl (fun K hK => ?_) AllReadyH.nil
      go_simp
      go_at_call 52
      refine (tlink_ok _ tb (.slice ra R.length rc) (.slice aa A.length ac) _ t2 hM).mono ?_
      rintro e w3 ⟨rfl, t3, hUl⟩
      have s3 := s2.upd hUl (by omega); have css3 := s3.at 0 rfl; have q3 := q2.upd hUl (by omega); have O3 := O2.upd hUl (fun j hj e => hrt'.out (by rw [hj, e])); have hMt : ∀ j, v2.ownBlock = some j → j ≠ tb := fun j hj e => by (have h1 := hM.ge hj; have h2 := tt.lt; simp at h1; omega)
      have X3 := X2.upd hUl (fun j hj e => by (have h1 := hXr.ge hj; have h2 := t1.lt; omega)); have A3 := (hM.upd hUl (fun j hj e => hMt j hj e)).rebase (b' := s + 5) (fun j hj => by (have h1 := hM.ge hj; simp at h1; omega)); have U3 := U2.trans (hUl.mono (T := fun k => k = qb ∨ s + 5 ≤ k) (fun k h _ => Or.inr (by rw [h]; exact hhigh))) (fun _ h _ => h)
      refine hK.out _ _ ?_ (fun hHeld => ?_)
      · (first | with_reducible exact css3 | with_reducible exact css2 | exact css)
      clear hK K
      try simp only [Act.put, lsT, lsZ, lsS]
      refine wpAnyH_done (by kernel_rfl) ?_ _
      go_wp2
      have tbN := t3.lt; have qbN := q3.lt
      have hXw := Lib.hid (fun (i : Nat) (hi : Value.ownBlock (.slice wa X.length wc) = some i) => X3.lt hi)
      have hMt' := Lib.hid hMt; clear hMt
      have hLC : (outA A se).length ≤ 1000000 := Nat.le_trans (outA_len A se) hLA
      have htb1 := t1.lt
      clear css css2 css3 ct1
      go_loopw [44] (fun s44 wq => ∃ (j : Nat) (rv' tv : Value), j ≤ X.length ∧ s44 = .int .i64 j ∧ Blk wq tb [rv', v2] ∧ Own (s + 5) 44 7 brEnc wq rv' (stepR R (outA A se) (X.take j)) ∧ rv'.ownBlock ≠ some tb ∧ Own (s + 5) 57 5 ascEnc wq v2 (outA A se) ∧ Blk wq qb [tv] ∧ Own w3.heap.size 28 3 xEnc wq tv (toldX R (X.take j)) ∧ Own w1.heap.size 28 3 xEnc wq (.slice wa X.length wc) X ∧ Upd (fun k => k = qb ∨ s + 5 ≤ k) w1 wq ∧ w3.heap.size ≤ wq.heap.size) (fun s44 _ => X.length - (intOf s44).toNat)
      case atStart => exact ⟨0, .slice ra R.length rc, .slice none 0 0, by omega, rfl, t3, by rw [List.take_zero, stepR_nil]; exact O3, hrt'.out, A3, q3, by rw [List.take_zero]; exact Own.nil, X3, U3, Nat.le_refl _⟩
      case round =>
        clear t2 s2 q2 O2 X2 U2 t3 s3 q3 O3 X3 A3 U3 tt qq hOr hUr hM hB2 hUl ss
        obtain ⟨j, rv', tv, hj, rfl, tt, hO, hrv, hAc, qq, hT, hX, hU, hN⟩ := hrel
        have hrv' := Lib.hid hrv; clear hrv
        obtain ⟨ta, tn, tc, rfl⟩ := hT.shape3
        by_cases hlt : j < X.length
        · obtain ⟨gw, rfl, hgw⟩ := own_at' hX hlt
          obtain ⟨c0, c1, c2⟩ := xcells (hX.slc xEnc_len) hlt
          simp only [Nat.zero_add] at c0 c1 c2
          obtain ⟨b, hbR, hbx⟩ := with_row hTb.out (s := se) (x := X[j]) (by rw [hXe.out]; exact List.getElem_mem hlt)
          have hfr : b.x ∉ X.take j := by rw [hbx]; exact take_fresh hXs.out hlt
          obtain ⟨k, hk, hke⟩ := stepR_at (C := (outA A se)) hbR hfr
          have htk : X.take (j + 1) = X.take j ++ [b.x] := by rw [List.take_succ_eq_append_getElem hlt, hbx]
          obtain ⟨x, hx0⟩ : ∃ x, X[j] = x := ⟨_, rfl⟩
          rw [hx0] at hbx c0 c1 c2
          have hst := Lib.hid (fun (hc : cntA (outA A se) x ≠ 0) => show (stepR R (outA A se) (X.take j)).set k (b.spoil 1) = stepR R (outA A se) (X.take (j + 1)) by rw [htk]; exact step_stay hTb.out.1.2 hbR hfr (by rw [hbx]; exact hc) hk hke)
          have hgo := Lib.hid (fun (hc : cntA (outA A se) x = 0) => show withoutB ((stepR R (outA A se) (X.take j)).set k (b.spoil 1)) x = stepR R (outA A se) (X.take (j + 1)) by rw [htk, ← hbx]; exact step_gone hTb.out.1.2 hbR hfr (by rw [hbx]; exact hc) hk hke)
          have hto := Lib.hid (show toldX R (X.take (j + 1)) = toldX R (X.take j) ++ (if b.why = 0 then [x] else []) by rw [htk, ← hbx]; exact toldX_snoc hTb.out.1.2 hbR)
          have hRr := Lib.hid (stepR_rises hTb.out.1.2 (outA A se) (X.take j))
          have hRl := Nat.le_trans (stepR_len R (outA A se) (X.take j)) hLR
          have hTl : (toldX R (X.take j)).length ≤ j := Nat.le_trans (toldX_len R _) (by rw [List.length_take]; omega)
          clear hx0 htk hfr hbR
          generalize hRR : stepR R (outA A se) (X.take j) = RR at hO hk hke hst hgo hRr hRl
          clear hRR
          subst hke
          obtain ⟨xf, xg, xb⟩ := x
          have hbx' := Lib.hid hbx; clear hbx
          obtain ⟨ra', rc', rfl⟩ := own_len hO
          obtain ⟨g, rfl, hg⟩ := own_at' hO hk
          have hgt : g ≠ tb := fun e => hrv'.out (by rw [e]; rfl)
          have hgl := hO.lt (k := g) rfl
          have hgne := Lib.hid (show Value.ownBlock (.slice (some ⟨g, 0, none⟩) RR.length rc') ≠ some tb from fun e => hgt (by injection e))
          have hsr := Lib.hid (set_rises hk hRr.out (RR[k].spoil 1) rfl)
          have hsl := Lib.hid (show (RR.set k (RR[k].spoil 1)).length ≤ 1000000 by rw [List.length_set]; exact hRl)
          have hj0 : (0 : Int) ≤ (j : Int) := by omega
          have hj1 : (j : Int) < (X.length : Int) := by omega
          have hTg := Lib.hid (fun (i : Nat) (hi : Value.ownBlock (.slice ta tn tc) = some i) => And.intro (hT.ge hi) (hT.lt hi))
          have xbk := Blk.new wr [.int .u32 xf, .string xg, .string xb] 28
          have d0 := xbk.at 0 rfl; have d1 := xbk.at 1 rfl; have d2 := xbk.at 2 rfl
          have hBx := (Below.refl wr.heap.size wr).alloc (Nat.le_refl _) (.cells #[.int .u32 xf, .string xg, .string xb] 28)
          by_cases hw : RR[k].why = 0
          · have hwb : (RR[k].why == 0) = true := by rw [hw]; rfl
            have hwc := Lib.hid (show (if RR[k].why = 0 then [(xf, xg, xb)] else []) = [((xf, xg, xb) : Xid)] from if_pos hw)
            clear hw
            by_cases hc : 0 < cntA (outA A se) (xf, xg, xb)
            · have hbz := Lib.hid (decide_eq_true hc)
              have hcz := Lib.hid (show cntA (outA A se) (xf, xg, xb) ≠ 0 by have h := cnt_nonneg (outA A se) (xf, xg, xb); omega)
              clear hc
              go_wp2_with (first | (go_at_call 54; (with_reducible refine (trow_yes _ tb g RR.length rc' v2 RR (xf, xg, xb) k (tt.pure hBx) ((hO.pure hBx).slc brEnc_len) hRr.out hRl hk hbx'.out).mono ?_); rintro e w4 ⟨rfl, hB4⟩; have t4 := (tt.pure hBx).pure hB4; have q4 := (qq.pure hBx).pure hB4; have x4 := xbk.pure hB4; have O4 := (hO.pure hBx).pure hB4; have A4 := (hAc.pure hBx).pure hB4; have T4 := (hT.pure hBx).pure hB4; have X4 := (hX.pure hBx).pure hB4; have U4 := (hU.trans (Upd.of_below (S := fun k => k = qb ∨ s + 5 ≤ k) hBx) (fun _ h _ => h)).trans (Upd.of_below (S := fun k => k = qb ∨ s + 5 ≤ k) hB4) (fun _ h _ => h); have N4 : w3.heap.size ≤ w4.heap.size := Nat.le_trans hN (Nat.le_trans hBx.size hB4.size); have Z4 : wr.heap.size + 1 ≤ w4.heap.size := (by have h := hB4.size; simpa using h); clear d0 d1 d2; have d0 := x4.at 0 rfl; have d1 := x4.at 1 rfl; have d2 := x4.at 2 rfl; have e0 := q4.at 0 rfl; obtain ⟨r0, r1, r2, r3, r4, r5, r6⟩ := br_cells (O4.slc brEnc_len) hk; simp only [Nat.zero_add] at r0 r1 r2 r3 r4 r5 r6) | (at_builtin; refine wpList_app1 (base := w3.heap.size) rfl (.tmp 56) (.tmp 58) 52 28 rfl elem_xid xEnc_len xEnc_one (.slice ta tn tc) (toldX R (X.take j)) rfl (T4.alloc _) w4.heap.size 1 (xf, xg, xb) rfl (fun i u hu => ((Blk.new w4 (xEnc (xf, xg, xb)) 28).cell i).trans hu) (by omega) (by unfold maxLen; omega) (by simp; omega) ?_; intro g' cap' w5 hown hgr hfr; have hUg := Upd.grown (S := fun i => Value.ownBlock (.slice ta tn tc) = some i) hgr (fun i e => e); have t5 := (t4.alloc (.cells #[.int .u32 xf, .string xg, .string xb] 28)).upd hUg (fun e => by have h1 := (hTg.out _ e).1; omega); have q5 := (q4.alloc (.cells #[.int .u32 xf, .string xg, .string xb] 28)).upd hUg (fun e => by have h1 := (hTg.out _ e).1; omega); have x5 := (x4.alloc (.cells #[.int .u32 xf, .string xg, .string xb] 28)).upd hUg (fun e => by have h1 := (hTg.out _ e).2; omega); have O5 := (O4.alloc (.cells #[.int .u32 xf, .string xg, .string xb] 28)).upd hUg (fun i hi e => own_far O4 T4 (by decide) hi e); have A5 := (A4.alloc (.cells #[.int .u32 xf, .string xg, .string xb] 28)).upd hUg (fun i hi e => own_far A4 T4 (by decide) hi e); have X5 := (X4.alloc (.cells #[.int .u32 xf, .string xg, .string xb] 28)).upd hUg (fun i hi e => by have h1 := (hTg.out _ e).1; have h2 := hXw.out i hi; omega); have U5 := (U4.trans (Upd.of_below (S := fun k => k = qb ∨ s + 5 ≤ k) ((Below.refl w4.heap.size w4).alloc (Nat.le_refl _) (.cells #[.int .u32 xf, .string xg, .string xb] 28))) (fun _ h _ => h)).trans (hUg.mono (T := fun k => k = qb ∨ s + 5 ≤ k) (fun i h _ => Or.inr (by have h1 := (hTg.out _ h).1; omega))) (fun _ h _ => h); have N5 : w3.heap.size ≤ w5.heap.size := Nat.le_trans N4 (Nat.le_trans (by simp) hgr.size); have Z5 : wr.heap.size + 1 ≤ w5.heap.size := Nat.le_trans Z4 (Nat.le_trans (by simp) hgr.size); have e1 := q5.at 0 rfl; have e2 := q5.frozen 0; have t9 := t5.other ⟨qb, 0, none⟩ (.slice (some ⟨g', 0, none⟩) ((toldX R (X.take j)).length + 1) cap') (by simp only; omega); have x9 := x5.other ⟨qb, 0, none⟩ (.slice (some ⟨g', 0, none⟩) ((toldX R (X.take j)).length + 1) cap') (by simp only; omega); have O9 := O5.low qb 0 (.slice (some ⟨g', 0, none⟩) ((toldX R (X.take j)).length + 1) cap') (by omega); have A9 := A5.low qb 0 (.slice (some ⟨g', 0, none⟩) ((toldX R (X.take j)).length + 1) cap') (by omega); have X9 := X5.low qb 0 (.slice (some ⟨g', 0, none⟩) ((toldX R (X.take j)).length + 1) cap') (by omega); have T9 := hown.low qb 0 (.slice (some ⟨g', 0, none⟩) ((toldX R (X.take j)).length + 1) cap') (by omega); have q9 := q5.set 0 (.slice (some ⟨g', 0, none⟩) ((toldX R (X.take j)).length + 1) cap'); have U9 := U5.trans (Upd.set (S := fun k => k = qb ∨ s + 5 ≤ k) (p := ⟨qb, 0, none⟩) (Or.inl rfl) (.slice (some ⟨g', 0, none⟩) ((toldX R (X.take j)).length + 1) cap')) (fun _ h _ => h); have N9 := Nat.le_trans N5 (Upd.set (S := fun _ => True) (p := ⟨qb, 0, none⟩) trivial (.slice (some ⟨g', 0, none⟩) ((toldX R (X.take j)).length + 1) cap')).size; have Z9 := Nat.le_trans Z5 (Upd.set (S := fun _ => True) (p := ⟨qb, 0, none⟩) trivial (.slice (some ⟨g', 0, none⟩) ((toldX R (X.take j)).length + 1) cap')).size; have m0 := x9.at 0 rfl; have m1 := x9.at 1 rfl; have m2 := x9.at 2 rfl) | (go_at_call 68; (with_reducible refine (spoil_any _ g RR.length rc' k RR 1 O9 hk).mono ?_); rintro e w6 ⟨rfl, O6, hU6⟩; have t6 := t9.upd hU6 (fun e => hgt e.symm); have q6 := q9.upd hU6 (by omega); have x6 := x9.upd hU6 (by omega); have A6 := A9.upd hU6 (fun i hi e => own_far A9 O9 (by decide) hi (by rw [e]; rfl)); have T6 := T9.upd hU6 (fun i hi e => own_far T9 O9 (by decide) hi (by rw [e]; rfl)); have X6 := X9.upd hU6 (fun i hi e => own_far X9 O9 (by decide) hi (by rw [e]; rfl)); have U6 := U9.trans (hU6.mono (T := fun k => k = qb ∨ s + 5 ≤ k) (fun k h _ => Or.inr (by rw [h]; exact hg))) (fun _ h _ => h); have N6 := Nat.le_trans N9 hU6.size; have f0 := x6.at 0 rfl; have f1 := x6.at 1 rfl; have f2 := x6.at 2 rfl) | (go_at_call 81; (with_reducible refine (tbusy2 _ tb _ v2 (outA A se) (xf, xg, xb) true t6 (A6.slc ascEnc_len) hLC hbz.out).mono ?_); rintro e w7 ⟨rfl, hB7⟩; have t7 := t6.pure hB7; have q7 := q6.pure hB7; have x7 := x6.pure hB7; have O7 := O6.pure hB7; have A7 := A6.pure hB7; have T7 := T6.pure hB7; have X7 := X6.pure hB7; have U7 := U6.trans (Upd.of_below (S := fun k => k = qb ∨ s + 5 ≤ k) hB7) (fun _ h _ => h); have N7 := Nat.le_trans N6 hB7.size; have g0 := x7.at 0 rfl; have g1 := x7.at 1 rfl; have g2 := x7.at 2 rfl))
              go_roundw
              case rel => exact ⟨j + 1, _, _, by omega, by go_num, t7, by rw [← hst.out hcz.out]; exact O7, fun e => hgt (by injection e), A7, q7, by rw [hto.out, hwc.out]; exact T7, X7, U7, N7⟩
              case measure => simp [intOf]; omega
            · have hbz := Lib.hid (decide_eq_false hc)
              have hcz := Lib.hid (show cntA (outA A se) (xf, xg, xb) = 0 by have h := cnt_nonneg (outA A se) (xf, xg, xb); omega)
              clear hc
              go_wp2_with (first | (go_at_call 54; (with_reducible refine (trow_yes _ tb g RR.length rc' v2 RR (xf, xg, xb) k (tt.pure hBx) ((hO.pure hBx).slc brEnc_len) hRr.out hRl hk hbx'.out).mono ?_); rintro e w4 ⟨rfl, hB4⟩; have t4 := (tt.pure hBx).pure hB4; have q4 := (qq.pure hBx).pure hB4; have x4 := xbk.pure hB4; have O4 := (hO.pure hBx).pure hB4; have A4 := (hAc.pure hBx).pure hB4; have T4 := (hT.pure hBx).pure hB4; have X4 := (hX.pure hBx).pure hB4; have U4 := (hU.trans (Upd.of_below (S := fun k => k = qb ∨ s + 5 ≤ k) hBx) (fun _ h _ => h)).trans (Upd.of_below (S := fun k => k = qb ∨ s + 5 ≤ k) hB4) (fun _ h _ => h); have N4 : w3.heap.size ≤ w4.heap.size := Nat.le_trans hN (Nat.le_trans hBx.size hB4.size); have Z4 : wr.heap.size + 1 ≤ w4.heap.size := (by have h := hB4.size; simpa using h); clear d0 d1 d2; have d0 := x4.at 0 rfl; have d1 := x4.at 1 rfl; have d2 := x4.at 2 rfl; have e0 := q4.at 0 rfl; obtain ⟨r0, r1, r2, r3, r4, r5, r6⟩ := br_cells (O4.slc brEnc_len) hk; simp only [Nat.zero_add] at r0 r1 r2 r3 r4 r5 r6) | (at_builtin; refine wpList_app1 (base := w3.heap.size) rfl (.tmp 56) (.tmp 58) 52 28 rfl elem_xid xEnc_len xEnc_one (.slice ta tn tc) (toldX R (X.take j)) rfl (T4.alloc _) w4.heap.size 1 (xf, xg, xb) rfl (fun i u hu => ((Blk.new w4 (xEnc (xf, xg, xb)) 28).cell i).trans hu) (by omega) (by unfold maxLen; omega) (by simp; omega) ?_; intro g' cap' w5 hown hgr hfr; have hUg := Upd.grown (S := fun i => Value.ownBlock (.slice ta tn tc) = some i) hgr (fun i e => e); have t5 := (t4.alloc (.cells #[.int .u32 xf, .string xg, .string xb] 28)).upd hUg (fun e => by have h1 := (hTg.out _ e).1; omega); have q5 := (q4.alloc (.cells #[.int .u32 xf, .string xg, .string xb] 28)).upd hUg (fun e => by have h1 := (hTg.out _ e).1; omega); have x5 := (x4.alloc (.cells #[.int .u32 xf, .string xg, .string xb] 28)).upd hUg (fun e => by have h1 := (hTg.out _ e).2; omega); have O5 := (O4.alloc (.cells #[.int .u32 xf, .string xg, .string xb] 28)).upd hUg (fun i hi e => own_far O4 T4 (by decide) hi e); have A5 := (A4.alloc (.cells #[.int .u32 xf, .string xg, .string xb] 28)).upd hUg (fun i hi e => own_far A4 T4 (by decide) hi e); have X5 := (X4.alloc (.cells #[.int .u32 xf, .string xg, .string xb] 28)).upd hUg (fun i hi e => by have h1 := (hTg.out _ e).1; have h2 := hXw.out i hi; omega); have U5 := (U4.trans (Upd.of_below (S := fun k => k = qb ∨ s + 5 ≤ k) ((Below.refl w4.heap.size w4).alloc (Nat.le_refl _) (.cells #[.int .u32 xf, .string xg, .string xb] 28))) (fun _ h _ => h)).trans (hUg.mono (T := fun k => k = qb ∨ s + 5 ≤ k) (fun i h _ => Or.inr (by have h1 := (hTg.out _ h).1; omega))) (fun _ h _ => h); have N5 : w3.heap.size ≤ w5.heap.size := Nat.le_trans N4 (Nat.le_trans (by simp) hgr.size); have Z5 : wr.heap.size + 1 ≤ w5.heap.size := Nat.le_trans Z4 (Nat.le_trans (by simp) hgr.size); have e1 := q5.at 0 rfl; have e2 := q5.frozen 0; have t9 := t5.other ⟨qb, 0, none⟩ (.slice (some ⟨g', 0, none⟩) ((toldX R (X.take j)).length + 1) cap') (by simp only; omega); have x9 := x5.other ⟨qb, 0, none⟩ (.slice (some ⟨g', 0, none⟩) ((toldX R (X.take j)).length + 1) cap') (by simp only; omega); have O9 := O5.low qb 0 (.slice (some ⟨g', 0, none⟩) ((toldX R (X.take j)).length + 1) cap') (by omega); have A9 := A5.low qb 0 (.slice (some ⟨g', 0, none⟩) ((toldX R (X.take j)).length + 1) cap') (by omega); have X9 := X5.low qb 0 (.slice (some ⟨g', 0, none⟩) ((toldX R (X.take j)).length + 1) cap') (by omega); have T9 := hown.low qb 0 (.slice (some ⟨g', 0, none⟩) ((toldX R (X.take j)).length + 1) cap') (by omega); have q9 := q5.set 0 (.slice (some ⟨g', 0, none⟩) ((toldX R (X.take j)).length + 1) cap'); have U9 := U5.trans (Upd.set (S := fun k => k = qb ∨ s + 5 ≤ k) (p := ⟨qb, 0, none⟩) (Or.inl rfl) (.slice (some ⟨g', 0, none⟩) ((toldX R (X.take j)).length + 1) cap')) (fun _ h _ => h); have N9 := Nat.le_trans N5 (Upd.set (S := fun _ => True) (p := ⟨qb, 0, none⟩) trivial (.slice (some ⟨g', 0, none⟩) ((toldX R (X.take j)).length + 1) cap')).size; have Z9 := Nat.le_trans Z5 (Upd.set (S := fun _ => True) (p := ⟨qb, 0, none⟩) trivial (.slice (some ⟨g', 0, none⟩) ((toldX R (X.take j)).length + 1) cap')).size; have m0 := x9.at 0 rfl; have m1 := x9.at 1 rfl; have m2 := x9.at 2 rfl) | (go_at_call 68; (with_reducible refine (spoil_any _ g RR.length rc' k RR 1 O9 hk).mono ?_); rintro e w6 ⟨rfl, O6, hU6⟩; have t6 := t9.upd hU6 (fun e => hgt e.symm); have q6 := q9.upd hU6 (by omega); have x6 := x9.upd hU6 (by omega); have A6 := A9.upd hU6 (fun i hi e => own_far A9 O9 (by decide) hi (by rw [e]; rfl)); have T6 := T9.upd hU6 (fun i hi e => own_far T9 O9 (by decide) hi (by rw [e]; rfl)); have X6 := X9.upd hU6 (fun i hi e => own_far X9 O9 (by decide) hi (by rw [e]; rfl)); have U6 := U9.trans (hU6.mono (T := fun k => k = qb ∨ s + 5 ≤ k) (fun k h _ => Or.inr (by rw [h]; exact hg))) (fun _ h _ => h); have N6 := Nat.le_trans N9 hU6.size; have f0 := x6.at 0 rfl; have f1 := x6.at 1 rfl; have f2 := x6.at 2 rfl) | (go_at_call 81; (with_reducible refine (tbusy2 _ tb _ v2 (outA A se) (xf, xg, xb) false t6 (A6.slc ascEnc_len) hLC hbz.out).mono ?_); rintro e w7 ⟨rfl, hB7⟩; have t7 := t6.pure hB7; have q7 := q6.pure hB7; have x7 := x6.pure hB7; have O7 := O6.pure hB7; have A7 := A6.pure hB7; have T7 := T6.pure hB7; have X7 := X6.pure hB7; have U7 := U6.trans (Upd.of_below (S := fun k => k = qb ∨ s + 5 ≤ k) hB7) (fun _ h _ => h); have N7 := Nat.le_trans N6 hB7.size; have g0 := x7.at 0 rfl; have g1 := x7.at 1 rfl; have g2 := x7.at 2 rfl) | (go_at_call 82; (with_reducible refine (tgone _ tb (.slice (some ⟨g, 0, none⟩) RR.length rc') v2 (RR.set k (RR[k].spoil 1)) (xf, xg, xb) t7 O7 hsr.out hsl.out hgne.out).mono ?_); rintro e w8 ⟨r8, rfl, t8, O8, hrb, hU8⟩; have A8 := A7.upd hU8 (fun i hi e => e.elim (fun e => hMt'.out i hi e) (fun e => own_far A7 O7 (by decide) hi e)); have T8 := T7.upd hU8 (fun i hi e => e.elim (fun e => by have h1 := T7.ge hi; omega) (fun e => own_far T7 O7 (by decide) hi e)); have X8 := X7.upd hU8 (fun i hi e => e.elim (fun e => by have h1 := X7.ge hi; omega) (fun e => own_far X7 O7 (by decide) hi e)); have q8 := q7.upd hU8 (fun e => e.elim (fun e => by omega) (fun e => by have h1 : some g = some qb := e; injection h1 with h1; omega)); have U8 := U7.trans (hU8.mono (T := fun k => k = qb ∨ s + 5 ≤ k) (fun k h _ => Or.inr (h.elim (fun h => by omega) (fun h => by have h1 : some g = some k := h; injection h1 with h1; omega)))) (fun _ h _ => h); have N8 := Nat.le_trans N7 hU8.size))
              go_roundw
              case rel => exact ⟨j + 1, _, _, by omega, by go_num, t8, by rw [← hgo.out hcz.out]; exact O8, by rw [hrb]; exact (fun e => hgt (by injection e)), A8, q8, by rw [hto.out, hwc.out]; exact T8, X8, U8, N8⟩
              case measure => simp [intOf]; omega
          · have hwb : (RR[k].why == 0) = false := beq_eq_false_iff_ne.2 hw
            have hwc := Lib.hid (show (if RR[k].why = 0 then [(xf, xg, xb)] else []) = ([] : List Xid) from if_neg hw)
            clear hw
            by_cases hc : 0 < cntA (outA A se) (xf, xg, xb)
            · have hbz := Lib.hid (decide_eq_true hc)
              have hcz := Lib.hid (show cntA (outA A se) (xf, xg, xb) ≠ 0 by have h := cnt_nonneg (outA A se) (xf, xg, xb); omega)
              clear hc
              go_wp2_with (first | (go_at_call 54; (with_reducible refine (trow_yes _ tb g RR.length rc' v2 RR (xf, xg, xb) k (tt.pure hBx) ((hO.pure hBx).slc brEnc_len) hRr.out hRl hk hbx'.out).mono ?_); rintro e w4 ⟨rfl, hB4⟩; have t4 := (tt.pure hBx).pure hB4; have q4 := (qq.pure hBx).pure hB4; have x4 := xbk.pure hB4; have O4 := (hO.pure hBx).pure hB4; have A4 := (hAc.pure hBx).pure hB4; have T4 := (hT.pure hBx).pure hB4; have X4 := (hX.pure hBx).pure hB4; have U4 := (hU.trans (Upd.of_below (S := fun k => k = qb ∨ s + 5 ≤ k) hBx) (fun _ h _ => h)).trans (Upd.of_below (S := fun k => k = qb ∨ s + 5 ≤ k) hB4) (fun _ h _ => h); have N4 : w3.heap.size ≤ w4.heap.size := Nat.le_trans hN (Nat.le_trans hBx.size hB4.size); have Z4 : wr.heap.size + 1 ≤ w4.heap.size := (by have h := hB4.size; simpa using h); clear d0 d1 d2; have d0 := x4.at 0 rfl; have d1 := x4.at 1 rfl; have d2 := x4.at 2 rfl; have e0 := q4.at 0 rfl; obtain ⟨r0, r1, r2, r3, r4, r5, r6⟩ := br_cells (O4.slc brEnc_len) hk; simp only [Nat.zero_add] at r0 r1 r2 r3 r4 r5 r6) | (go_at_call 68; (with_reducible refine (spoil_any _ g RR.length rc' k RR 1 O4 hk).mono ?_); rintro e w6 ⟨rfl, O6, hU6⟩; have t6 := t4.upd hU6 (fun e => hgt e.symm); have q6 := q4.upd hU6 (by omega); have x6 := x4.upd hU6 (by omega); have A6 := A4.upd hU6 (fun i hi e => own_far A4 O4 (by decide) hi (by rw [e]; rfl)); have T6 := T4.upd hU6 (fun i hi e => own_far T4 O4 (by decide) hi (by rw [e]; rfl)); have X6 := X4.upd hU6 (fun i hi e => own_far X4 O4 (by decide) hi (by rw [e]; rfl)); have U6 := U4.trans (hU6.mono (T := fun k => k = qb ∨ s + 5 ≤ k) (fun k h _ => Or.inr (by rw [h]; exact hg))) (fun _ h _ => h); have N6 := Nat.le_trans N4 hU6.size; have f0 := x6.at 0 rfl; have f1 := x6.at 1 rfl; have f2 := x6.at 2 rfl) | (go_at_call 81; (with_reducible refine (tbusy2 _ tb _ v2 (outA A se) (xf, xg, xb) true t6 (A6.slc ascEnc_len) hLC hbz.out).mono ?_); rintro e w7 ⟨rfl, hB7⟩; have t7 := t6.pure hB7; have q7 := q6.pure hB7; have x7 := x6.pure hB7; have O7 := O6.pure hB7; have A7 := A6.pure hB7; have T7 := T6.pure hB7; have X7 := X6.pure hB7; have U7 := U6.trans (Upd.of_below (S := fun k => k = qb ∨ s + 5 ≤ k) hB7) (fun _ h _ => h); have N7 := Nat.le_trans N6 hB7.size; have g0 := x7.at 0 rfl; have g1 := x7.at 1 rfl; have g2 := x7.at 2 rfl))
              go_roundw
              case rel => exact ⟨j + 1, _, _, by omega, by go_num, t7, by rw [← hst.out hcz.out]; exact O7, fun e => hgt (by injection e), A7, q7, by rw [hto.out, hwc.out]; rw [List.append_nil]; exact T7, X7, U7, N7⟩
              case measure => simp [intOf]; omega
            · have hbz := Lib.hid (decide_eq_false hc)
              have hcz := Lib.hid (show cntA (outA A se) (xf, xg, xb) = 0 by have h := cnt_nonneg (outA A se) (xf, xg, xb); omega)
              clear hc
              go_wp2_with (first | (go_at_call 54; (with_reducible refine (trow_yes _ tb g RR.length rc' v2 RR (xf, xg, xb) k (tt.pure hBx) ((hO.pure hBx).slc brEnc_len) hRr.out hRl hk hbx'.out).mono ?_); rintro e w4 ⟨rfl, hB4⟩; have t4 := (tt.pure hBx).pure hB4; have q4 := (qq.pure hBx).pure hB4; have x4 := xbk.pure hB4; have O4 := (hO.pure hBx).pure hB4; have A4 := (hAc.pure hBx).pure hB4; have T4 := (hT.pure hBx).pure hB4; have X4 := (hX.pure hBx).pure hB4; have U4 := (hU.trans (Upd.of_below (S := fun k => k = qb ∨ s + 5 ≤ k) hBx) (fun _ h _ => h)).trans (Upd.of_below (S := fun k => k = qb ∨ s + 5 ≤ k) hB4) (fun _ h _ => h); have N4 : w3.heap.size ≤ w4.heap.size := Nat.le_trans hN (Nat.le_trans hBx.size hB4.size); have Z4 : wr.heap.size + 1 ≤ w4.heap.size := (by have h := hB4.size; simpa using h); clear d0 d1 d2; have d0 := x4.at 0 rfl; have d1 := x4.at 1 rfl; have d2 := x4.at 2 rfl; have e0 := q4.at 0 rfl; obtain ⟨r0, r1, r2, r3, r4, r5, r6⟩ := br_cells (O4.slc brEnc_len) hk; simp only [Nat.zero_add] at r0 r1 r2 r3 r4 r5 r6) | (go_at_call 68; (with_reducible refine (spoil_any _ g RR.length rc' k RR 1 O4 hk).mono ?_); rintro e w6 ⟨rfl, O6, hU6⟩; have t6 := t4.upd hU6 (fun e => hgt e.symm); have q6 := q4.upd hU6 (by omega); have x6 := x4.upd hU6 (by omega); have A6 := A4.upd hU6 (fun i hi e => own_far A4 O4 (by decide) hi (by rw [e]; rfl)); have T6 := T4.upd hU6 (fun i hi e => own_far T4 O4 (by decide) hi (by rw [e]; rfl)); have X6 := X4.upd hU6 (fun i hi e => own_far X4 O4 (by decide) hi (by rw [e]; rfl)); have U6 := U4.trans (hU6.mono (T := fun k => k = qb ∨ s + 5 ≤ k) (fun k h _ => Or.inr (by rw [h]; exact hg))) (fun _ h _ => h); have N6 := Nat.le_trans N4 hU6.size; have f0 := x6.at 0 rfl; have f1 := x6.at 1 rfl; have f2 := x6.at 2 rfl) | (go_at_call 81; (with_reducible refine (tbusy2 _ tb _ v2 (outA A se) (xf, xg, xb) false t6 (A6.slc ascEnc_len) hLC hbz.out).mono ?_); rintro e w7 ⟨rfl, hB7⟩; have t7 := t6.pure hB7; have q7 := q6.pure hB7; have x7 := x6.pure hB7; have O7 := O6.pure hB7; have A7 := A6.pure hB7; have T7 := T6.pure hB7; have X7 := X6.pure hB7; have U7 := U6.trans (Upd.of_below (S := fun k => k = qb ∨ s + 5 ≤ k) hB7) (fun _ h _ => h); have N7 := Nat.le_trans N6 hB7.size; have g0 := x7.at 0 rfl; have g1 := x7.at 1 rfl; have g2 := x7.at 2 rfl) | (go_at_call 82; (with_reducible refine (tgone _ tb (.slice (some ⟨g, 0, none⟩) RR.length rc') v2 (RR.set k (RR[k].spoil 1)) (xf, xg, xb) t7 O7 hsr.out hsl.out hgne.out).mono ?_); rintro e w8 ⟨r8, rfl, t8, O8, hrb, hU8⟩; have A8 := A7.upd hU8 (fun i hi e => e.elim (fun e => hMt'.out i hi e) (fun e => own_far A7 O7 (by decide) hi e)); have T8 := T7.upd hU8 (fun i hi e => e.elim (fun e => by have h1 := T7.ge hi; omega) (fun e => own_far T7 O7 (by decide) hi e)); have X8 := X7.upd hU8 (fun i hi e => e.elim (fun e => by have h1 := X7.ge hi; omega) (fun e => own_far X7 O7 (by decide) hi e)); have q8 := q7.upd hU8 (fun e => e.elim (fun e => by omega) (fun e => by have h1 : some g = some qb := e; injection h1 with h1; omega)); have U8 := U7.trans (hU8.mono (T := fun k => k = qb ∨ s + 5 ≤ k) (fun k h _ => Or.inr (h.elim (fun h => by omega) (fun h => by have h1 : some g = some k := h; injection h1 with h1; omega)))) (fun _ h _ => h); have N8 := Nat.le_trans N7 hU8.size))
              go_roundw
              case rel => exact ⟨j + 1, _, _, by omega, by go_num, t8, by rw [← hgo.out hcz.out]; exact O8, by rw [hrb]; exact (fun e => hgt (by injection e)), A8, q8, by rw [hto.out, hwc.out]; rw [List.append_nil]; exact T8, X8, U8, N8⟩
              case measure => simp [intOf]; omega
        · obtain rfl : j = X.length := by omega
          rw [List.take_length] at hO hT
          have hRe := step_all R A se
          rw [hXe.out] at hRe
          have hTe := told_all hTb.out se
          rw [hXe.out] at hTe
          rw [hRe] at hO
          rw [hTe] at hT
          clear hRe hTe
          go_wp2
          go_ret
          exact .inl ⟨_, _, rfl, rfl, tt, hO, hAc, hU, ⟨_, qq, hT.rebase (fun i hi => by have h1 := hT.ge hi; omega)⟩⟩
end Go.Proofs.Ytcelpincmpjhkaa
