/- Package queue: All, Of; the document's Same. Conditions: the queue's memory as 'QueX' says; at most a million messages. -/
import Derived.Test.YtnmphchlephpbaaQueueE
namespace Go.Proofs.Ytnmphchlephpbaa
open Go.RowKit

theorem slice_eql_nil (w : World) (a : Option Addr) (n c : Nat) : (binOp .eql 28 (.slice a n c) (.slice none 0 0)).run Try.prog w = .ok (.bool a.isNone) w := Lib.run_eql_slice_nil w _ _ a n c 0 0 Try.underlying28

set_option maxHeartbeats 800000 in
theorem clone_any (w : World) (v : Value) (L : List Int) (h : Own 0 27 1 (intEnc .u64) w v L) (hL : L.length ≤ 1000000) :
    Calls Try.prog 35 #[v] w fun e w' => ∃ r, e = .returned r ∧ Slc (intEnc .u64) 1 w' r L ∧ Below w.heap.size w w' := by
  have qS := slice_eql_nil
  rcases h.cases with ⟨rfl, rfl⟩ | ⟨g, cap, rfl, hg, hgl, h1, h2⟩
  · go_enter Try.func35, Try.ntmps35
    go_wp2
    go_ret
    exact ⟨_, rfl, Slc.nil _ _ _, Below.refl _ _⟩
  · go_enter Try.func35, Try.ntmps35
    go_wp2_with (at_builtin; refine wpList_app rfl _ _ 28 27 rfl elem_u64 (intEnc_len _) (intEnc_one _) _ ([] : List Int) rfl (Own.made0 w 27 (Nat.le_refl _)) _ L rfl ((h.slc (intEnc_len _)).pure ((Below.refl _ _).alloc (Nat.le_refl _) _)) (by unfold maxLen; simp; omega) (by simp; omega) (by simp) ?_; intro v' w2 hown hgr hfr hshape)
    go_ret
    refine ⟨_, rfl, hown.slc (intEnc_len _), ?_⟩
    exact ((Below.refl w.heap.size w).alloc (Nat.le_refl _) _).grown hgr (by simp) (fun j e => by have e : some w.heap.size = some j := e; injection e with e; omega)

variable {X : Nat → Prop} {w : World} {q : Nat} {s : QS}
theorem allX (h : QueX X w q s) (hL : s.ids.length ≤ 1000000) :
    Calls Try.prog 14 #[.pointer (some ⟨q, 0, none⟩)] w fun e w' => ∃ r, e = .returned r ∧ Slc (intEnc .u64) 1 w' r s.ids ∧ Below w.heap.size w w' := by
  obtain ⟨h0, b, v, h1, h2⟩ := h
  have c1 := h1.c1
  have c2 := h1.c2
  have hc := clone_any w v s.ids h1.2.1 hL
  clear h0 h1 h2
  go_enter Try.func14, Try.ntmps14
  go_wp2_with (first | (go_at_call 29; refine (there_ok _ _ _ c2).mono ?_; rintro e w' ⟨rfl, rfl⟩) | (go_at_call 35; refine hc.mono ?_; clear hc; rintro e w' ⟨r, rfl, hr, hB⟩))
  go_ret
  exact ⟨_, rfl, hr, hB⟩

/-- What somebody holds. -/
def QS.of (s : QS) (o : Int) : List Int := s.ids.filter (fun i => (s.own i).getD 0 == o)

set_option maxHeartbeats 1600000 in
theorem ofX {o : Int} (h : QueX X w q s) (hL : s.ids.length ≤ 1000000) (ho : 0 < o) :
    Calls Try.prog 16 #[.pointer (some ⟨q, 0, none⟩), .int .u64 o] w fun e w' => ∃ r, e = .returned r ∧ Slc (intEnc .u64) 1 w' r (s.of o) ∧ Below w.heap.size w w' := by
  obtain ⟨h0, b, v, h1, h2⟩ := h
  have c1 := h1.c1
  have c2 := h1.c2
  have ob : (o == 0) = false := beq_eq_false_iff_ne.2 (by omega)
  have hok : ∀ i ∈ s.ids, u64ok i := fun i hi => ⟨by have := (h0.ok i hi).1; omega, by have := (h0.ok i hi).2; have := h0.last.2; omega⟩
  have hok' := Lib.hid hok; clear hok
  have hfd := held_field
  have h1' := Lib.hid h1
  obtain ⟨a, cap, rfl, hm⟩ := h1.slc.len
  clear h0 h1 h2
  go_enter Try.func16, Try.ntmps16
  go_wp2_with (first | (go_at_call 29; refine (there_ok _ _ _ c2).mono ?_; rintro e w' ⟨rfl, rfl⟩))
  go_loopw [5, 20] (fun s5 s20 wr => ∃ k : Nat, k ≤ s.ids.length ∧ s20 = .int .i64 k ∧ Own w.heap.size 27 1 (intEnc .u64) wr s5 ((s.ids.take k).filter (fun i => (s.own i).getD 0 == o)) ∧ Below w.heap.size w wr) (fun _ s20 _ => s.ids.length - (intOf s20).toNat)
  case atStart => exact ⟨0, by omega, rfl, Own.nil, Below.refl _ _⟩
  case round =>
    obtain ⟨k, hk, rfl, hO, hB⟩ := hrel
    have hh := h1'.out.pure hB
    have d2 := hh.c2
    have hBs := hB.size
    by_cases hlt : k < s.ids.length
    · obtain ⟨g, off, rfl, c0⟩ := hh.slc.load k hlt
      have hki := hok'.out _ (List.getElem_mem hlt)
      have hfl : ((s.ids.take k).filter (fun i => (s.own i).getD 0 == o)).length ≤ k := Nat.le_trans (List.length_filter_le _ _) (by rw [List.length_take]; omega)
      have hkeq : (s.ids.take (k + 1)).filter (fun i => (s.own i).getD 0 == o) = (s.ids.take k).filter (fun i => (s.own i).getD 0 == o) ++ (if ((s.own s.ids[k]).getD 0 == o) = true then [s.ids[k]] else []) := by
        rw [List.take_succ_eq_append_getElem hlt, List.filter_append]; simp [List.filter_cons]
      have hkeq' := Lib.hid hkeq; clear hkeq
      cases hq : ((s.own s.ids[k]).getD 0 == o)
      · have hq' := Lib.hid hq
        go_wp2_with (first | (at_lookup; refine wpList_lookG _ heldT rfl _ _ rfl rfl hh.2.2.1 s.ids[k] rfl hki ?_))
        go_roundw
        case rel => exact ⟨k + 1, by omega, by go_num, by rw [hkeq'.out, if_neg (by rw [hq'.out]; simp), List.append_nil]; exact hO, hB⟩
        case measure => simp [intOf]; omega
      · have hq' := Lib.hid hq
        go_wp2_with (first | (at_lookup; refine wpList_lookG _ heldT rfl _ _ rfl rfl hh.2.2.1 s.ids[k] rfl hki ?_) | (at_builtin; refine wpList_app1 rfl _ _ 28 27 rfl elem_u64 (intEnc_len _) (intEnc_one _) u5 _ rfl (hO.alloc _) wr.heap.size 1 s.ids[k] rfl (fun j u hu => ((Blk.new wr [.int .u64 s.ids[k]] 27).cell j).trans hu) (by omega) (by unfold maxLen; omega) (by simp; omega) ?_; intro g' cap' w4 hown hgr hfr))
        go_roundw
        case rel => exact ⟨k + 1, by omega, by go_num, by rw [hkeq'.out, if_pos hq'.out]; exact hown, (hB.alloc hBs _).grown hgr (by simp; omega) (fun j e => hO.ge e)⟩
        case measure => simp [intOf]; omega
    · go_wp2
      go_ret
      have : k = s.ids.length := by omega
      subst this
      rw [List.take_length] at hO
      exact ⟨_, rfl, hO.slc (intEnc_len _), hB⟩

set_option maxHeartbeats 1600000 in
theorem same_any (w : World) (a b : Value) (A B : List Int) (ha : Slc (intEnc .u64) 1 w a A) (hb : Slc (intEnc .u64) 1 w b B) :
    Calls Try.prog 15 #[a, b] w fun e w' => e = .returned (.bool (decide (A = B))) ∧ Below w.heap.size w w' := by
  obtain ⟨aa, acap, rfl, hm⟩ := ha.len
  obtain ⟨ba, bcap, rfl, hmb⟩ := hb.len
  unfold maxLen at hm hmb
  by_cases hl : A.length = B.length
  · have hl' := Lib.hid hl
    rw [← hl] at hb ⊢
    go_enter Try.func15, Try.ntmps15
    go_wp2
    go_loopw [5] (fun s5 wr => ∃ k : Nat, k ≤ A.length ∧ s5 = .int .i64 k ∧ A.take k = B.take k ∧ ∃ n, wr = w.drewN n) (fun s5 _ => A.length - (intOf s5).toNat)
    case atStart => exact ⟨0, by omega, rfl, by simp, 0, rfl⟩
    case round =>
      obtain ⟨k, hk, rfl, hno, n, rfl⟩ := hrel
      have hno' := Lib.hid hno; clear hno
      by_cases hlt : k < A.length
      · have hltB : k < B.length := by omega
        obtain ⟨ga, oa, rfl, c0⟩ := ha.load k hlt
        obtain ⟨gb, ob, rfl, d0⟩ := hb.load k hltB
        by_cases hq : A[k] = B[k]
        · have hq' := Lib.hid hq
          rw [← hq] at d0
          clear hq
          go_wp2
          go_quiet (fail)
          go_wp2
          go_roundw
          case rel => exact ⟨k + 1, by omega, by go_num, by rw [List.take_succ_eq_append_getElem hlt, List.take_succ_eq_append_getElem hltB, hno'.out, hq'.out], _, rfl⟩
          case measure => simp [intOf]; omega
        · have hd : decide (A = B) = false := decide_eq_false (fun e => hq (by subst e; rfl))
          have hd := Lib.hid hd
          go_wp2
          go_quiet (fail)
          go_wp2
          go_ret
          exact ⟨by rw [hd.out]; rfl, below_drewN (below_drewN (Below.refl _ _) _) _⟩
      · have : k = A.length := by omega
        subst this
        have he := hno'.out
        rw [List.take_length, hl'.out, List.take_length] at he
        have hd := Lib.hid (decide_eq_true he)
        clear he
        go_wp2
        go_ret
        exact ⟨by rw [hd.out]; rfl, below_drewN (Below.refl _ _) _⟩
  · have hd : decide (A = B) = false := decide_eq_false (fun e => hl (by subst e; rfl))
    rw [hd]
    go_enter Try.func15, Try.ntmps15
    go_wp2
    go_ret
    exact ⟨rfl, Below.refl _ _⟩

end Go.Proofs.Ytnmphchlephpbaa
