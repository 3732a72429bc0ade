/- The document's queue: Of, All. Conditions: as for its memory. -/
import Derived.Test.YtnmphchlephpbaaQueueO
namespace Go.Proofs.Ytnmphchlephpbaa
open Go.RowKit
variable {w w' : World} {p : Nat} {v : Value} {s : QS}

theorem msgs_addr {a : Option Addr} {n cap : Nat} (hs : Slc msgEnc 2 w (.slice a n cap) s.msgs) {k : Nat} (hlt : k < s.ids.length) : ∃ g off, a = some ⟨g, off, none⟩ := by
  rcases hs with ⟨_, _, _, _, h0⟩ | ⟨g, off, cap', hv, _⟩
  · have := msgs_len s; rw [h0] at this; simp at this; omega
  · simp only [Value.slice.injEq] at hv; exact ⟨g, off, hv.1⟩

set_option maxHeartbeats 1600000 in
theorem ref_of (w : World) (p : Nat) (v : Value) (s : QS) (o : Int) (h : RefQ w p v s) (hL : s.ids.length ≤ 1000000) :
    Calls Try.prog 46 #[.pointer (some ⟨p, 0, none⟩), .int .u64 o] w fun e w' => ∃ r, e = .returned r ∧ Own w.heap.size 27 1 (intEnc .u64) w' r (s.of o) ∧ Below w.heap.size w w' := by
  have c1 := h.c1
  obtain ⟨a, cap, rfl, hm⟩ := h.slc.len
  have h' := Lib.hid h
  rw [msgs_len] at c1
  have hpl := h.1.lt
  clear h
  go_enter Try.func46, Try.ntmps46
  go_wp2
  go_loopw [5, 6] (fun s5 s6 wr => ∃ k : Nat, k ≤ s.ids.length ∧ s6 = .int .i64 k ∧ Own w.heap.size 27 1 (intEnc .u64) wr s5 ((s.ids.take k).filter (fun i => (s.own i).getD 0 == o)) ∧ Below w.heap.size w wr) (fun _ s6 _ => s.ids.length - (intOf s6).toNat)
  case atStart => exact ⟨0, by omega, rfl, Own.nil, Below.refl _ _⟩
  case round =>
    obtain ⟨k, hk, rfl, hO, hB⟩ := hrel
    have hh := h'.out.pure hB
    have e1 := (hB.cell (p := ⟨p, 1, none⟩) hpl).trans c1
    have hBs := hB.size
    by_cases hlt : k < s.ids.length
    · have hs := hh.slc
      rw [msgs_len] at hs
      obtain ⟨g, off, rfl⟩ := msgs_addr hs hlt
      obtain ⟨d0, d1⟩ := msg_cells hs hlt
      simp only [Nat.add_zero] at d0
      have hfl : ((s.ids.take k).filter (fun i => (s.own i).getD 0 == o)).length ≤ k := Nat.le_trans (List.length_filter_le _ _) (by rw [List.length_take]; omega)
      have hkeq := Lib.hid (filter_take (p := fun i => (s.own i).getD 0 == o) hlt)
      clear c1 hh hs
      cases hq : ((s.own s.ids[k]).getD 0 == o)
      · have hq' := Lib.hid hq
        go_wp2
        go_roundw
        case rel => exact ⟨k + 1, by omega, by go_num, by rw [hkeq.out, if_neg (by rw [hq'.out]; simp), List.append_nil]; exact hO, hB⟩
        case measure => simp [intOf]; omega
      · have hq' := Lib.hid hq
        go_wp2_with (at_builtin; refine wpList_app1 rfl _ _ 28 27 rfl elem_u64 (intEnc_len _) (intEnc_one _) u5 _ rfl (hO.alloc _) wr.heap.size 1 s.ids[k] rfl (fun j u hu => ((Blk.new wr [.int .u64 s.ids[k]] 27).cell j).trans hu) (by omega) (by unfold maxLen; omega) (by simp; omega) ?_; intro g' cap' w4 hown hgr hfr)
        go_roundw
        case rel => exact ⟨k + 1, by omega, by go_num, by rw [hkeq.out, if_pos hq'.out]; exact hown, (hB.alloc hBs _).grown hgr (by simp; omega) (fun j e => hO.ge e)⟩
        case measure => simp [intOf]; omega
    · clear c1
      go_wp2
      go_ret
      have : k = s.ids.length := by omega
      subst this
      rw [List.take_length] at hO
      exact ⟨_, rfl, hO, hB⟩

set_option maxHeartbeats 1600000 in
theorem ref_all (w : World) (p : Nat) (v : Value) (s : QS) (h : RefQ w p v s) (hL : s.ids.length ≤ 1000000) :
    Calls Try.prog 45 #[.pointer (some ⟨p, 0, none⟩)] w fun e w' => ∃ r, e = .returned r ∧ Own w.heap.size 27 1 (intEnc .u64) w' r s.ids ∧ Below w.heap.size w w' := by
  have c1 := h.c1
  obtain ⟨a, cap, rfl, hm⟩ := h.slc.len
  have h' := Lib.hid h
  rw [msgs_len] at c1
  have hpl := h.1.lt
  clear h
  go_enter Try.func45, Try.ntmps45
  go_wp2
  go_loopw [3, 4] (fun s3 s4 wr => ∃ k : Nat, k ≤ s.ids.length ∧ s4 = .int .i64 k ∧ Own w.heap.size 27 1 (intEnc .u64) wr s3 (s.ids.take k) ∧ Below w.heap.size w wr) (fun _ s4 _ => s.ids.length - (intOf s4).toNat)
  case atStart => exact ⟨0, by omega, rfl, Own.nil, Below.refl _ _⟩
  case round =>
    obtain ⟨k, hk, rfl, hO, hB⟩ := hrel
    have hh := h'.out.pure hB
    have e1 := (hB.cell (p := ⟨p, 1, none⟩) hpl).trans c1
    have hBs := hB.size
    by_cases hlt : k < s.ids.length
    · have hs := hh.slc
      rw [msgs_len] at hs
      obtain ⟨g, off, rfl⟩ := msgs_addr hs hlt
      obtain ⟨d0, d1⟩ := msg_cells hs hlt
      simp only [Nat.add_zero] at d0
      have hfl : (s.ids.take k).length = k := by rw [List.length_take]; omega
      have hkeq := Lib.hid (List.take_succ_eq_append_getElem hlt)
      clear c1 hh hs
      go_wp2_with (at_builtin; refine wpList_app1 rfl _ _ 28 27 rfl elem_u64 (intEnc_len _) (intEnc_one _) u3 _ rfl (hO.alloc _) wr.heap.size 1 s.ids[k] rfl (fun j u hu => ((Blk.new wr [.int .u64 s.ids[k]] 27).cell j).trans hu) (by omega) (by unfold maxLen; omega) (by simp; omega) ?_; intro g' cap' w4 hown hgr hfr)
      go_roundw
      case rel => exact ⟨k + 1, by omega, by go_num, by rw [hkeq.out]; rw [hfl] at hown; exact hown, (hB.alloc hBs _).grown hgr (by simp; omega) (fun j e => hO.ge e)⟩
      case measure => simp [intOf]; omega
    · clear c1
      go_wp2
      go_ret
      have : k = s.ids.length := by omega
      subst this
      rw [List.take_length] at hO
      exact ⟨_, rfl, hO, hB⟩

end Go.Proofs.Ytnmphchlephpbaa
