/- The document's queue: Purge. Conditions: as for its memory. -/
import Derived.Test.YtnmphchlephpbaaQueueP
namespace Go.Proofs.Ytnmphchlephpbaa
open Go.RowKit
variable {w w' : World} {p : Nat} {v : Value} {s : QS}

theorem of_zero {s : QS} (ho : QOk s) : s.of 0 = s.gone := List.filter_congr (fun x _ => free_iff ho x)

set_option maxHeartbeats 1600000 in
theorem ref_purge (w : World) (p : Nat) (v : Value) (s : QS) (h : RefQ w p v s) (ho : QOk s) (hL : s.ids.length ≤ 1000000) :
    Calls Try.prog 44 #[.pointer (some ⟨p, 0, none⟩)] w fun e w' => ∃ r, e = .returned r ∧ Slc (intEnc .u64) 1 w' r s.gone ∧ (∀ j, r.ownBlock = some j → w.heap.size ≤ j ∧ j < w'.heap.size) ∧
      ∃ v', RefQ w' p v' s.purged ∧ Upd (RefS p v) w w' ∧ (∀ k, RefS p v' k → k = p ∨ w.heap.size ≤ k) ∧ (∀ k, RefS p v' k → r.ownBlock ≠ some k) := by
  have c1 := h.c1
  obtain ⟨a, cap, rfl, hm⟩ := h.slc.len
  have h' := Lib.hid h
  rw [msgs_len] at c1
  have hpl := h.1.lt
  have hof := ref_of w p _ s 0 h hL
  rw [of_zero ho] at hof
  have hfree := Lib.hid (free_iff ho)
  clear h ho
  go_enter Try.func44, Try.ntmps44
  go_wp2_with (go_at_call 46; refine hof.mono ?_; clear hof; rintro e w1 ⟨r, rfl, hr, hB1⟩)
  have hB1s := hB1.size
  go_loopw [4, 5] (fun s4 s5 wr => ∃ k : Nat, k ≤ s.ids.length ∧ s5 = .int .i64 k ∧ Own w1.heap.size 79 2 msgEnc wr s4 (((s.ids.take k).filter (fun i => (s.own i).isSome)).map s.msg) ∧ Below w1.heap.size w1 wr) (fun _ s5 _ => s.ids.length - (intOf s5).toNat)
  case atStart => exact ⟨0, by omega, rfl, Own.nil, Below.refl _ _⟩
  case round =>
    obtain ⟨k, hk, rfl, hO, hB⟩ := hrel
    have hBB := hB1.trans (hB.mono hB1.size)
    have hh := h'.out.pure hBB
    have e1 := (hBB.cell (p := ⟨p, 1, none⟩) hpl).trans c1
    have hBs := hB.size
    by_cases hlt : k < s.ids.length
    · have hs := hh.slc
      rw [msgs_len] at hs
      obtain ⟨g, off, rfl⟩ := msgs_addr hs hlt
      obtain ⟨d0, d1⟩ := msg_cells hs hlt
      simp only [Nat.add_zero] at d0
      have hfl : (((s.ids.take k).filter (fun i => (s.own i).isSome)).map s.msg).length ≤ k := by rw [List.length_map]; exact Nat.le_trans (List.length_filter_le _ _) (by rw [List.length_take]; omega)
      have hkeq := Lib.hid (filter_take (p := fun i => (s.own i).isSome) hlt)
      have hfi := hfree.out s.ids[k]
      clear c1 hh hs
      cases hq : (s.own s.ids[k]).isSome
      · have hq2 : (s.own s.ids[k]).isNone = true := by rw [← Option.not_isSome, hq]; rfl
        rw [hq2] at hfi
        have hfi2 : ((s.own s.ids[k]).getD 0 != 0) = false := by simp only [bne, hfi]; rfl
        have hq' := Lib.hid hq
        clear hq hq2
        go_wp2
        go_roundw
        case rel => exact ⟨k + 1, by omega, by go_num, by rw [hkeq.out, if_neg (by rw [hq'.out]; simp), List.append_nil]; exact hO, hB⟩
        case measure => simp [intOf]; omega
      · have hq2 : (s.own s.ids[k]).isNone = false := by rw [← Option.not_isSome, hq]; rfl
        rw [hq2] at hfi
        have hfi2 : ((s.own s.ids[k]).getD 0 != 0) = true := by simp only [bne, hfi]; rfl
        have hq' := Lib.hid hq
        clear hq hq2
        go_wp2_with (at_builtin; refine wpList_app1 rfl _ _ 46 79 rfl elem_msg msgEnc_len msgEnc_one u4 _ rfl (hO.alloc _) wr.heap.size 1 (s.msg s.ids[k]) rfl (fun j u hu => ((Blk.new wr [.int .u64 s.ids[k], .int .u64 ((s.own s.ids[k]).getD 0)] 79).cell j).trans hu) (by omega) (by unfold maxLen; omega) (by simp; omega) ?_; intro g' cap' w4 hown hgr hfr)
        go_roundw
        case rel => exact ⟨k + 1, by omega, by go_num, by rw [hkeq.out, if_pos hq'.out, List.map_append]; rw [List.length_map] at hown; exact hown, (hB.alloc hBs _).grown hgr (by simp; omega) (fun j e => hO.ge e)⟩
        case measure => simp [intOf]; omega
    · have : k = s.ids.length := by omega
      subst this
      rw [List.take_length] at hO
      obtain ⟨fa, fc, rfl, -⟩ := (hO.slc msgEnc_len).len
      have hdd := hh.1.cell 1
      have hff := hh.1.frozen 1
      clear c1
      rw [List.length_map] at hO
      go_wp2_with fail
      go_ret
      have hqF : ∀ x, (Value.slice fa ((s.ids.filter (fun i => (s.own i).isSome)).length) fc).ownBlock = some x → w1.heap.size ≤ x := fun x hx => hO.ge hx
      have hQ : RefQ (wr.setCell ⟨p, 1, none⟩ (.slice fa ((s.ids.filter (fun i => (s.own i).isSome)).length) fc)) p (.slice fa ((s.ids.filter (fun i => (s.own i).isSome)).length) fc) s.purged :=
        ⟨hh.1.set 1 _, Own.rebase (Own.other hO _ _ (by intro k hk e; have := hqF k hk; simp only at e; omega)) (fun _ _ => Nat.zero_le _), fun e => by have := hqF _ e; omega⟩
      have hrr := hr.pure hB
      have hr2 := Own.other hrr ⟨p, 1, none⟩ (.slice fa ((s.ids.filter (fun i => (s.own i).isSome)).length) fc) (by intro k hk e; have := hrr.ge hk; simp only at e; omega)
      refine ⟨r, rfl, hr2.slc (intEnc_len _), fun j hj => ⟨hr.ge hj, hr2.lt hj⟩, _, hQ, ?_, ?_, ?_⟩
      · exact (Upd.of_below (S := RefS p (.slice a s.msgs.length cap)) (hBB.mono (Nat.le_refl _))).trans (Upd.set (S := RefS p (.slice a s.msgs.length cap)) (p := ⟨p, 1, none⟩) (.inl rfl) _) (fun _ h _ => h)
      · rintro x (hx | hx)
        · exact .inl hx
        · have := hqF x hx; right; omega
      · rintro x (hx | hx) e
        · have := hr.ge e; omega
        · have := hqF x hx; have := hr.lt e; omega

end Go.Proofs.Ytnmphchlephpbaa
