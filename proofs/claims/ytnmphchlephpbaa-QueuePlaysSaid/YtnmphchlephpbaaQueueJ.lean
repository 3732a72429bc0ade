/- Package queue: Purge. Conditions: the queue's memory as 'QueX' says; at most a million messages. -/
import Derived.Test.YtnmphchlephpbaaQueueI
namespace Go.Proofs.Ytnmphchlephpbaa
open Go.RowKit
variable {X : Nat → Prop} {w : World} {q : Nat} {s : QS}

def QS.gone (s : QS) : List Int := s.ids.filter (fun i => (s.own i).isNone)
def QS.left (s : QS) : List Int := s.ids.filter (fun i => (s.own i).isSome)
def QS.purged (s : QS) : QS := { s with ids := s.left }

theorem QOk.purged {s : QS} (h : QOk s) : QOk s.purged where
  lim := h.lim
  kept := h.kept
  room := by
    have := h.room
    have h2 : s.left.length ≤ s.ids.length := List.length_filter_le _ _
    simp only [QS.purged]; omega
  rise := h.rise.filter _
  ok := fun i hi => h.ok i (List.mem_filter.1 hi).1
  last := h.last
  cnt := by
    simp only [QS.purged, QS.left, List.countP_filter]
    rw [h.cnt]
    exact List.countP_congr (fun y _ => by simp)
  sub := fun i hi => List.mem_filter.2 ⟨h.sub i hi, hi⟩
  pos := h.pos

theorem filter_take {p : Int → Bool} {L : List Int} {k : Nat} (h : k < L.length) : (L.take (k + 1)).filter p = (L.take k).filter p ++ (if p L[k] = true then [L[k]] else []) := by
  rw [List.take_succ_eq_append_getElem h, List.filter_append]; simp [List.filter_cons]

/-- Another slice of the call's own stays while one grows. -/
theorem Own.beside {base : Nat} {e : TypeId} {m : Nat} {α : Type} {enc : α → List Value} {w w2 : World} {u v : Value} {L : List α}
    (h : Own base e m enc w v L) (hg : w.grownBy w2 u.ownBlock) (hd : ∀ j, u.ownBlock = some j → v.ownBlock ≠ some j) : Own base e m enc w2 v L :=
  h.keep fun k hk hl => hg.block k hl (fun e => hd k e.symm hk)

theorem heap_alloc_size (w : World) (o : Obj) : (w.alloc o).heap.size = w.heap.size + 1 := by simp

set_option maxRecDepth 100000 in
set_option maxHeartbeats 4000000 in
theorem purgeX (h : QueX X w q s) (hX : ∀ k, X k → k < w.heap.size) (hL : s.ids.length ≤ 1000000) :
    Calls Try.prog 26 #[.pointer (some ⟨q, 0, none⟩)] w fun e w' => ∃ r, e = .returned r ∧ Slc (intEnc .u64) 1 w' r s.gone ∧ (∀ j, r.ownBlock = some j → w.heap.size ≤ j ∧ j < w'.heap.size) ∧ QueX (fun j => X j ∨ r.ownBlock = some j) w' q s.purged ∧ Kept X w w' := by
  obtain ⟨h0, b, v, h1, h2⟩ := h
  have hok : ∀ i ∈ s.ids, u64ok i := fun i hi => ⟨by have := (h0.ok i hi).1; omega, by have := (h0.ok i hi).2; have := h0.last.2; omega⟩
  have hok' := Lib.hid hok; clear hok
  have c1 := h1.c1
  have c2 := h1.c2
  obtain ⟨a, cap, rfl, hm⟩ := h1.slc.len
  have h1' := Lib.hid h1
  have hbl := h1.2.2.1.lt
  have hql := h1.1.lt
  have hne := h1.2.2.2
  have h0' := Lib.hid h0.purged
  clear h0
  go_enter Try.func26, Try.ntmps26
  go_wp2_with (first | (go_at_call 29; refine (there_ok _ _ _ c2).mono ?_; rintro e w' ⟨rfl, rfl⟩))
  go_loopw [3, 4, 17] (fun s3 s4 s17 wr => ∃ k : Nat, k ≤ s.ids.length ∧ s17 = .int .i64 k ∧ Own w.heap.size 27 1 (intEnc .u64) wr s3 ((s.ids.take k).filter (fun i => (s.own i).isNone)) ∧
    Own w.heap.size 27 1 (intEnc .u64) wr s4 ((s.ids.take k).filter (fun i => (s.own i).isSome)) ∧ (∀ j, s3.ownBlock = some j → s4.ownBlock ≠ some j) ∧ Below w.heap.size w wr) (fun _ _ s17 _ => s.ids.length - (intOf s17).toNat)
  case atStart => exact ⟨0, by omega, rfl, Own.nil, Own.nil, by simp [Value.ownBlock], Below.refl _ _⟩
  case round =>
    clear h1
    obtain ⟨k, hk, rfl, hG, hF, hD, hB⟩ := hrel
    have hh := h1'.out.pure hB
    have d2 := hh.c2
    have hBs := hB.size
    have hD' := Lib.hid hD; clear hD
    by_cases hlt : k < s.ids.length
    · obtain ⟨g, off, rfl, c0⟩ := hh.slc.load k hlt
      have hki := hok'.out _ (List.getElem_mem hlt)
      have hfl : ((s.ids.take k).filter (fun i => (s.own i).isNone)).length ≤ k := Nat.le_trans (List.length_filter_le _ _) (by rw [List.length_take]; omega)
      have hfl2 : ((s.ids.take k).filter (fun i => (s.own i).isSome)).length ≤ k := Nat.le_trans (List.length_filter_le _ _) (by rw [List.length_take]; omega)
      have hkeq := Lib.hid (filter_take (p := fun i => (s.own i).isNone) hlt)
      have hkeq2 := Lib.hid (filter_take (p := fun i => (s.own i).isSome) hlt)
      cases hq : (s.own s.ids[k]).isSome
      · have hq2 : (s.own s.ids[k]).isNone = true := by rw [← Option.not_isSome, hq]; rfl
        have hq' := Lib.hid hq
        have hq2' := Lib.hid hq2
        have hBB := (hB.alloc hBs (.cells #[.int .u64 ((s.own s.ids[k]).getD 0)] 66)).alloc (B := w.heap.size) (by simp; omega) (.cells #[.int .u64 s.ids[k]] 27)
        go_wp2_with (first | (at_lookup; refine wpList_lookG_ok _ heldT rfl _ _ rfl rfl hh.2.2.1 s.ids[k] rfl hki ?_; rw [hq'.out]) | (at_builtin; refine wpList_app1 rfl _ _ 28 27 rfl elem_u64 (intEnc_len _) (intEnc_one _) u3 _ rfl ((hG.alloc _).alloc _) (wr.heap.size + 1) 1 s.ids[k] rfl (fun j u hu => by have := ((Blk.new (wr.alloc (.cells #[.int .u64 ((s.own s.ids[k]).getD 0)] 66)) [.int .u64 s.ids[k]] 27).cell j).trans hu; simp only [heap_alloc_size] at this; exact this) (by omega) (by unfold maxLen; omega) (by simp; omega) ?_; intro g' cap' w4 hown hgr hfr))
        go_roundw
        case rel =>
          have hfr : some g' = u3.ownBlock ∨ some g' = some (wr.heap.size + 2) := by
            rcases hfr with h | h
            · exact .inl h.symm
            · right; simpa using h
          refine ⟨k + 1, by omega, by go_num, by rw [hkeq.out, if_pos hq2'.out]; exact hown, ?_, ?_, hBB.grown hgr (by simp; omega) (fun j e => hG.ge e)⟩
          · rw [hkeq2.out, if_neg (by rw [hq'.out]; simp), List.append_nil]
            exact Own.beside ((hF.alloc _).alloc _) hgr (fun j e e2 => hD'.out j e e2)
          · intro j e e2
            simp only [Value.ownBlock, Option.some.injEq] at e
            subst e
            have hl := hF.lt e2
            rcases hfr with h | h
            · exact hD'.out _ h.symm e2
            · injection h with h; omega
        case measure => simp [intOf]; omega
      · have hq2 : (s.own s.ids[k]).isNone = false := by rw [← Option.not_isSome, hq]; rfl
        have hq' := Lib.hid hq
        have hq2' := Lib.hid hq2
        have hBB := (hB.alloc hBs (.cells #[.int .u64 ((s.own s.ids[k]).getD 0)] 66)).alloc (B := w.heap.size) (by simp; omega) (.cells #[.int .u64 s.ids[k]] 27)
        go_wp2_with (first | (at_lookup; refine wpList_lookG_ok _ heldT rfl _ _ rfl rfl hh.2.2.1 s.ids[k] rfl hki ?_; rw [hq'.out]) | (at_builtin; refine wpList_app1 rfl _ _ 28 27 rfl elem_u64 (intEnc_len _) (intEnc_one _) u4 _ rfl ((hF.alloc _).alloc _) (wr.heap.size + 1) 1 s.ids[k] rfl (fun j u hu => by have := ((Blk.new (wr.alloc (.cells #[.int .u64 ((s.own s.ids[k]).getD 0)] 66)) [.int .u64 s.ids[k]] 27).cell j).trans hu; simp only [heap_alloc_size] at this; exact this) (by omega) (by unfold maxLen; omega) (by simp; omega) ?_; intro g' cap' w4 hown hgr hfr))
        go_roundw
        case rel =>
          have hfr : some g' = u4.ownBlock ∨ some g' = some (wr.heap.size + 2) := by
            rcases hfr with h | h
            · exact .inl h.symm
            · right; simpa using h
          refine ⟨k + 1, by omega, by go_num, ?_, by rw [hkeq2.out, if_pos hq'.out]; exact hown, ?_, hBB.grown hgr (by simp; omega) (fun j e => hF.ge e)⟩
          · rw [hkeq.out, if_neg (by rw [hq2'.out]; simp), List.append_nil]
            exact Own.beside ((hG.alloc _).alloc _) hgr (fun j e e2 => hD'.out j e2 e)
          · intro j e e2
            simp only [Value.ownBlock, Option.some.injEq] at e2
            subst e2
            have hl := hG.lt e
            rcases hfr with h | h
            · exact hD'.out _ e h.symm
            · injection h with h; omega
        case measure => simp [intOf]; omega
    · obtain rfl : k = s.ids.length := by omega
      rw [List.take_length] at hG hF
      have hdd := hh.1.cell 1
      have hff := hh.1.frozen 1
      obtain ⟨fa, fc, rfl, -⟩ := (hF.slc (intEnc_len _)).len
      have hqF : ∀ x, (Value.slice fa ((s.ids.filter (fun i => (s.own i).isSome)).length) fc).ownBlock = some x → w.heap.size ≤ x := fun x hx => hF.ge hx
      have hbr : b < wr.heap.size := Nat.lt_of_lt_of_le hbl hBs
      go_wp2_with fail
      go_ret
      have hQ : Que (wr.setCell ⟨q, 1, none⟩ (.slice fa ((s.ids.filter (fun i => (s.own i).isSome)).length) fc)) q b (.slice fa ((s.ids.filter (fun i => (s.own i).isSome)).length) fc) s.purged :=
        ⟨hh.1.set 1 _, Own.rebase (Own.other hF _ _ (by intro k hk e; have := hqF k hk; simp only at e; omega)) (fun _ _ => Nat.zero_le _), hh.2.2.1.other _ _ hne.2.2,
          fun e => by have := hqF _ e; omega, fun e => by have := hqF _ e; omega, hne.2.2⟩
      have hG2 := Own.other hG ⟨q, 1, none⟩ (.slice fa ((s.ids.filter (fun i => (s.own i).isSome)).length) fc) (by intro k hk e; have := hG.ge hk; simp only at e; omega)
      refine ⟨u3, rfl, hG2.slc (intEnc_len _), fun j hj => ⟨hG.ge hj, hG2.lt hj⟩, ⟨h0'.out, b, _, hQ, ?_⟩, ?_⟩
      · rintro x (hx | hx | hx) (hx2 | hx2)
        · exact h2 x (.inl hx) hx2
        · have := hG.ge hx2; omega
        · exact h2 x (.inr (.inl hx)) hx2
        · have := hG.ge hx2; omega
        · have := hqF x hx; have := hX x hx2; omega
        · exact hD'.out x hx2 hx
      · refine (Upd.of_below (S := fun k => ¬ X k) (hB.mono (Nat.le_refl _))).trans (Upd.set (S := fun k => ¬ X k) (p := ⟨q, 1, none⟩) (h2 q (.inl rfl)) _) (fun _ h _ => h)

end Go.Proofs.Ytnmphchlephpbaa
