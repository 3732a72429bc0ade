/- The document's queue: Drop. Conditions: as for its memory. -/
import Derived.Test.YtnmphchlephpbaaQueueQ
namespace Go.Proofs.Ytnmphchlephpbaa
open Go.RowKit
variable {w w' : World} {p : Nat} {v : Value} {s : QS}

def QS.dropR (s : QS) (id o : Int) : Int × QS := if id ∈ s.ids then (if o ≠ 0 ∧ (s.own id).getD 0 = o then (0, s.without id) else (9, s)) else (7, s)

theorem slc_take {α : Type} {enc : α → List Value} {m g n cap : Nat} {L : List α} (h : Slc enc m w (.slice (some ⟨g, 0, none⟩) n cap) L) (hn : n = L.length) (hc : n ≤ cap) (hx : cap ≤ maxLen) {i : Nat} (hi : i ≤ L.length) :
    Slc enc m w (.slice (some ⟨g, 0, none⟩) i cap) (L.take i) := by
  refine .inr ⟨g, 0, cap, by rw [List.length_take, Nat.min_eq_left hi], by rw [List.length_take]; omega, hx, fun k hk j u hu => ?_⟩
  rw [List.length_take] at hk
  rw [List.getElem_take] at hu
  exact h.get k (by omega) j u hu

theorem slc_drop {α : Type} {enc : α → List Value} {m g n cap : Nat} {L : List α} (h : Slc enc m w (.slice (some ⟨g, 0, none⟩) n cap) L) (hn : n = L.length) (hc : n ≤ cap) (hx : cap ≤ maxLen) {i : Nat} (hi : i ≤ L.length) :
    Slc enc m w (.slice (if cap = i then some ⟨g, 0, none⟩ else some ⟨g, i * m, none⟩) (n - i) (cap - i)) (L.drop i) := by
  by_cases hci : cap = i
  · rw [if_pos hci]
    have : n - i = 0 := by omega
    rw [this]
    exact .inl ⟨_, _, rfl, by omega, List.drop_eq_nil_of_le (by omega)⟩
  · rw [if_neg hci]
    refine .inr ⟨g, i * m, cap - i, by rw [List.length_drop, hn], by rw [List.length_drop]; omega, by omega, fun k hk j u hu => ?_⟩
    rw [List.length_drop] at hk
    rw [List.getElem_drop] at hu
    have := h.get (i + k) (by omega) j u hu
    rw [Nat.add_mul] at this
    simpa using this

theorem msgs_without (s : QS) (hr : s.ids.Pairwise (· < ·)) {i : Nat} (hi : i < s.ids.length) : (s.without s.ids[i]).msgs = s.msgs.take i ++ s.msgs.drop (i + 1) := by
  unfold QS.msgs
  have e1 : (s.without s.ids[i]).ids = s.ids.eraseIdx i := (erase_filter hr hi).symm
  have e2 : (s.ids.map s.msg).take i ++ (s.ids.map s.msg).drop (i + 1) = (s.ids.eraseIdx i).map s.msg := by rw [List.eraseIdx_eq_take_drop_succ, List.map_append, List.map_take, List.map_drop]
  rw [e1, e2]
  refine List.map_congr_left (fun x hx => ?_)
  have hx' : x ∈ s.ids.filter (fun x => decide (x ≠ s.ids[i])) := by rw [← erase_filter hr hi]; exact hx
  have hne : x ≠ s.ids[i] := by simpa using (List.mem_filter.1 hx').2
  simp only [QS.msg, QS.without, QS.drop1]
  rw [if_neg hne]

set_option maxHeartbeats 1600000 in
theorem ref_drop (w : World) (p : Nat) (v : Value) (s : QS) (id o : Int) (h : RefQ w p v s) (ho : QOk s) (hL : s.ids.length ≤ 1000000) :
    Calls Try.prog 43 #[.pointer (some ⟨p, 0, none⟩), .int .u64 id, .int .u64 o] w fun e w' => e = .returned (.int .i64 (s.dropR id o).1) ∧ RStep w w' p v (s.dropR id o).2 := by
  have hf := ref_find w p v s id h
  have hml := msgs_len s
  unfold QS.dropR
  by_cases hi : id ∈ s.ids
  · rw [if_pos hi]
    obtain ⟨i, hil, rfl, hfi⟩ := find_yes ho.rise hi
    rw [hfi] at hf
    obtain ⟨g, cap, rfl, -, -, hcap, hmx⟩ : ∃ g cap, v = .slice (some ⟨g, 0, none⟩) s.msgs.length cap ∧ 0 ≤ g ∧ g < w.heap.size ∧ s.msgs.length ≤ cap ∧ cap ≤ maxLen := by
      rcases h.2.1.cases with ⟨_, h0⟩ | h0
      · rw [h0] at hml; simp at hml; omega
      · exact h0
    rw [msgs_len] at h hcap ⊢
    obtain ⟨d0, d1⟩ := msg_cells (by have := h.slc; exact this) hil
    have c1 := h.c1
    have hs1 := slc_take (by have := h.slc; exact this) hml.symm hcap hmx (i := i) (by omega)
    have hs2 := slc_drop (by have := h.slc; exact this) hml.symm hcap hmx (i := i + 1) (by omega)
    have hmw := Lib.hid (msgs_without s ho.rise hil)
    have hpl := h.1.lt
    have h' := Lib.hid h
    clear hi hfi d0 h ho
    unfold maxLen at hmx
    simp only [Nat.zero_add, idxOf] at d1 hf
    by_cases hz : o = 0
    · rw [if_neg (fun e => e.1 hz)]
      subst hz
      go_enter Try.func43, Try.ntmps43
      go_wp2_with (first | (go_at_call 19; refine hf.mono ?_; clear hf; rintro e w' ⟨rfl, rfl⟩))
      go_ret
      exact ⟨rfl, RStep.refl h'.out⟩
    · have ob : (o == 0) = false := beq_eq_false_iff_ne.2 hz
      by_cases hq : (s.own s.ids[i]).getD 0 = o
      · rw [if_pos ⟨hz, hq⟩]
        have hqb : ((s.own s.ids[i]).getD 0 != o) = false := by rw [hq]; simp
        have hq' := Lib.hid hq; clear hq
        have hic : i ≤ cap := by omega
        have hjl : i + 1 ≤ s.ids.length := by omega
        have hjc : i + 1 ≤ cap := by omega
        have hmain : ∀ A, (if cap = i + 1 then some (⟨g, 0, none⟩ : Addr) else some ⟨g, (i + 1) * 2, none⟩) = A → Slc msgEnc 2 w (.slice A (s.ids.length - (i + 1)) (cap - (i + 1))) (s.msgs.drop (i + 1)) := fun A hA => by rw [← hA]; exact hs2
        clear hs2
        by_cases hci : cap = i + 1
        · have hs3 := hmain _ (if_pos hci)
          have hm' := Lib.hid hmain; clear hmain
          subst hci
          rw [Nat.sub_self, show s.ids.length - (i + 1) = 0 by omega] at hs3
          go_enter Try.func43, Try.ntmps43
          go_wp2_with (first | (go_at_call 19; refine hf.mono ?_; clear hf; rintro e w' ⟨rfl, rfl⟩) | (at_builtin; refine wpList_app rfl (.tmp 28) (.tmp 34) 46 79 rfl elem_msg msgEnc_len msgEnc_one _ ([] : List (Int × Int)) rfl (base := w.heap.size) Own.nil _ (s.msgs.take i) rfl hs1 (by unfold maxLen; simp; omega) (by simp; omega) (Nat.le_refl _) ?_; intro v1 w1 hown1 hgr1 hfr1 hsh1; have hB1 := (Below.refl w.heap.size w).grown hgr1 (Nat.le_refl _) (fun j e => by cases e); have e1 := (hB1.cell (p := ⟨p, 1, none⟩) hpl).trans c1) | (at_builtin; refine wpList_app rfl (.tmp 37) (.tmp 44) 46 79 rfl elem_msg msgEnc_len msgEnc_one v1 _ rfl hown1 _ (s.msgs.drop (i + 1)) rfl (hs3.pure hB1) (by unfold maxLen; simp; omega) (by simp; omega) hB1.size ?_; intro v2 w2 hown2 hgr2 hfr2 hsh2; have hB2 := hB1.grown hgr2 hB1.size (fun j e => hown1.ge e); have hbk := h'.out.1.keep (hB2.block p hpl); have e2 := hbk.cell 1; have f2 := hbk.frozen 1; obtain ⟨va, vc, rfl, -⟩ := (hown2.slc msgEnc_len).len))
          go_ret
          have hge : ∀ k, (Value.slice va 0 vc).ownBlock = some k → w.heap.size ≤ k := fun k hk => hown2.ge (by cases va <;> exact hk)
          have hge' : ∀ n k, (Value.slice va n vc).ownBlock = some k → w.heap.size ≤ k := fun n k hk => hge k (by cases va <;> exact hk)
          refine ⟨rfl, _, ⟨hbk.set 1 _, ?_, fun e => by have := hge' _ _ e; omega⟩, ?_, ?_⟩
          · refine Own.other ?_ _ _ (fun k hk e => by have := hge' _ _ hk; simp only at e; omega)
            rw [hmw.out]
            have hz0 := hown2; simp only [hml, List.nil_append, List.length_append, List.length_take, List.length_drop, List.append_assoc] at hz0; first | exact Own.rebase (by simpa [hml] using hown2) (fun _ _ => Nat.zero_le _) | exact Own.rebase (base := w.heap.size) (by rw [show s.ids.length - (i + 1) = 0 by omega] at hz0; simpa using hz0) (fun _ _ => Nat.zero_le _)
          · exact (Upd.of_below (S := RefS p (.slice (some ⟨g, 0, none⟩) s.ids.length _)) hB2).trans (Upd.set (S := RefS p (.slice (some ⟨g, 0, none⟩) s.ids.length _)) (p := ⟨p, 1, none⟩) (.inl rfl) _) (fun _ h _ => h)
          · rintro k (hk | hk)
            · exact .inl (.inl hk)
            · exact .inr (hge' _ _ hk)
        · have hs3 := hmain _ (if_neg hci)
          have hm' := Lib.hid hmain; clear hmain
          go_enter Try.func43, Try.ntmps43
          go_wp2_with (first | (go_at_call 19; refine hf.mono ?_; clear hf; rintro e w' ⟨rfl, rfl⟩) | (at_builtin; refine wpList_app rfl (.tmp 28) (.tmp 34) 46 79 rfl elem_msg msgEnc_len msgEnc_one _ ([] : List (Int × Int)) rfl (base := w.heap.size) Own.nil _ (s.msgs.take i) rfl hs1 (by unfold maxLen; simp; omega) (by simp; omega) (Nat.le_refl _) ?_; intro v1 w1 hown1 hgr1 hfr1 hsh1; have hB1 := (Below.refl w.heap.size w).grown hgr1 (Nat.le_refl _) (fun j e => by cases e); have e1 := (hB1.cell (p := ⟨p, 1, none⟩) hpl).trans c1) | (at_builtin; refine wpList_app rfl (.tmp 37) (.tmp 44) 46 79 rfl elem_msg msgEnc_len msgEnc_one v1 _ rfl hown1 _ (s.msgs.drop (i + 1)) rfl (hs3.pure hB1) (by unfold maxLen; simp; omega) (by simp; omega) hB1.size ?_; intro v2 w2 hown2 hgr2 hfr2 hsh2; have hB2 := hB1.grown hgr2 hB1.size (fun j e => hown1.ge e); have hbk := h'.out.1.keep (hB2.block p hpl); have e2 := hbk.cell 1; have f2 := hbk.frozen 1; obtain ⟨va, vc, rfl, -⟩ := (hown2.slc msgEnc_len).len))
          go_ret
          have hge : ∀ k, (Value.slice va 0 vc).ownBlock = some k → w.heap.size ≤ k := fun k hk => hown2.ge (by cases va <;> exact hk)
          have hge' : ∀ n k, (Value.slice va n vc).ownBlock = some k → w.heap.size ≤ k := fun n k hk => hge k (by cases va <;> exact hk)
          refine ⟨rfl, _, ⟨hbk.set 1 _, ?_, fun e => by have := hge' _ _ e; omega⟩, ?_, ?_⟩
          · refine Own.other ?_ _ _ (fun k hk e => by have := hge' _ _ hk; simp only at e; omega)
            rw [hmw.out]
            have hz0 := hown2; simp only [hml, List.nil_append, List.length_append, List.length_take, List.length_drop, List.append_assoc] at hz0; first | exact Own.rebase (by simpa [hml] using hown2) (fun _ _ => Nat.zero_le _) | exact Own.rebase (base := w.heap.size) (by rw [show s.ids.length - (i + 1) = 0 by omega] at hz0; simpa using hz0) (fun _ _ => Nat.zero_le _)
          · exact (Upd.of_below (S := RefS p (.slice (some ⟨g, 0, none⟩) s.ids.length _)) hB2).trans (Upd.set (S := RefS p (.slice (some ⟨g, 0, none⟩) s.ids.length _)) (p := ⟨p, 1, none⟩) (.inl rfl) _) (fun _ h _ => h)
          · rintro k (hk | hk)
            · exact .inl (.inl hk)
            · exact .inr (hge' _ _ hk)
      · rw [if_neg (fun e => hq e.2)]
        have hqb : ((s.own s.ids[i]).getD 0 != o) = true := by simpa using hq
        have hq' := Lib.hid hq; clear hq
        go_enter Try.func43, Try.ntmps43
        go_wp2_with (first | (go_at_call 19; refine hf.mono ?_; clear hf; rintro e w' ⟨rfl, rfl⟩))
        go_ret
        exact ⟨rfl, RStep.refl h'.out⟩
  · rw [if_neg hi]
    rw [find_no hi] at hf
    simp only [idxOf] at hf
    clear hi
    go_enter Try.func43, Try.ntmps43
    go_wp2_with (first | (go_at_call 19; refine hf.mono ?_; clear hf; rintro e w' ⟨rfl, rfl⟩))
    go_ret
    exact ⟨rfl, RStep.refl h⟩

end Go.Proofs.Ytnmphchlephpbaa
