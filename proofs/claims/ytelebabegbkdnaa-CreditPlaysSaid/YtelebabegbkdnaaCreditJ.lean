/- The document's round: Remove, Turn. Conditions: as for its memory. Written by gen_creditJ.py. -/
import Derived.Test.YtelebabegbkdnaaCreditI
import Derived.Test.YtelebabegbkdnaaOwnSub
namespace Go.Proofs.Ytelebabegbkdnaa
open Go.RowKit
set_option linter.unusedVariables false
variable {w w' : World} {p : Nat} {v : Value} {L : List Sub} {last : ByteArray}

theorem RefR.setLast (h : RefR w p v L last) (s : ByteArray) : RefR (w.setCell ⟨p, 1, none⟩ (.string s)) p v L s :=
  ⟨h.1.set 1 _, h.2.1.other _ _ (by intro k hk e; subst e; exact h.2.2 hk), h.2.2⟩
/-- What Remove leaves of the tag that was served last. -/
def lastOf (L : List Sub) (i : Nat) (last t : ByteArray) : ByteArray := if sameS last t = true then (if i = 0 then ⟨#[]⟩ else (L.getD (i - 1) (⟨#[]⟩, 0)).1) else last
theorem RStep.row {W w2 : World} {g cap : Nat} (h : RefR W p v L last) (hu : Upd (RefS p v) w W) (hs : w.heap.size ≤ W.heap.size) {M : List Sub} {u : Value} (hO : Own W.heap.size 50 2 refEnc w2 u M) (hB : Below W.heap.size W w2) :
    RStep w (w2.setCell ⟨p, 0, none⟩ u) p v M last := by
  have hpl := h.1.lt
  have hne : u.ownBlock ≠ some p := fun e => by have := hO.ge e; omega
  refine ⟨u, ⟨(h.1.below hB hpl).set 0 _, (Own.other hO _ _ (by intro k hk e; subst e; exact hne hk)).rebase (fun _ _ => Nat.zero_le _), hne⟩, ?_, ?_⟩
  · refine (hu.trans (T := RefS p v) ((Upd.of_below hB).trans (Upd.set (S := RefS p v) (p := ⟨p, 0, none⟩) (.inl rfl) _) (fun _ h _ => h)) (fun _ h _ => h))
  · rintro k (hk | hk)
    · exact .inl (.inl hk)
    · have := hO.ge hk; right; omega

def RemPost (f : Option Nat) (w : World) (p : Nat) (v : Value) (L : List Sub) (last t : ByteArray) (e : Ending) (w' : World) : Prop :=
  (f = none ∧ e = .returned (.int .i64 7) ∧ RStep w w' p v L last) ∨ ∃ i, f = some i ∧ e = .returned (.int .i64 0) ∧ RStep w w' p v (L.eraseIdx i) (lastOf L i last t)
set_option maxHeartbeats 3200000 in
theorem ref_remove (w : World) (p : Nat) (v : Value) (L : List Sub) (last t : ByteArray) (h : RefR w p v L last) (hL : L.length ≤ 1000000) :
    Calls Try.prog 14 #[.pointer (some ⟨p, 0, none⟩), .string t] w fun e w' =>
      RemPost (findS L t) w p v L last t e w' := by
  have hf := ref_find w p v L last t h
  cases hff : findS L t with
  | none =>
    rw [hff] at hf
    simp only [idxOf] at hf
    clear hff
    go_enter Try.func14, Try.ntmps14
    go_wp2_with (go_at_call 21; refine hf.mono ?_; clear hf; rintro e w' ⟨rfl, rfl⟩)
    go_ret
    exact .inl ⟨rfl, rfl, RStep.refl h⟩
  | some i =>
    rw [hff] at hf
    simp only [idxOf] at hf
    have hi := findS_lt hff
    have he : ∀ W w4 v4 lt', RefR W p v L lt' → Upd (RefS p v) w W → w.heap.size ≤ W.heap.size → lastOf L i last t = lt' → Own W.heap.size 50 2 refEnc w4 v4 ([] ++ L.take i ++ L.drop (i + 1)) → Below W.heap.size W w4 →
        RemPost (some i) w p v L last t (.returned (.int .i64 0)) (w4.setCell ⟨p, 0, none⟩ v4) := by
      intro W w4 v4 lt' h1 h2 h3 h4 h5 h6
      rw [List.nil_append, ← List.eraseIdx_eq_take_drop_succ] at h5
      exact .inr ⟨i, rfl, rfl, by rw [h4]; exact RStep.row (g := 0) (cap := 0) h1 h2 h3 h5 h6⟩
    have he' := Lib.hid he; clear he
    obtain ⟨g, cap, rfl, hg, hlc, hcm⟩ := h.shape hi
    clear hff
    have c0 := h.c0
    have c1 := h.c1
    cases hq : sameS last t
    · have hlo : lastOf L i last t = last := by unfold lastOf; rw [if_neg (by rw [hq]; simp)]
      have hlo' := Lib.hid hlo; clear hlo
      unfold sameS at hq
      have hH := h
      have hS1 := hH.slc
      go_enter Try.func14, Try.ntmps14
      go_wp2_with (first | (go_at_call 21; refine hf.mono ?_; clear hf; rintro e w' ⟨rfl, rfl⟩) | (refine wpList_slc_h (x := .tmp 39) (y := .tmp 40) (u := i) rfl rfl elem_rsub rfl hS1 rfl (by omega) (by omega) ?_; intro v1 hs1) | (at_builtin; refine wpList_app rfl (.tmp 35) (.tmp 41) 38 50 rfl elem_rsub refEnc_len refEnc_one (.slice none 0 0) ([] : List Sub) rfl (base := (w).heap.size) Own.nil v1 _ rfl hs1 (by unfold maxLen; simp <;> omega) (by simp <;> omega) (Nat.le_refl _) ?_; intro v2 w2 hown2 hgr2 hfr2 hsh2; have hB2 := (Below.refl (w).heap.size (w)).grown hgr2 (Nat.le_refl _) (fun j e => by cases e); have hb2 := hH.1.below hB2 hH.1.lt; have e0 := hb2.cell 0; have f0 := hb2.frozen 0; have hS2 := hS1.pure hB2; clear hS1 hs1) | (refine wpList_slc_l (x := .tmp 48) (y := .tmp 50) (l := i + 1) rfl rfl elem_rsub rfl hS2 rfl (by omega) (by omega) ?_; intro v3 hs3) | (at_builtin; refine wpList_app rfl (.tmp 44) (.tmp 51) 38 50 rfl elem_rsub refEnc_len refEnc_one v2 _ rfl hown2 v3 _ rfl hs3 (by unfold maxLen; simp <;> omega) (by simp <;> omega) hB2.size ?_; intro v4 w4 hown4 hgr4 hfr4 hsh4; have hB4 := hB2.grown hgr4 hB2.size (fun j e => hown2.ge e); have hb4 := hH.1.below hB4 hH.1.lt; have g0 := hb4.cell 0; have h0 := hb4.frozen 0; clear e0 f0; obtain ⟨va, vn, vc, rfl⟩ := hown4.shape3))
      go_ret
      exact he'.out _ _ _ _ hH (Upd.refl _ _) (Nat.le_refl _) hlo'.out hown4 hB4
    · have f1 := h.1.frozen 1
      by_cases hz : i = 0
      · subst hz
        have hlo : lastOf L 0 last t = ⟨#[]⟩ := by unfold lastOf; rw [if_pos hq, if_pos rfl]
        have hlo' := Lib.hid hlo; clear hlo
        unfold sameS at hq
        have hH := h.setLast ⟨#[]⟩
        have hS1 := hH.slc
        go_enter Try.func14, Try.ntmps14
        go_wp2_with (first | (go_at_call 21; refine hf.mono ?_; clear hf; rintro e w' ⟨rfl, rfl⟩) | (refine wpList_slc_h (x := .tmp 39) (y := .tmp 40) (u := 0) rfl rfl elem_rsub rfl hS1 rfl (by omega) (by omega) ?_; intro v1 hs1) | (at_builtin; refine wpList_app rfl (.tmp 35) (.tmp 41) 38 50 rfl elem_rsub refEnc_len refEnc_one (.slice none 0 0) ([] : List Sub) rfl (base := (w.setCell ⟨p, 1, none⟩ (.string ⟨#[]⟩)).heap.size) Own.nil v1 _ rfl hs1 (by unfold maxLen; simp <;> omega) (by simp <;> omega) (Nat.le_refl _) ?_; intro v2 w2 hown2 hgr2 hfr2 hsh2; have hB2 := (Below.refl (w.setCell ⟨p, 1, none⟩ (.string ⟨#[]⟩)).heap.size (w.setCell ⟨p, 1, none⟩ (.string ⟨#[]⟩))).grown hgr2 (Nat.le_refl _) (fun j e => by cases e); have hb2 := hH.1.below hB2 hH.1.lt; have e0 := hb2.cell 0; have f0 := hb2.frozen 0; have hS2 := hS1.pure hB2; clear hS1 hs1) | (refine wpList_slc_l (x := .tmp 48) (y := .tmp 50) (l := 0 + 1) rfl rfl elem_rsub rfl hS2 rfl (by omega) (by omega) ?_; intro v3 hs3) | (at_builtin; refine wpList_app rfl (.tmp 44) (.tmp 51) 38 50 rfl elem_rsub refEnc_len refEnc_one v2 _ rfl hown2 v3 _ rfl hs3 (by unfold maxLen; simp <;> omega) (by simp <;> omega) hB2.size ?_; intro v4 w4 hown4 hgr4 hfr4 hsh4; have hB4 := hB2.grown hgr4 hB2.size (fun j e => hown2.ge e); have hb4 := hH.1.below hB4 hH.1.lt; have g0 := hb4.cell 0; have h0 := hb4.frozen 0; clear e0 f0; obtain ⟨va, vn, vc, rfl⟩ := hown4.shape3))
        go_ret
        exact he'.out _ _ _ _ hH (Upd.set (S := RefS p (.slice (some ⟨g, 0, none⟩) L.length cap)) (p := ⟨p, 1, none⟩) (.inl rfl) _) (by simp) hlo'.out hown4 hB4
      · obtain ⟨k, rfl⟩ : ∃ k, i = k + 1 := ⟨i - 1, by omega⟩
        have hk : k < L.length := by omega
        have hlo : lastOf L (k + 1) last t = L[k].1 := by unfold lastOf; rw [if_pos hq, if_neg hz, List.getD_eq_getElem?_getD]; simp [hk]
        have hlo' := Lib.hid hlo; clear hlo
        unfold sameS at hq
        have hH := (h.setLast ⟨#[]⟩).setLast L[k].1
        obtain ⟨_, d0, _, _⟩ := (h.setLast ⟨#[]⟩).facts hk
        have hks : ((k + 1 : Nat) : Int) - 1 = (k : Int) := by omega
        clear hz
        have hS1 := hH.slc
        have hpos : (0 : Int) < ((k + 1 : Nat) : Int) := by omega
        go_enter Try.func14, Try.ntmps14
        go_wp2_with (first | (go_at_call 21; refine hf.mono ?_; clear hf; rintro e w' ⟨rfl, rfl⟩) | (refine wpList_slc_h (x := .tmp 39) (y := .tmp 40) (u := k + 1) rfl rfl elem_rsub rfl hS1 rfl (by omega) (by omega) ?_; intro v1 hs1) | (at_builtin; refine wpList_app rfl (.tmp 35) (.tmp 41) 38 50 rfl elem_rsub refEnc_len refEnc_one (.slice none 0 0) ([] : List Sub) rfl (base := ((w.setCell ⟨p, 1, none⟩ (.string ⟨#[]⟩)).setCell ⟨p, 1, none⟩ (.string L[k].1)).heap.size) Own.nil v1 _ rfl hs1 (by unfold maxLen; simp <;> omega) (by simp <;> omega) (Nat.le_refl _) ?_; intro v2 w2 hown2 hgr2 hfr2 hsh2; have hB2 := (Below.refl ((w.setCell ⟨p, 1, none⟩ (.string ⟨#[]⟩)).setCell ⟨p, 1, none⟩ (.string L[k].1)).heap.size ((w.setCell ⟨p, 1, none⟩ (.string ⟨#[]⟩)).setCell ⟨p, 1, none⟩ (.string L[k].1))).grown hgr2 (Nat.le_refl _) (fun j e => by cases e); have hb2 := hH.1.below hB2 hH.1.lt; have e0 := hb2.cell 0; have f0 := hb2.frozen 0; have hS2 := hS1.pure hB2; clear hS1 hs1) | (refine wpList_slc_l (x := .tmp 48) (y := .tmp 50) (l := k + 1 + 1) rfl rfl elem_rsub rfl hS2 rfl (by omega) (by omega) ?_; intro v3 hs3) | (at_builtin; refine wpList_app rfl (.tmp 44) (.tmp 51) 38 50 rfl elem_rsub refEnc_len refEnc_one v2 _ rfl hown2 v3 _ rfl hs3 (by unfold maxLen; simp <;> omega) (by simp <;> omega) hB2.size ?_; intro v4 w4 hown4 hgr4 hfr4 hsh4; have hB4 := hB2.grown hgr4 hB2.size (fun j e => hown2.ge e); have hb4 := hH.1.below hB4 hH.1.lt; have g0 := hb4.cell 0; have h0 := hb4.frozen 0; clear e0 f0; obtain ⟨va, vn, vc, rfl⟩ := hown4.shape3))
        go_ret
        exact he'.out _ _ _ _ hH ((Upd.set (S := RefS p (.slice (some ⟨g, 0, none⟩) L.length cap)) (p := ⟨p, 1, none⟩) (.inl rfl) _).trans (Upd.set (S := RefS p (.slice (some ⟨g, 0, none⟩) L.length cap)) (p := ⟨p, 1, none⟩) (.inl rfl) _) (fun _ h _ => h)) (by simp) hlo'.out hown4 hB4
end Go.Proofs.Ytelebabegbkdnaa
