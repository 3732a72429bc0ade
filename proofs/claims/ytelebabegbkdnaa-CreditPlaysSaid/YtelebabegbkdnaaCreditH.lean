/- Package credit: Remove, Tags, and each call of the round as a step of its state. Conditions: the round's memory as 'RndX' says. -/
import Derived.Test.YtelebabegbkdnaaCreditDel
import Derived.Test.YtelebabegbkdnaaCreditF
namespace Go.Proofs.Ytelebabegbkdnaa
open Go.RowKit
set_option linter.unusedVariables false

theorem heap_alloc_size (w : World) (o : Obj) : (w.alloc o).heap.size = w.heap.size + 1 := by simp
theorem elem_str : ElemT Try.prog 26 9 1 16 := ElemT.mk' Try.underlying26 (show (Try.prog.info? 9).map (fun i => (i.zero, i.size, i.bytes)) = some (some (.string ⟨#[]⟩), 1, 16) by kernel_rfl) rfl (by omega)

set_option maxHeartbeats 800000 in
theorem remove_none (w : World) (r : Nat) (v : Value) (L : List Sub) (nx : Nat) (t : ByteArray) (h : Rnd w r v L nx) (hn : findS L t = none) :
    Calls Try.prog 13 #[.pointer (some ⟨r, 0, none⟩), .string t] w fun e w' => e = .returned (.int .i64 7) ∧ Below w.heap.size w w' := by
  have c2 := h.c2
  have hat := at_any w t r v L h.c0 h.slc
  rw [hn] at hat
  simp only [idxOf] at hat
  clear h hn
  go_enter Try.func13, Try.ntmps13
  go_wp2_with (first | (go_at_call 22; refine (there_ok _ _ _ c2).mono ?_; rintro e w' ⟨rfl, rfl⟩) | (go_at_call 23; refine hat.mono ?_; clear hat c2; rintro e w1 ⟨rfl, hB⟩))
  go_ret
  exact ⟨rfl, hB⟩

set_option maxHeartbeats 1600000 in
theorem remove_some (w : World) (r i : Nat) (v : Value) (L : List Sub) (nx : Nat) (t : ByteArray) (h : Rnd w r v L nx) (hi : i < L.length) (hn : findS L t = some i) (hL : L.length ≤ 1000000) (hnx : nx ≤ L.length) :
    Calls Try.prog 13 #[.pointer (some ⟨r, 0, none⟩), .string t] w fun e w' => e = .returned (.int .i64 0) ∧ (∃ v', Rnd w' r v' (L.eraseIdx i) (if i < nx then nx - 1 else nx) ∧ (∀ k, RndS r v' k → RndS r v k)) ∧ Upd (RndS r v) w w' := by
  have c2 := h.c2
  have hat := at_any w t r v L h.c0 h.slc
  rw [hn] at hat
  simp only [idxOf] at hat
  obtain ⟨g, cap, rfl, hg, hl⟩ := h.shape hi
  clear hn
  by_cases hin : i < nx
  · rw [if_pos hin]
    have hnxi : (((nx : Nat) : Int) - 1) = ((nx - 1 : Nat) : Int) := by omega
    have hnxi' := Lib.hid hnxi; clear hnxi
    go_enter Try.func13, Try.ntmps13
    go_wp2_with (first | (go_at_call 22; refine (there_ok _ _ _ c2).mono ?_; rintro e w' ⟨rfl, rfl⟩) | (go_at_call 23; refine hat.mono ?_; clear hat c2; rintro e w1 ⟨rfl, hB⟩; have hh := h.pure hB; have d0 := hh.c0; have d1 := hh.c1; clear h) | (go_at_call 29; refine (sub_delete_one w1 g cap i L hh.2.1 hi hL).mono ?_; rintro e w2 ⟨rfl, hO, hU⟩; have hb := hh.1.upd hU (fun e => hg e.symm); have f0 := hb.frozen 0; have f1 := hb.frozen 1; have e0 := hb.cell 0; have e1 := hb.cell 1; clear d0 d1))
    go_ret
    refine ⟨rfl, ⟨.slice (some ⟨g, 0, none⟩) (L.length - 1) cap, ⟨?_, ?_, fun e => hg (by injection e)⟩, fun k hk => hk⟩, ?_⟩
    · rw [hnxi'.out]; exact (hb.set 0 _).set 1 _
    · exact Own.other (Own.other hO _ _ (by intro k hk e; subst e; injection hk with hk; exact hg hk)) _ _ (by intro k hk e; subst e; injection hk with hk; exact hg hk)
    · have h1 : Upd (RndS r (.slice (some ⟨g, 0, none⟩) L.length cap)) w w2 := (Upd.of_below hB).trans (hU.mono (fun k hk _ => .inr (by rw [hk]; rfl))) (fun _ h _ => h)
      exact (h1.trans (Upd.set (S := RndS r (.slice (some ⟨g, 0, none⟩) L.length cap)) (p := ⟨r, 0, none⟩) (.inl rfl) _) (fun _ h _ => h)).trans (Upd.set (S := RndS r (.slice (some ⟨g, 0, none⟩) L.length cap)) (p := ⟨r, 1, none⟩) (.inl rfl) _) (fun _ h _ => h)
  · rw [if_neg hin]
    go_enter Try.func13, Try.ntmps13
    go_wp2_with (first | (go_at_call 22; refine (there_ok _ _ _ c2).mono ?_; rintro e w' ⟨rfl, rfl⟩) | (go_at_call 23; refine hat.mono ?_; clear hat c2; rintro e w1 ⟨rfl, hB⟩; have hh := h.pure hB; have d0 := hh.c0; have d1 := hh.c1; clear h) | (go_at_call 29; refine (sub_delete_one w1 g cap i L hh.2.1 hi hL).mono ?_; rintro e w2 ⟨rfl, hO, hU⟩; have hb := hh.1.upd hU (fun e => hg e.symm); have f0 := hb.frozen 0; have f1 := hb.frozen 1; have e0 := hb.cell 0; have e1 := hb.cell 1; clear d0 d1))
    go_ret
    refine ⟨rfl, ⟨.slice (some ⟨g, 0, none⟩) (L.length - 1) cap, ⟨hb.set 0 _, ?_, fun e => hg (by injection e)⟩, fun k hk => hk⟩, ?_⟩
    · exact Own.other hO _ _ (by intro k hk e; subst e; injection hk with hk; exact hg hk)
    · have h1 : Upd (RndS r (.slice (some ⟨g, 0, none⟩) L.length cap)) w w2 := (Upd.of_below hB).trans (hU.mono (fun k hk _ => .inr (by rw [hk]; rfl))) (fun _ h _ => h)
      exact h1.trans (Upd.set (S := RndS r (.slice (some ⟨g, 0, none⟩) L.length cap)) (p := ⟨r, 0, none⟩) (.inl rfl) _) (fun _ h _ => h)

set_option maxHeartbeats 1600000 in
theorem tags_any (w : World) (r : Nat) (v : Value) (L : List Sub) (nx : Nat) (h : Rnd w r v L nx) (hL : L.length ≤ 1000000) :
    Calls Try.prog 19 #[.pointer (some ⟨r, 0, none⟩)] w fun e w' => ∃ u, e = .returned u ∧ Own w.heap.size 9 1 strEnc w' u (L.map (·.1)) ∧ Below w.heap.size w w' := by
  have c0 := h.c0
  have c2 := h.c2
  have hs := h.slc
  obtain ⟨a, cap, rfl, hm⟩ := h.slc.len
  clear h
  go_enter Try.func19, Try.ntmps19
  go_wp2_with (go_at_call 22; refine (there_ok _ _ _ c2).mono ?_; rintro e w' ⟨rfl, rfl⟩)
  go_loopw [3, 14] (fun s3 s14 wr => ∃ k : Nat, k ≤ L.length ∧ s14 = .int .i64 k ∧ Own w.heap.size 9 1 strEnc wr s3 ((L.take k).map (·.1)) ∧ Below w.heap.size w wr) (fun _ s14 _ => L.length - (intOf s14).toNat)
  case atStart => exact ⟨0, by omega, rfl, Own.nil, Below.refl _ _⟩
  case round =>
    obtain ⟨k, hk, rfl, hO, hB⟩ := hrel
    have hBs := hB.size
    by_cases hlt : k < L.length
    · have hs' := hs.pure hB
      obtain ⟨g, off, rfl⟩ : ∃ g off, a = some ⟨g, off, none⟩ := by
        rcases hs' with ⟨_, _, _, _, h0⟩ | ⟨g, off, cap', hv, _⟩
        · rw [h0] at hlt; simp at hlt
        · simp only [Value.slice.injEq] at hv; exact ⟨g, off, hv.1⟩
      have d0 := hs'.get k hlt 0 _ rfl
      have d1 := hs'.get k hlt 1 _ rfl
      simp only [Nat.add_zero] at d0
      have hll : ((L.take k).map (·.1)).length ≤ k := by simp; omega
      have hkeq := Lib.hid (show (L.take (k + 1)).map (·.1) = (L.take k).map (·.1) ++ [L[k].1] by rw [List.take_succ_eq_append_getElem hlt, List.map_append]; rfl)
      clear c0 c2 hs'
      go_wp2_with (at_builtin; refine wpList_app1 rfl _ _ 26 9 rfl elem_str strEnc_len strEnc_one u3 _ rfl ((hO.alloc _).alloc _) (wr.heap.size + 1) 1 L[k].1 rfl (fun j u hu => by have := ((Blk.new (wr.alloc (.cells #[.string L[k].1, .int .u32 L[k].2] 59)) [.string L[k].1] 9).cell j).trans hu; simp only [heap_alloc_size] at this; exact this) (by omega) (by unfold maxLen; omega) (by simp; omega) ?_; intro g' cap' w4 hown hgr hfr)
      go_roundw
      case rel =>
        have e : ((L.take k).map (·.1)).length = k := by simp; omega
        rw [e] at hown
        exact ⟨k + 1, by omega, by go_num, by rw [hkeq.out]; exact hown, ((hB.alloc hBs _).alloc (by simp; omega) _).grown hgr (by simp; omega) (fun j e => hO.ge e)⟩
      case measure => simp [intOf]; omega
    · go_wp2
      go_ret
      have : k = L.length := by omega
      subst this
      rw [List.take_length] at hO
      exact ⟨_, rfl, hO, hB⟩

section
variable {X : Nat → Prop} {w : World} {r : Nat} {L : List Sub} {nx : Nat} {t : ByteArray}
theorem removeX {i : Nat} (h : RndX X w r L nx) (hi : i < L.length) (hn : findS L t = some i) (hL : L.length ≤ 1000000) (hnx : nx ≤ L.length) :
    Calls Try.prog 13 #[.pointer (some ⟨r, 0, none⟩), .string t] w fun e w' => e = .returned (.int .i64 0) ∧ RndX X w' r (L.eraseIdx i) (if i < nx then nx - 1 else nx) ∧ Kept X w w' := by
  obtain ⟨v, hv, hs⟩ := h
  refine (remove_some w r i v L nx t hv hi hn hL hnx).mono ?_
  rintro e w' ⟨he, ⟨v', hv', hk⟩, hu⟩
  exact ⟨he, ⟨v', hv', fun k h => hs k (hk k h)⟩, hu.mono (fun k hk _ => hs k hk)⟩
end
end Go.Proofs.Ytelebabegbkdnaa
