/- Contracts of package credit, third part: Add. Conditions: the round's memory as 'Rnd' says; at most a million subscriptions. -/
import Derived.Test.YtelebabegbkdnaaCreditB
namespace Go.Proofs.Ytelebabegbkdnaa
open Go.RowKit

theorem info_sub : (Try.prog.info? 59).map (fun i => (i.zero, i.size, i.bytes)) = some (some (.agg #[.string ⟨#[]⟩, .int .u32 0]), 2, 24) := by kernel_rfl
theorem elem_sub : ElemT Try.prog 52 59 2 24 := ElemT.mk' Try.underlying52 info_sub rfl (by omega)

set_option maxHeartbeats 400000 in
theorem add_arg (w : World) (r : Nat) (v : Value) (L : List Sub) (nx : Nat) (t : ByteArray) (h : Rnd w r v L nx) (ht : t.size = 0 ∨ 40 < t.size) :
    Calls Try.prog 9 #[.pointer (some ⟨r, 0, none⟩), .string t] w fun e w' => e = .returned (.int .i64 2) ∧ Below w.heap.size w w' := by
  have c2 := h.c2
  clear h
  rcases ht with ht | ht
  · have h1 : t.toList.isEmpty = true := empty_yes ht
    go_enter Try.func9, Try.ntmps9
    go_wp2_with (first | (go_at_call 22; refine (there_ok _ _ _ c2).mono ?_; rintro e w' ⟨rfl, rfl⟩))
    go_ret
    exact ⟨rfl, Below.refl _ _⟩
  · have h1 : t.toList.isEmpty = false := empty_no (by omega)
    go_enter Try.func9, Try.ntmps9
    go_wp2_with (first | (go_at_call 22; refine (there_ok _ _ _ c2).mono ?_; rintro e w' ⟨rfl, rfl⟩))
    go_ret
    exact ⟨rfl, Below.refl _ _⟩

set_option maxHeartbeats 400000 in
theorem add_there (w : World) (r i : Nat) (v : Value) (L : List Sub) (nx : Nat) (t : ByteArray) (h : Rnd w r v L nx) (h0 : 0 < t.size) (h1 : t.size ≤ 40) (hn : findS L t = some i) :
    Calls Try.prog 9 #[.pointer (some ⟨r, 0, none⟩), .string t] w fun e w' => e = .returned (.int .i64 8) ∧ Below w.heap.size w w' := by
  have c2 := h.c2
  have hat := at_any w t r v L h.c0 h.slc
  rw [hn] at hat
  simp only [idxOf] at hat
  have he : t.toList.isEmpty = false := empty_no h0
  clear h
  go_enter Try.func9, Try.ntmps9
  go_wp2_with (first | (go_at_call 22; refine (there_ok _ _ _ c2).mono ?_; rintro e w' ⟨rfl, rfl⟩) | (go_at_call 23; refine hat.mono ?_; clear hat; rintro e w' ⟨rfl, hB⟩))
  go_ret
  exact ⟨rfl, hB⟩

set_option maxHeartbeats 400000 in
theorem add_ok (w : World) (r : Nat) (v : Value) (L : List Sub) (nx : Nat) (t : ByteArray) (h : Rnd w r v L nx) (h0 : 0 < t.size) (h1 : t.size ≤ 40) (hn : findS L t = none) (hL : L.length ≤ 1000000) :
    Calls Try.prog 9 #[.pointer (some ⟨r, 0, none⟩), .string t] w fun e w' => e = .returned (.int .i64 0) ∧
      ∃ v', Rnd w' r v' (L ++ [(t, 0)]) nx ∧ Upd (RndS r v) w w' ∧ (∀ k, RndS r v' k → RndS r v k ∨ w.heap.size ≤ k) := by
  have c2 := h.c2
  have hat := at_any w t r v L h.c0 h.slc
  rw [hn] at hat
  simp only [idxOf] at hat
  have he : t.toList.isEmpty = false := empty_no h0
  go_enter Try.func9, Try.ntmps9
  go_wp2_with (first | (go_at_call 22; refine (there_ok _ _ _ c2).mono ?_; rintro e w' ⟨rfl, rfl⟩) | (go_at_call 23; refine hat.mono ?_; clear hat c2; rintro e w1 ⟨rfl, hB⟩; have hh := h.pure hB; have d0 := hh.c0; clear h) | (at_builtin; refine wpList_app1 rfl _ _ 52 59 rfl elem_sub subEnc_len subEnc_one _ L rfl (hh.2.1.alloc _) w1.heap.size 1 (t, 0) rfl (fun j u hu => by rw [(Blk.new _ [.string t, .int .u32 0] _).cell]; exact hu) (by omega) (by unfold maxLen; omega) (Nat.zero_le _) ?_; intro g' cap' w2 hown hgr hfr; have hb2 := (hh.1.alloc _).keep (hgr.block r (hh.1.alloc _).lt (fun e => hh.2.2 e.symm)); have d2 := hb2.cell 0; have f2 := hb2.frozen 0; clear d0))
  go_ret
  have hsz := hB.size
  have hne : some g' ≠ some r := by
    rcases hfr with h | h
    · rw [← h]; exact hh.2.2
    · have := hh.1.lt; simp at h; intro e; injection e; omega
  have hu : Upd (RndS r v) w w2 := (Upd.of_below (S := RndS r v) (hB.trans (((Below.refl _ w1).alloc (Nat.le_refl _) _).mono hsz))).trans (Upd.grown (S := RndS r v) hgr (fun k hk => .inr hk)) (fun _ h _ => h)
  refine ⟨rfl, _, ⟨hb2.set 0 _, hown.other _ _ (by simp only [Value.ownBlock]; intro k hk e; subst e; exact hne hk), by simpa [Value.ownBlock] using hne⟩,
    hu.trans (Upd.set (S := RndS r v) (p := ⟨r, 0, none⟩) (.inl rfl) _) (fun _ h _ => h), ?_⟩
  rintro k (h | h)
  · exact .inl (.inl h)
  · simp only [Value.ownBlock, Option.some.injEq] at h
    subst h
    rcases hfr with h | h
    · exact .inl (.inr h)
    · simp at h; right; omega

end Go.Proofs.Ytelebabegbkdnaa
