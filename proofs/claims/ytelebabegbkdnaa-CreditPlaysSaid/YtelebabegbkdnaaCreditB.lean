/- Contracts of package credit, second part: on, Give, Stop, Credit, Add. Conditions: the round's memory as 'Rnd' says; at most a million subscriptions. -/
import Derived.Test.YtelebabegbkdnaaCreditA
namespace Go.Proofs.Ytelebabegbkdnaa
open Go.RowKit

theorem findS_lt {L : List Sub} {t : ByteArray} {i : Nat} (h : findS L t = some i) : i < L.length := by
  unfold findS at h
  rw [List.findIdx?_eq_some_iff_getElem] at h
  exact h.1

/-- The slice of a round that has a subscription. -/
theorem Rnd.shape {w : World} {r : Nat} {v : Value} {L : List Sub} {nx i : Nat} (h : Rnd w r v L nx) (hi : i < L.length) :
    ∃ g cap, v = .slice (some ⟨g, 0, none⟩) L.length cap ∧ g ≠ r ∧ L.length ≤ 9223372036854775807 := by
  rcases h.2.1.cases with ⟨_, hl⟩ | ⟨g, cap, hv, _, _, hc, hm⟩
  · simp [hl] at hi
  · subst hv
    refine ⟨g, cap, rfl, ?_, by unfold maxLen at hm; omega⟩
    have := h.2.2; simpa [Value.ownBlock] using this

/-- The facts that a walk wants of a round, its slice written out. -/
theorem Rnd.facts {w : World} {r g n cap : Nat} {L : List Sub} {nx i : Nat} (h : Rnd w r (.slice (some ⟨g, 0, none⟩) n cap) L nx) (hi : i < L.length) :
    w.cell? ⟨r, 0, none⟩ = some (.slice (some ⟨g, 0, none⟩) n cap) ∧ w.cell? ⟨g, i * 2, none⟩ = some (.string L[i].1) ∧ w.cell? ⟨g, i * 2 + 1, none⟩ = some (.int .u32 L[i].2) ∧ ∀ j, w.frozen? ⟨g, j, none⟩ = false :=
  ⟨h.c0, h.2.1.cell subEnc_len i hi 0 _ rfl, h.2.1.cell subEnc_len i hi 1 _ rfl, fun j => h.2.1.frozen j⟩

theorem Rnd.set {w : World} {r g n cap : Nat} {L : List Sub} {nx i : Nat} (h : Rnd w r (.slice (some ⟨g, 0, none⟩) n cap) L nx) (hi : i < L.length) (c : Int) :
    Rnd (w.setCell ⟨g, i * 2 + 1, none⟩ (.int .u32 c)) r (.slice (some ⟨g, 0, none⟩) n cap) (L.set i (L[i].1, c)) nx :=
  ⟨h.1.other _ _ (by have := h.2.2; simp [Value.ownBlock] at this; exact fun e => this e.symm), h.2.1.set subEnc_len i hi 1 _ (L[i].1, c) (by omega) rfl, h.2.2⟩

theorem Rnd.drew {w : World} {r : Nat} {v : Value} {L : List Sub} {nx : Nat} (h : Rnd w r v L nx) : Rnd w.drew r v L nx := h

set_option maxHeartbeats 400000 in
theorem on_give_none (w : World) (r : Nat) (v : Value) (L : List Sub) (nx : Nat) (t : ByteArray) (n : Int) (h : Rnd w r v L nx) (hn : findS L t = none) :
    Calls Try.prog 24 #[.pointer (some ⟨r, 0, none⟩), .string t, .int .u32 n, .func (.func 25) #[] #[]] w fun e w' =>
      e = .returned (.int .i64 7) ∧ Below w.heap.size w w' := by
  have c2 := h.c2
  have hat := at_any w t r v L h.c0 h.slc
  rw [hn] at hat
  simp only [idxOf] at hat
  clear h hn
  go_enter Try.func24, Try.ntmps24
  go_wp2_with (first | (go_at_call 22; refine (there_ok _ _ _ c2).mono ?_; rintro e w' ⟨rfl, rfl⟩) | (go_at_call 23; refine hat.mono ?_; clear hat; rintro e w' ⟨rfl, hB⟩))
  go_ret
  exact ⟨rfl, hB⟩

set_option maxHeartbeats 400000 in
theorem on_give_some (w : World) (r i : Nat) (v : Value) (L : List Sub) (nx : Nat) (t : ByteArray) (n : Int) (h : Rnd w r v L nx) (hi : i < L.length) (hn : findS L t = some i) (c0 : 0 ≤ L[i].2) (c1 : L[i].2 ≤ 4294967295) (n0 : 0 ≤ n) (n1 : n ≤ 4294967295) :
    Calls Try.prog 24 #[.pointer (some ⟨r, 0, none⟩), .string t, .int .u32 n, .func (.func 25) #[] #[]] w fun e w' =>
      e = .returned (.int .i64 0) ∧ Rnd w' r v (L.set i (L[i].1, gave L[i].2 n)) nx ∧ Upd (RndS r v) w w' := by
  have c2 := h.c2
  obtain ⟨g, cap, rfl, hgr, hmax⟩ := h.shape hi
  have hat := at_any w t r _ L h.c0 h.slc
  rw [hn] at hat
  simp only [idxOf] at hat
  go_enter Try.func24, Try.ntmps24
  go_wp2_with (first | (go_at_call 22; refine (there_ok _ _ _ c2).mono ?_; rintro e w' ⟨rfl, rfl⟩) | (go_at_call 23; refine hat.mono ?_; clear hat c2; rintro e w1 ⟨rfl, hB⟩; have h1 := h.pure hB; obtain ⟨d0, f1, f2, ff⟩ := h1.facts hi) | (go_at_call 25; refine (give_any _ _ _ _ _ f2 (ff _) c0 c1 n0 n1).mono ?_; rintro e w2 ⟨rfl, hw2⟩))
  go_ret
  subst hw2
  exact ⟨rfl, (h1.set hi _).drew, (Upd.of_below hB).trans (Upd.set (S := RndS r _) (p := ⟨g, i * 2 + 1, none⟩) (.inr rfl) _).drew (fun _ h _ => h)⟩

set_option maxHeartbeats 400000 in
theorem on_stop_none (w : World) (r : Nat) (v : Value) (L : List Sub) (nx : Nat) (t : ByteArray) (n : Int) (h : Rnd w r v L nx) (hn : findS L t = none) :
    Calls Try.prog 24 #[.pointer (some ⟨r, 0, none⟩), .string t, .int .u32 n, .func (.func 30) #[] #[]] w fun e w' =>
      e = .returned (.int .i64 7) ∧ Below w.heap.size w w' := by
  have c2 := h.c2
  have hat := at_any w t r v L h.c0 h.slc
  rw [hn] at hat
  simp only [idxOf] at hat
  clear h hn
  go_enter Try.func24, Try.ntmps24
  go_wp2_with (first | (go_at_call 22; refine (there_ok _ _ _ c2).mono ?_; rintro e w' ⟨rfl, rfl⟩) | (go_at_call 23; refine hat.mono ?_; clear hat; rintro e w' ⟨rfl, hB⟩))
  go_ret
  exact ⟨rfl, hB⟩

set_option maxHeartbeats 400000 in
theorem on_stop_some (w : World) (r i : Nat) (v : Value) (L : List Sub) (nx : Nat) (t : ByteArray) (n : Int) (h : Rnd w r v L nx) (hi : i < L.length) (hn : findS L t = some i) :
    Calls Try.prog 24 #[.pointer (some ⟨r, 0, none⟩), .string t, .int .u32 n, .func (.func 30) #[] #[]] w fun e w' =>
      e = .returned (.int .i64 0) ∧ Rnd w' r v (L.set i (L[i].1, 0)) nx ∧ Upd (RndS r v) w w' := by
  have c2 := h.c2
  obtain ⟨g, cap, rfl, hgr, hmax⟩ := h.shape hi
  have hat := at_any w t r _ L h.c0 h.slc
  rw [hn] at hat
  simp only [idxOf] at hat
  go_enter Try.func24, Try.ntmps24
  go_wp2_with (first | (go_at_call 22; refine (there_ok _ _ _ c2).mono ?_; rintro e w' ⟨rfl, rfl⟩) | (go_at_call 23; refine hat.mono ?_; clear hat c2; rintro e w1 ⟨rfl, hB⟩; have h1 := h.pure hB; obtain ⟨d0, f1, f2, ff⟩ := h1.facts hi) | (go_at_call 30; refine (stop_any _ _ _ _ _ f2 (ff _)).mono ?_; rintro e w2 ⟨rfl, hw2⟩))
  go_ret
  subst hw2
  exact ⟨rfl, h1.set hi _, (Upd.of_below hB).trans (Upd.set (S := RndS r _) (p := ⟨g, i * 2 + 1, none⟩) (.inr rfl) _) (fun _ h _ => h)⟩

set_option maxHeartbeats 400000 in
theorem on_cred_none (w : World) (r : Nat) (v : Value) (L : List Sub) (nx : Nat) (t : ByteArray) (n : Int) (B : Nat) (h : Rnd w r v L nx) (hn : findS L t = none) :
    Calls Try.prog 24 #[.pointer (some ⟨r, 0, none⟩), .string t, .int .u32 n, .func (.func 32) #[] #[.pointer (some ⟨B, 0, none⟩)]] w fun e w' =>
      e = .returned (.int .i64 7) ∧ Below w.heap.size w w' := by
  have c2 := h.c2
  have hat := at_any w t r v L h.c0 h.slc
  rw [hn] at hat
  simp only [idxOf] at hat
  clear h hn
  go_enter Try.func24, Try.ntmps24
  go_wp2_with (first | (go_at_call 22; refine (there_ok _ _ _ c2).mono ?_; rintro e w' ⟨rfl, rfl⟩) | (go_at_call 23; refine hat.mono ?_; clear hat; rintro e w' ⟨rfl, hB⟩))
  go_ret
  exact ⟨rfl, hB⟩

set_option maxHeartbeats 400000 in
theorem on_cred_some (w : World) (r i : Nat) (v : Value) (L : List Sub) (nx : Nat) (t : ByteArray) (n : Int) (B : Nat) (h : Rnd w r v L nx) (hi : i < L.length) (hn : findS L t = some i) (hB0 : Blk w B [.int .u32 0]) :
    Calls Try.prog 24 #[.pointer (some ⟨r, 0, none⟩), .string t, .int .u32 n, .func (.func 32) #[] #[.pointer (some ⟨B, 0, none⟩)]] w fun e w' =>
      e = .returned (.int .i64 0) ∧ Blk w' B [.int .u32 L[i].2] ∧ Upd (· = B) w w' := by
  have c2 := h.c2
  obtain ⟨g, cap, rfl, hgr, hmax⟩ := h.shape hi
  have hat := at_any w t r _ L h.c0 h.slc
  rw [hn] at hat
  simp only [idxOf] at hat
  go_enter Try.func24, Try.ntmps24
  go_wp2_with (first | (go_at_call 22; refine (there_ok _ _ _ c2).mono ?_; rintro e w' ⟨rfl, rfl⟩) | (go_at_call 23; refine hat.mono ?_; clear hat c2; rintro e w1 ⟨rfl, hB⟩; have h1 := h.pure hB; obtain ⟨d0, f1, f2, ff⟩ := h1.facts hi) | (go_at_call 32; refine (credit1_any _ _ _ _ _ _ _ f2 ((hB0.pure hB).cell 0) ((hB0.pure hB).frozen 0)).mono ?_; rintro e w2 ⟨rfl, hw2⟩))
  go_ret
  subst hw2
  exact ⟨rfl, (hB0.pure hB).set 0 _, (Upd.of_below hB).trans (Upd.set (S := (· = B)) (p := ⟨B, 0, none⟩) rfl _) (fun _ h _ => h)⟩

set_option maxHeartbeats 400000 in
theorem give_none (w : World) (r : Nat) (v : Value) (L : List Sub) (nx : Nat) (t : ByteArray) (n : Int) (h : Rnd w r v L nx) (hn : findS L t = none) :
    Calls Try.prog 10 #[.pointer (some ⟨r, 0, none⟩), .string t, .int .u32 n] w fun e w' => e = .returned (.int .i64 7) ∧ Below w.heap.size w w' := by
  have hon := on_give_none w r v L nx t n h hn
  clear h hn
  go_enter Try.func10, Try.ntmps10
  go_wp2_with (go_at_call 24; refine hon.mono ?_; clear hon; rintro e w' ⟨rfl, hB⟩)
  go_ret
  exact ⟨rfl, hB⟩

set_option maxHeartbeats 400000 in
theorem give_some (w : World) (r i : Nat) (v : Value) (L : List Sub) (nx : Nat) (t : ByteArray) (n : Int) (h : Rnd w r v L nx) (hi : i < L.length) (hn : findS L t = some i) (c0 : 0 ≤ L[i].2) (c1 : L[i].2 ≤ 4294967295) (n0 : 0 ≤ n) (n1 : n ≤ 4294967295) :
    Calls Try.prog 10 #[.pointer (some ⟨r, 0, none⟩), .string t, .int .u32 n] w fun e w' => e = .returned (.int .i64 0) ∧ Rnd w' r v (L.set i (L[i].1, gave L[i].2 n)) nx ∧ Upd (RndS r v) w w' := by
  have hon := on_give_some w r i v L nx t n h hi hn c0 c1 n0 n1
  clear h
  go_enter Try.func10, Try.ntmps10
  go_wp2_with (go_at_call 24; refine hon.mono ?_; clear hon; rintro e w' ⟨rfl, hB⟩)
  go_ret
  exact ⟨rfl, hB⟩

set_option maxHeartbeats 400000 in
theorem stop_none (w : World) (r : Nat) (v : Value) (L : List Sub) (nx : Nat) (t : ByteArray) (h : Rnd w r v L nx) (hn : findS L t = none) :
    Calls Try.prog 15 #[.pointer (some ⟨r, 0, none⟩), .string t] w fun e w' => e = .returned (.int .i64 7) ∧ Below w.heap.size w w' := by
  have hon := on_stop_none w r v L nx t 0 h hn
  clear h hn
  go_enter Try.func15, Try.ntmps15
  go_wp2_with (go_at_call 24; refine hon.mono ?_; clear hon; rintro e w' ⟨rfl, hB⟩)
  go_ret
  exact ⟨rfl, hB⟩

set_option maxHeartbeats 400000 in
theorem stop_some (w : World) (r i : Nat) (v : Value) (L : List Sub) (nx : Nat) (t : ByteArray) (h : Rnd w r v L nx) (hi : i < L.length) (hn : findS L t = some i) :
    Calls Try.prog 15 #[.pointer (some ⟨r, 0, none⟩), .string t] w fun e w' => e = .returned (.int .i64 0) ∧ Rnd w' r v (L.set i (L[i].1, 0)) nx ∧ Upd (RndS r v) w w' := by
  have hon := on_stop_some w r i v L nx t 0 h hi hn
  clear h
  go_enter Try.func15, Try.ntmps15
  go_wp2_with (go_at_call 24; refine hon.mono ?_; clear hon; rintro e w' ⟨rfl, hB⟩)
  go_ret
  exact ⟨rfl, hB⟩

set_option maxHeartbeats 400000 in
theorem credit_none (w : World) (r : Nat) (v : Value) (L : List Sub) (nx : Nat) (t : ByteArray) (h : Rnd w r v L nx) (hn : findS L t = none) :
    Calls Try.prog 20 #[.pointer (some ⟨r, 0, none⟩), .string t] w fun e w' => e = .returned (.tuple #[.int .u32 0, .int .i64 7]) ∧ Below w.heap.size w w' := by
  have hB1 := (Below.refl w.heap.size w).alloc (Nat.le_refl _) (.cells #[.int .u32 0] 30)
  have hb := Blk.new w [.int .u32 0] 30
  have hon := on_cred_none _ r v L nx t 0 w.heap.size (h.pure hB1) hn
  clear h hn
  go_enter Try.func20, Try.ntmps20
  go_wp2_with (go_at_call 24; refine hon.mono ?_; clear hon; rintro e w' ⟨rfl, hB⟩; have hc := (hb.pure hB).cell 0; clear hb)
  go_ret2
  exact ⟨rfl, hB1.trans (hB.mono (by simp))⟩

set_option maxHeartbeats 400000 in
theorem credit_some (w : World) (r i : Nat) (v : Value) (L : List Sub) (nx : Nat) (t : ByteArray) (h : Rnd w r v L nx) (hi : i < L.length) (hn : findS L t = some i) :
    Calls Try.prog 20 #[.pointer (some ⟨r, 0, none⟩), .string t] w fun e w' => e = .returned (.tuple #[.int .u32 L[i].2, .int .i64 0]) ∧ Below w.heap.size w w' := by
  have hB1 := (Below.refl w.heap.size w).alloc (Nat.le_refl _) (.cells #[.int .u32 0] 30)
  have hb := Blk.new w [.int .u32 0] 30
  have hon := on_cred_some _ r i v L nx t 0 w.heap.size (h.pure hB1) hi hn hb
  clear h hn
  go_enter Try.func20, Try.ntmps20
  go_wp2_with (go_at_call 24; refine hon.mono ?_; clear hon; rintro e w' ⟨rfl, hB, hU⟩; have hc := hB.cell 0; clear hb)
  go_ret2
  exact ⟨rfl, hB1.trans (hU.below (by simp) (by intro k hk; omega))⟩

end Go.Proofs.Ytelebabegbkdnaa
