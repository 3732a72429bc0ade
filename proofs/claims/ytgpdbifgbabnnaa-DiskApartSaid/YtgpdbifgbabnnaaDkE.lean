/- Package disk: find, Read, Safe, Fuse, Crash. Conditions: the disk's memory as 'Disk' says; names of a fit length. Written by gen_dkE.py. -/
import Derived.Test.YtgpdbifgbabnnaaDkB
import Derived.Test.YtgpdbifgbabnnaaMapR
import Derived.Laws.ResultCell
namespace Go.Proofs.Ytgpdbifgbabnnaa
open Go.RowKit Go.Maps
set_option linter.unusedVariables false
set_option linter.unusedSimpArgs false

set_option maxRecDepth 100000 in
set_option maxHeartbeats 3200000 in
theorem find_any (w : World) (d b : Nat) (s : DS) (x : ByteArray) (h : Disk w d b s) (hx : okS x) :
    Calls Try.prog 43 #[.pointer (some ⟨d, 0, none⟩), .string x] w fun e w' => e = .returned (.tuple #[.agg #[.string (rdD s x).1, .int .i64 (rdD s x).2.1], .int .i64 (rdD s x).2.2]) ∧ Below w.heap.size w w' := by
  have hT : Below w.heap.size w (w.alloc (.cells #[.string (ByteArray.mk #[]), .int .i64 0] 72)) := (Below.refl _ w).alloc (Nat.le_refl _) _
  have D1 := h.pure hT
  have c0 := D1.c0
  have c3 := D1.c3
  have hm := D1.2.1
  cases hoff : s.off
  · rw [hoff] at c3
    cases hg : getF s.L x with
    | none =>
      have e1 : rdD s x = (ByteArray.empty, 0, 7) := by unfold rdD; rw [if_neg (by rw [hoff]; simp), hg]
      have hfl : flH s.L x = none := by unfold flH; rw [hg]; rfl
      rw [e1]
      go_enter Try.func43, Try.ntmps43
      go_wp2_with (first
        | (go_at_call 45; (with_reducible refine (state_ok _ d b false c0 c3).mono ?_); rintro e w1 ⟨rfl, rfl⟩)
        | (at_lookup; refine wpList_lookG_ok _ filesT rfl _ _ rfl rfl hm x rfl hx ?_; rw [hfl]; simp only [Option.getD_some, Option.getD_none, Option.isSome_some, Option.isSome_none, evF]))
      (try simp only [Exit.inBlock, Exit.then]); refine bodyPost_ret (v := .tuple #[_, _]) (by rw [results_cell_tmp (by rfl)]; go_simp; exact ⟨rfl, rfl⟩) rfl ?_
      exact ⟨rfl, hT.alloc hT.size _⟩
    | some f =>
      have e1 : rdD s x = (f.b, f.s, 0) := by unfold rdD; rw [if_neg (by rw [hoff]; simp), hg]
      have hfl : flH s.L x = some (f.b, f.s) := by unfold flH; rw [hg]; rfl
      rw [e1]
      go_enter Try.func43, Try.ntmps43
      go_wp2_with (first
        | (go_at_call 45; (with_reducible refine (state_ok _ d b false c0 c3).mono ?_); rintro e w1 ⟨rfl, rfl⟩)
        | (at_lookup; refine wpList_lookG_ok _ filesT rfl _ _ rfl rfl hm x rfl hx ?_; rw [hfl]; simp only [Option.getD_some, Option.getD_none, Option.isSome_some, Option.isSome_none, evF]))
      (try simp only [Exit.inBlock, Exit.then]); refine bodyPost_ret (v := .tuple #[_, _]) (by rw [results_cell_tmp (by rfl)]; go_simp; exact ⟨rfl, rfl⟩) rfl ?_
      exact ⟨rfl, ((Below.refl _ w).alloc (Nat.le_refl _) _).alloc (by simp) _⟩
  · rw [hoff] at c3
    have e1 : rdD s x = (ByteArray.empty, 0, 100) := by unfold rdD; rw [if_pos hoff]
    have hfl : True := trivial
    rw [e1]
    go_enter Try.func43, Try.ntmps43
    go_wp2_with (first
        | (go_at_call 45; (with_reducible refine (state_ok _ d b true c0 c3).mono ?_); rintro e w1 ⟨rfl, rfl⟩)
        | (at_lookup; refine wpList_lookG_ok _ filesT rfl _ _ rfl rfl hm x rfl hx ?_; rw [hfl]; simp only [Option.getD_some, Option.getD_none, Option.isSome_some, Option.isSome_none, evF]))
    (try simp only [Exit.inBlock, Exit.then]); refine bodyPost_ret (v := .tuple #[_, _]) (by rw [results_cell_tmp (by rfl)]; go_simp; exact ⟨rfl, rfl⟩) rfl ?_
    exact ⟨rfl, hT⟩

set_option maxRecDepth 100000 in
theorem read_any (w : World) (d b : Nat) (s : DS) (x : ByteArray) (h : Disk w d b s) (hx : okS x) :
    Calls Try.prog 15 #[.pointer (some ⟨d, 0, none⟩), .string x] w fun e w' => e = .returned (.tuple #[.string (rdD s x).1, .int .i64 (rdD s x).2.2]) ∧ Below w.heap.size w w' := by
  have hf := find_any w d b s x h hx
  obtain ⟨r, hr⟩ : ∃ r, r = rdD s x := ⟨_, rfl⟩
  rw [← hr] at hf ⊢
  clear hr
  obtain ⟨rb, rs, rc⟩ := r
  simp only at hf ⊢
  go_enter Try.func15, Try.ntmps15
  go_wp2_with (go_at_call 43; (with_reducible refine hf.mono ?_); clear hf; rintro e w1 ⟨rfl, hB⟩)
  go_ret2
  exact ⟨rfl, hB.alloc hB.size _⟩

set_option maxRecDepth 100000 in
theorem safe_any (w : World) (d b : Nat) (s : DS) (x : ByteArray) (h : Disk w d b s) (hx : okS x) :
    Calls Try.prog 21 #[.pointer (some ⟨d, 0, none⟩), .string x] w fun e w' => e = .returned (.tuple #[.int .i64 (rdD s x).2.1, .int .i64 (rdD s x).2.2]) ∧ Below w.heap.size w w' := by
  have hf := find_any w d b s x h hx
  obtain ⟨r, hr⟩ : ∃ r, r = rdD s x := ⟨_, rfl⟩
  rw [← hr] at hf ⊢
  clear hr
  obtain ⟨rb, rs, rc⟩ := r
  simp only at hf ⊢
  go_enter Try.func21, Try.ntmps21
  go_wp2_with (go_at_call 43; (with_reducible refine hf.mono ?_); clear hf; rintro e w1 ⟨rfl, hB⟩)
  go_ret2
  exact ⟨rfl, hB.alloc hB.size _⟩

set_option maxRecDepth 100000 in
theorem fuse_any (w : World) (d b : Nat) (s : DS) (n : Int) (h : Disk w d b s) :
    Calls Try.prog 23 #[.pointer (some ⟨d, 0, none⟩), .int .i64 n] w fun e w' => e = .returned (.tuple #[]) ∧ Disk w' d b (fuD s n) ∧ Upd (DiskS d b) w w' := by
  have c0 := h.c0
  have c2 := h.c2
  have c3 := h.c3
  have hf2 := h.1.frozen 2
  have hS : ∀ v, maxI n 0 = v → s.off = false → Disk (w.setCell ⟨d, 2, none⟩ (.int .i64 v)) d b (fuD s n) ∧ Upd (DiskS d b) w (w.setCell ⟨d, 2, none⟩ (.int .i64 v)) := fun v e ho => by
    subst e
    unfold fuD
    rw [if_neg (by rw [ho]; simp)]
    exact ⟨⟨h.1.set 2 _, h.2.1.other _ _ h.2.2, h.2.2⟩, (Upd.set (S := fun k => k = d) (p := ⟨d, 2, none⟩) rfl _).mono (fun k hk _ => .inl hk)⟩
  have hS' := Lib.hid hS; clear hS
  cases hoff : s.off
  · rw [hoff] at c3
    by_cases hn : n < 0
    · go_enter Try.func23, Try.ntmps23
      go_wp2_with (go_at_call 40; (with_reducible refine (there_ok _ d b c0).mono ?_); rintro e w1 ⟨rfl, rfl⟩)
      go_end0
      exact ⟨rfl, hS'.out 0 (by unfold maxI; rw [if_pos (by omega)]) hoff⟩
    · by_cases hn2 : 0 < n
      · go_enter Try.func23, Try.ntmps23
        go_wp2_with (go_at_call 40; (with_reducible refine (there_ok _ d b c0).mono ?_); rintro e w1 ⟨rfl, rfl⟩)
        go_end0
        exact ⟨rfl, hS'.out n (by unfold maxI; rw [if_neg (by omega)]) hoff⟩
      · obtain rfl : n = 0 := by omega
        go_enter Try.func23, Try.ntmps23
        go_wp2_with (go_at_call 40; (with_reducible refine (there_ok _ d b c0).mono ?_); rintro e w1 ⟨rfl, rfl⟩)
        go_end0
        exact ⟨rfl, hS'.out 0 (by unfold maxI; rw [if_pos (by omega)]) hoff⟩
  · rw [hoff] at c3
    have e1 : fuD s n = s := by unfold fuD; rw [if_pos hoff]
    rw [e1]
    go_enter Try.func23, Try.ntmps23
    go_wp2_with (go_at_call 40; (with_reducible refine (there_ok _ d b c0).mono ?_); rintro e w1 ⟨rfl, rfl⟩)
    go_end0
    exact ⟨rfl, h, Upd.refl _ _⟩

set_option maxRecDepth 100000 in
theorem crash_any (w : World) (d b : Nat) (s : DS) (h : Disk w d b s) :
    Calls Try.prog 19 #[.pointer (some ⟨d, 0, none⟩)] w fun e w' => e = .returned (.tuple #[]) ∧ Disk w' d b (crD s) ∧ Upd (DiskS d b) w w' := by
  have c0 := h.c0
  have c2 := h.c2
  have c3 := h.c3
  have hf2 := h.1.frozen 2
  have hf3 := h.1.frozen 3
  go_enter Try.func19, Try.ntmps19
  go_wp2_with (go_at_call 40; (with_reducible refine (there_ok _ d b c0).mono ?_); rintro e w1 ⟨rfl, rfl⟩)
  go_end0
  refine ⟨rfl, ⟨(h.1.set 3 (.bool true)).set 2 (.int .i64 0), (h.2.1.other _ _ h.2.2).other _ _ h.2.2, h.2.2⟩, ?_⟩
  exact (Upd.set (S := DiskS d b) (p := ⟨d, 3, none⟩) (.inl rfl) _).trans (Upd.set (S := DiskS d b) (p := ⟨d, 2, none⟩) (.inl rfl) _) (fun i hi _ => hi)

end Go.Proofs.Ytgpdbifgbabnnaa
