/- Package disk: the calls at a disk that is none (nil, or one that New did not make). Conditions: none. Written by gen_dkN.py. -/
import Derived.Test.YtgpdbifgbabnnaaDkB
import Derived.Laws.ResultCell
namespace Go.Proofs.Ytgpdbifgbabnnaa
open Go.RowKit Go.Maps
set_option linter.unusedVariables false
/-- A disk that is none. -/
def NoD (w : World) (p : Value) : Prop := p = .pointer none ∨ ∃ d, p = .pointer (some ⟨d, 0, none⟩) ∧ w.cell? ⟨d, 0, none⟩ = some (.map none)
theorem NoD.pure {w w' : World} {p : Value} (h : NoD w p) (hb : Below w.heap.size w w') : NoD w' p := by
  rcases h with h | ⟨d, h, hc⟩
  · exact .inl h
  · exact .inr ⟨d, h, (hb.cell (World.block_lt_of_cell? w _ hc)).trans hc⟩
theorem NoD.ptr {w : World} {p : Value} (h : NoD w p) : ∃ q, p = .pointer q := by
  rcases h with h | ⟨d, h, hc⟩
  · exact ⟨none, h⟩
  · exact ⟨_, h⟩
theorem there_none {w : World} {p : Value} (h : NoD w p) : Calls Try.prog 40 #[p] w fun e w' => e = .returned (.bool false) ∧ w = w' := by
  rcases h with rfl | ⟨d, rfl, hc⟩
  · exact there_nil w
  · exact there_empty w d hc

set_option maxRecDepth 100000 in
theorem state_none (w : World) (p : Value) (h : NoD w p) : Calls Try.prog 45 #[p] w fun e w' => e = .returned (.int .i64 1) ∧ w = w' := by
  go_enter Try.func45, Try.ntmps45
  go_wp2_with (go_at_call 40; (with_reducible refine (there_none h).mono ?_); rintro e w1 ⟨rfl, rfl⟩)
  go_ret
  exact ⟨rfl, rfl⟩

set_option maxRecDepth 100000 in
theorem down_none (w : World) (p : Value) (h : NoD w p) : Calls Try.prog 17 #[p] w fun e w' => e = .returned (.bool true) ∧ w = w' := by
  go_enter Try.func17, Try.ntmps17
  go_wp2_with (go_at_call 40; (with_reducible refine (there_none h).mono ?_); rintro e w1 ⟨rfl, rfl⟩)
  go_ret
  exact ⟨rfl, rfl⟩

set_option maxRecDepth 100000 in
theorem used_none (w : World) (p : Value) (h : NoD w p) : Calls Try.prog 16 #[p] w fun e w' => e = .returned (.int .i64 0) ∧ w = w' := by
  go_enter Try.func16, Try.ntmps16
  go_wp2_with (go_at_call 40; (with_reducible refine (there_none h).mono ?_); rintro e w1 ⟨rfl, rfl⟩)
  go_ret
  exact ⟨rfl, rfl⟩

set_option maxRecDepth 100000 in
theorem list_none (w : World) (p : Value) (h : NoD w p) : Calls Try.prog 14 #[p] w fun e w' => e = .returned (.slice none 0 0) ∧ w = w' := by
  go_enter Try.func14, Try.ntmps14
  go_wp2_with (go_at_call 40; (with_reducible refine (there_none h).mono ?_); rintro e w1 ⟨rfl, rfl⟩)
  go_ret
  exact ⟨rfl, rfl⟩

set_option maxRecDepth 100000 in
theorem copy_none (w : World) (p : Value) (h : NoD w p) : Calls Try.prog 18 #[p] w fun e w' => e = .returned (.pointer none) ∧ w = w' := by
  go_enter Try.func18, Try.ntmps18
  go_wp2_with (go_at_call 40; (with_reducible refine (there_none h).mono ?_); rintro e w1 ⟨rfl, rfl⟩)
  go_ret
  exact ⟨rfl, rfl⟩

set_option maxRecDepth 100000 in
theorem fuse_none (w : World) (p : Value) (n : Int) (h : NoD w p) : Calls Try.prog 23 #[p, .int .i64 n] w fun e w' => e = .returned (.tuple #[]) ∧ w = w' := by
  go_enter Try.func23, Try.ntmps23
  go_wp2_with (go_at_call 40; (with_reducible refine (there_none h).mono ?_); rintro e w1 ⟨rfl, rfl⟩)
  go_end0
  exact ⟨rfl, rfl⟩

set_option maxRecDepth 100000 in
theorem crash_none (w : World) (p : Value) (h : NoD w p) : Calls Try.prog 19 #[p] w fun e w' => e = .returned (.tuple #[]) ∧ w = w' := by
  go_enter Try.func19, Try.ntmps19
  go_wp2_with (go_at_call 40; (with_reducible refine (there_none h).mono ?_); rintro e w1 ⟨rfl, rfl⟩)
  go_end0
  exact ⟨rfl, rfl⟩

set_option maxRecDepth 100000 in
theorem wake_none (w : World) (p : Value) (v : Value) (h : NoD w p) : Calls Try.prog 20 #[p, v] w fun e w' => e = .returned (.tuple #[]) ∧ w = w' := by
  go_enter Try.func20, Try.ntmps20
  go_wp2_with (go_at_call 40; (with_reducible refine (there_none h).mono ?_); rintro e w1 ⟨rfl, rfl⟩)
  refine bodyPost_ret (results_none rfl _ _ _) rfl ?_
  exact ⟨rfl, rfl⟩

set_option maxRecDepth 100000 in
theorem append_none (w : World) (p : Value) (x y : ByteArray) (h : NoD w p) : Calls Try.prog 24 #[p, .string x, .string y] w fun e w' => e = .returned (.int .i64 1) ∧ Below w.heap.size w w' := by
  obtain ⟨q, rfl⟩ := h.ptr
  have hT : Below w.heap.size w (((w.alloc (.cells #[.pointer q] 23)).alloc (.cells #[.string x] 9)).alloc (.cells #[.string y] 9)) := ((((Below.refl _ w).alloc (by simp) _).alloc (by simp) _).alloc (by simp; omega) _)
  have hN := h.pure hT
  go_enter Try.func24, Try.ntmps24
  go_wp2_with (go_at_call 45; (with_reducible refine (state_none _ _ hN).mono ?_); rintro e w1 ⟨rfl, rfl⟩)
  go_ret
  exact ⟨rfl, hT⟩

set_option maxRecDepth 100000 in
theorem sync_none (w : World) (p : Value) (x : ByteArray) (h : NoD w p) : Calls Try.prog 25 #[p, .string x] w fun e w' => e = .returned (.int .i64 1) ∧ Below w.heap.size w w' := by
  obtain ⟨q, rfl⟩ := h.ptr
  have hT : Below w.heap.size w ((w.alloc (.cells #[.pointer q] 23)).alloc (.cells #[.string x] 9)) := (((Below.refl _ w).alloc (by simp) _).alloc (by simp) _)
  have hN := h.pure hT
  go_enter Try.func25, Try.ntmps25
  go_wp2_with (go_at_call 45; (with_reducible refine (state_none _ _ hN).mono ?_); rintro e w1 ⟨rfl, rfl⟩)
  go_ret
  exact ⟨rfl, hT⟩

set_option maxRecDepth 100000 in
theorem cut_none (w : World) (p : Value) (x : ByteArray) (n : Int) (h : NoD w p) : Calls Try.prog 26 #[p, .string x, .int .i64 n] w fun e w' => e = .returned (.int .i64 1) ∧ Below w.heap.size w w' := by
  obtain ⟨q, rfl⟩ := h.ptr
  have hT : Below w.heap.size w (((w.alloc (.cells #[.pointer q] 23)).alloc (.cells #[.string x] 9)).alloc (.cells #[.int .i64 n] 3)) := ((((Below.refl _ w).alloc (by simp) _).alloc (by simp) _).alloc (by simp; omega) _)
  have hN := h.pure hT
  go_enter Try.func26, Try.ntmps26
  go_wp2_with (go_at_call 45; (with_reducible refine (state_none _ _ hN).mono ?_); rintro e w1 ⟨rfl, rfl⟩)
  go_ret
  exact ⟨rfl, hT⟩

set_option maxRecDepth 100000 in
theorem rename_none (w : World) (p : Value) (x y : ByteArray) (h : NoD w p) : Calls Try.prog 27 #[p, .string x, .string y] w fun e w' => e = .returned (.int .i64 1) ∧ Below w.heap.size w w' := by
  obtain ⟨q, rfl⟩ := h.ptr
  have hT : Below w.heap.size w (((w.alloc (.cells #[.pointer q] 23)).alloc (.cells #[.string x] 9)).alloc (.cells #[.string y] 9)) := ((((Below.refl _ w).alloc (by simp) _).alloc (by simp) _).alloc (by simp; omega) _)
  have hN := h.pure hT
  go_enter Try.func27, Try.ntmps27
  go_wp2_with (go_at_call 45; (with_reducible refine (state_none _ _ hN).mono ?_); rintro e w1 ⟨rfl, rfl⟩)
  go_ret
  exact ⟨rfl, hT⟩

set_option maxRecDepth 100000 in
theorem remove_none (w : World) (p : Value) (x : ByteArray) (h : NoD w p) : Calls Try.prog 28 #[p, .string x] w fun e w' => e = .returned (.int .i64 1) ∧ Below w.heap.size w w' := by
  obtain ⟨q, rfl⟩ := h.ptr
  have hT : Below w.heap.size w ((w.alloc (.cells #[.pointer q] 23)).alloc (.cells #[.string x] 9)) := (((Below.refl _ w).alloc (by simp) _).alloc (by simp) _)
  have hN := h.pure hT
  go_enter Try.func28, Try.ntmps28
  go_wp2_with (go_at_call 45; (with_reducible refine (state_none _ _ hN).mono ?_); rintro e w1 ⟨rfl, rfl⟩)
  go_ret
  exact ⟨rfl, hT⟩

set_option maxRecDepth 100000 in
theorem find_none (w : World) (p : Value) (x : ByteArray) (h : NoD w p) : Calls Try.prog 43 #[p, .string x] w fun e w' => e = .returned (.tuple #[.agg #[.string ByteArray.empty, .int .i64 0], .int .i64 1]) ∧ Below w.heap.size w w' := by
  have hT : Below w.heap.size w (w.alloc (.cells #[.string (ByteArray.mk #[]), .int .i64 0] 72)) := (Below.refl _ w).alloc (Nat.le_refl _) _
  have hN := h.pure hT
  go_enter Try.func43, Try.ntmps43
  go_wp2_with (go_at_call 45; (with_reducible refine (state_none _ _ hN).mono ?_); rintro e w1 ⟨rfl, rfl⟩)
  (try simp only [Exit.inBlock, Exit.then]); refine bodyPost_ret (v := .tuple #[_, _]) (by rw [results_cell_tmp (by rfl)]; go_simp; exact ⟨rfl, rfl⟩) rfl ?_
  exact ⟨rfl, hT⟩

set_option maxRecDepth 100000 in
theorem read_none (w : World) (p : Value) (x : ByteArray) (h : NoD w p) : Calls Try.prog 15 #[p, .string x] w fun e w' => e = .returned (.tuple #[.string ByteArray.empty, .int .i64 1]) ∧ Below w.heap.size w w' := by
  go_enter Try.func15, Try.ntmps15
  go_wp2_with (go_at_call 43; (with_reducible refine (find_none _ p x h).mono ?_); rintro e w1 ⟨rfl, hB⟩)
  go_ret2
  exact ⟨rfl, hB.alloc hB.size _⟩

set_option maxRecDepth 100000 in
theorem safe_none (w : World) (p : Value) (x : ByteArray) (h : NoD w p) : Calls Try.prog 21 #[p, .string x] w fun e w' => e = .returned (.tuple #[.int .i64 0, .int .i64 1]) ∧ Below w.heap.size w w' := by
  go_enter Try.func21, Try.ntmps21
  go_wp2_with (go_at_call 43; (with_reducible refine (find_none _ p x h).mono ?_); rintro e w1 ⟨rfl, hB⟩)
  go_ret2
  exact ⟨rfl, hB.alloc hB.size _⟩
end Go.Proofs.Ytgpdbifgbabnnaa
