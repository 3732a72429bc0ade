/- A queue that is none: each call answers ErrNil and has nothing; the law QueueNone. Conditions: none. -/
import Derived.Test.YtnmphchlephpbaaQueueF
import Derived.ProofKit
import Derived.OpenShut
namespace Go.Proofs.Ytnmphchlephpbaa
open Go.RowKit

/-- At a there is no queue that was made. -/
def NotMade (w : World) (a : Option Addr) : Prop := a = none ∨ ∃ b, a = some ⟨b, 0, none⟩ ∧ w.cell? ⟨b, 2, none⟩ = some (.map none)
theorem NotMade.pure {w w' : World} {a : Option Addr} (h : NotMade w a) (hb : Below w.heap.size w w') : NotMade w' a := by
  rcases h with h | ⟨b, h, hc⟩
  · exact .inl h
  · exact .inr ⟨b, h, (hb.cell (p := ⟨b, 2, none⟩) (World.block_lt_of_cell? w _ hc)).trans hc⟩
theorem there_not (w : World) (a : Option Addr) (h : NotMade w a) :
    Calls Try.prog 29 #[.pointer a] w fun e w' => e = .returned (.bool false) ∧ w = w' := by
  have qT := fun (w : World) (r : Option Nat) => run_neq_map_nil (P := Try.prog) (w := w) _ _ _ r Try.underlying55
  rcases h with rfl | ⟨b, rfl, hc⟩
  · go_enter Try.func29, Try.ntmps29
    go_wp2
    go_ret
    exact ⟨rfl, rfl⟩
  · go_enter Try.func29, Try.ntmps29
    go_wp2
    go_ret
    exact ⟨rfl, rfl⟩

set_option maxHeartbeats 400000 in
theorem none_next (w : World) (p : Option Addr) (a : Int) (h : NotMade w p) :
    Calls Try.prog 10 #[.pointer p, .int .u64 a] w fun e w' => e = .returned (.tuple #[.int .u64 0, .bool false]) ∧ w = w' := by
  go_enter Try.func10, Try.ntmps10
  go_wp2_with (go_at_call 29; refine (there_not _ _ h).mono ?_; rintro e w' ⟨rfl, rfl⟩)
  go_ret2
  exact ⟨rfl, rfl⟩

set_option maxHeartbeats 400000 in
theorem none_owner (w : World) (p : Option Addr) (a : Int) (h : NotMade w p) :
    Calls Try.prog 11 #[.pointer p, .int .u64 a] w fun e w' => e = .returned (.tuple #[.int .u64 0, .int .i64 1]) ∧ w = w' := by
  go_enter Try.func11, Try.ntmps11
  go_wp2_with (go_at_call 29; refine (there_not _ _ h).mono ?_; rintro e w' ⟨rfl, rfl⟩)
  go_ret2
  exact ⟨rfl, rfl⟩

set_option maxHeartbeats 400000 in
theorem none_put (w : World) (p : Option Addr) (a : Int) (h : NotMade w p) :
    Calls Try.prog 9 #[.pointer p, .int .u64 a] w fun e w' => e = .returned (.int .i64 1) ∧ w = w' := by
  go_enter Try.func9, Try.ntmps9
  go_wp2_with (go_at_call 29; refine (there_not _ _ h).mono ?_; rintro e w' ⟨rfl, rfl⟩)
  go_ret
  exact ⟨rfl, rfl⟩

set_option maxHeartbeats 400000 in
theorem none_keep (w : World) (p : Option Addr) (n : Int) (h : NotMade w p) :
    Calls Try.prog 20 #[.pointer p, .int .i64 n] w fun e w' => e = .returned (.int .i64 1) ∧ w = w' := by
  go_enter Try.func20, Try.ntmps20
  go_wp2_with (go_at_call 29; refine (there_not _ _ h).mono ?_; rintro e w' ⟨rfl, rfl⟩)
  go_ret
  exact ⟨rfl, rfl⟩

set_option maxHeartbeats 400000 in
theorem none_give (w : World) (p : Option Addr) (n : Int) (h : NotMade w p) :
    Calls Try.prog 21 #[.pointer p, .int .i64 n] w fun e w' => e = .returned (.int .i64 1) ∧ w = w' := by
  go_enter Try.func21, Try.ntmps21
  go_wp2_with (go_at_call 29; refine (there_not _ _ h).mono ?_; rintro e w' ⟨rfl, rfl⟩)
  go_ret
  exact ⟨rfl, rfl⟩

set_option maxHeartbeats 400000 in
theorem none_fill (w : World) (p : Option Addr) (a : Int) (h : NotMade w p) :
    Calls Try.prog 22 #[.pointer p, .int .u64 a] w fun e w' => e = .returned (.int .i64 1) ∧ w = w' := by
  go_enter Try.func22, Try.ntmps22
  go_wp2_with (go_at_call 29; refine (there_not _ _ h).mono ?_; rintro e w' ⟨rfl, rfl⟩)
  go_ret
  exact ⟨rfl, rfl⟩

set_option maxHeartbeats 400000 in
theorem none_hold (w : World) (p : Option Addr) (a : Int) (b : Int) (h : NotMade w p) :
    Calls Try.prog 23 #[.pointer p, .int .u64 a, .int .u64 b] w fun e w' => e = .returned (.int .i64 1) ∧ w = w' := by
  go_enter Try.func23, Try.ntmps23
  go_wp2_with (go_at_call 29; refine (there_not _ _ h).mono ?_; rintro e w' ⟨rfl, rfl⟩)
  go_ret
  exact ⟨rfl, rfl⟩

set_option maxHeartbeats 400000 in
theorem none_pass (w : World) (p : Option Addr) (a : Int) (b : Int) (h : NotMade w p) :
    Calls Try.prog 24 #[.pointer p, .int .u64 a, .int .u64 b, .int .u64 b] w fun e w' => e = .returned (.int .i64 1) ∧ w = w' := by
  go_enter Try.func24, Try.ntmps24
  go_wp2_with (go_at_call 29; refine (there_not _ _ h).mono ?_; rintro e w' ⟨rfl, rfl⟩)
  go_ret
  exact ⟨rfl, rfl⟩

set_option maxHeartbeats 400000 in
theorem none_free (w : World) (p : Option Addr) (a : Int) (b : Int) (h : NotMade w p) :
    Calls Try.prog 13 #[.pointer p, .int .u64 a, .int .u64 b] w fun e w' => e = .returned (.int .i64 1) ∧ w = w' := by
  go_enter Try.func13, Try.ntmps13
  go_wp2_with (go_at_call 29; refine (there_not _ _ h).mono ?_; rintro e w' ⟨rfl, rfl⟩)
  go_ret
  exact ⟨rfl, rfl⟩

set_option maxHeartbeats 400000 in
theorem none_drop (w : World) (p : Option Addr) (a : Int) (b : Int) (h : NotMade w p) :
    Calls Try.prog 25 #[.pointer p, .int .u64 a, .int .u64 b] w fun e w' => e = .returned (.int .i64 1) ∧ w = w' := by
  go_enter Try.func25, Try.ntmps25
  go_wp2_with (go_at_call 29; refine (there_not _ _ h).mono ?_; rintro e w' ⟨rfl, rfl⟩)
  go_ret
  exact ⟨rfl, rfl⟩

set_option maxHeartbeats 400000 in
theorem none_purge (w : World) (p : Option Addr) (h : NotMade w p) :
    Calls Try.prog 26 #[.pointer p] w fun e w' => e = .returned (.slice none 0 0) ∧ w = w' := by
  go_enter Try.func26, Try.ntmps26
  go_wp2_with (go_at_call 29; refine (there_not _ _ h).mono ?_; rintro e w' ⟨rfl, rfl⟩)
  go_ret
  exact ⟨rfl, rfl⟩

set_option maxHeartbeats 400000 in
theorem none_of (w : World) (p : Option Addr) (a : Int) (h : NotMade w p) :
    Calls Try.prog 16 #[.pointer p, .int .u64 a] w fun e w' => e = .returned (.slice none 0 0) ∧ w = w' := by
  go_enter Try.func16, Try.ntmps16
  go_wp2_with (go_at_call 29; refine (there_not _ _ h).mono ?_; rintro e w' ⟨rfl, rfl⟩)
  go_ret
  exact ⟨rfl, rfl⟩

set_option maxHeartbeats 400000 in
theorem none_all (w : World) (p : Option Addr) (h : NotMade w p) :
    Calls Try.prog 14 #[.pointer p] w fun e w' => e = .returned (.slice none 0 0) ∧ w = w' := by
  go_enter Try.func14, Try.ntmps14
  go_wp2_with (go_at_call 29; refine (there_not _ _ h).mono ?_; rintro e w' ⟨rfl, rfl⟩)
  go_ret
  exact ⟨rfl, rfl⟩

set_option maxHeartbeats 400000 in
theorem none_ready (w : World) (p : Option Addr) (h : NotMade w p) :
    Calls Try.prog 12 #[.pointer p] w fun e w' => e = .returned (.int .i64 0) ∧ w = w' := by
  go_enter Try.func12, Try.ntmps12
  go_wp2_with (go_at_call 29; refine (there_not _ _ h).mono ?_; rintro e w' ⟨rfl, rfl⟩)
  go_ret
  exact ⟨rfl, rfl⟩

set_option maxHeartbeats 400000 in
theorem none_kept (w : World) (p : Option Addr) (h : NotMade w p) :
    Calls Try.prog 27 #[.pointer p] w fun e w' => e = .returned (.int .i64 0) ∧ w = w' := by
  go_enter Try.func27, Try.ntmps27
  go_wp2_with (go_at_call 29; refine (there_not _ _ h).mono ?_; rintro e w' ⟨rfl, rfl⟩)
  go_ret
  exact ⟨rfl, rfl⟩

set_option maxHeartbeats 400000 in
theorem none_room (w : World) (p : Option Addr) (h : NotMade w p) :
    Calls Try.prog 28 #[.pointer p] w fun e w' => e = .returned (.int .u64 0) ∧ w = w' := by
  go_enter Try.func28, Try.ntmps28
  go_wp2_with (go_at_call 29; refine (there_not _ _ h).mono ?_; rintro e w' ⟨rfl, rfl⟩)
  go_ret
  exact ⟨rfl, rfl⟩

set_option maxRecDepth 100000 in
set_option maxHeartbeats 4000000 in
theorem none_law (w : World) (a b n : Int) : Calls Try.prog 6 #[.int .u64 a, .int .u64 b, .int .i64 n] w fun e w' => e = .returned (.bool true) ∧ Below w.heap.size w w' := by
  go_enter Try.func6, Try.ntmps6
  go_wp2_with fail
  obtain ⟨w2, hw2⟩ : ∃ w2, (w.alloc (.cells #[.int .u64 0, .slice none 0 0, .map none, .int .i64 0, .int .u64 0] 57)).alloc (.cells #[.pointer none, .pointer (some ⟨w.heap.size, 0, none⟩)] 25) = w2 := ⟨_, rfl⟩
  have hB2 : Below w.heap.size w w2 := by rw [← hw2]; exact ((Below.refl _ _).alloc (Nat.le_refl _) _).alloc (by simp) _
  have b1 : Blk w2 w.heap.size [.int .u64 0, .slice none 0 0, .map none, .int .i64 0, .int .u64 0] := by rw [← hw2]; exact (Blk.new w [.int .u64 0, .slice none 0 0, .map none, .int .i64 0, .int .u64 0] _).alloc _
  have b2 : Blk w2 (w.heap.size + 1) [.pointer none, .pointer (some ⟨w.heap.size, 0, none⟩)] := by
    rw [← hw2]; have := Blk.new (w.alloc (.cells #[.int .u64 0, .slice none 0 0, .map none, .int .i64 0, .int .u64 0] 57)) [.pointer none, .pointer (some ⟨w.heap.size, 0, none⟩)] 25; simpa using this
  rw [hw2]
  clear hw2
  go_loopw [9] (fun s9 wr => ∃ k : Nat, k ≤ 2 ∧ s9 = .int .i64 k ∧ wr = w2) (fun s9 _ => 2 - (intOf s9).toNat)
  case atStart => exact ⟨0, by omega, rfl, rfl⟩
  case round =>
    obtain ⟨k, hk, rfl, rfl⟩ := hrel
    by_cases hlt : k < 2
    · obtain ⟨p, ha, hn⟩ : ∃ p, wr.cell? ⟨w.heap.size + 1, k, none⟩ = some (.pointer p) ∧ NotMade wr p := by
        match k, hlt with
        | 0, _ => exact ⟨none, b2.cell 0, .inl rfl⟩
        | 1, _ => exact ⟨some ⟨w.heap.size, 0, none⟩, b2.cell 1, .inr ⟨_, rfl, b1.cell 2⟩⟩
      go_wp2_with (first | (go_at_call 10; refine (none_next _ _ _ hn).mono ?_; rintro e w' ⟨rfl, rfl⟩) | (go_at_call 11; refine (none_owner _ _ _ hn).mono ?_; rintro e w' ⟨rfl, rfl⟩) | (go_at_call 9; refine (none_put _ _ _ hn).mono ?_; rintro e w' ⟨rfl, rfl⟩) | (go_at_call 20; refine (none_keep _ _ _ hn).mono ?_; rintro e w' ⟨rfl, rfl⟩) | (go_at_call 21; refine (none_give _ _ _ hn).mono ?_; rintro e w' ⟨rfl, rfl⟩) | (go_at_call 22; refine (none_fill _ _ _ hn).mono ?_; rintro e w' ⟨rfl, rfl⟩) | (go_at_call 23; refine (none_hold _ _ _ _ hn).mono ?_; rintro e w' ⟨rfl, rfl⟩) | (go_at_call 24; refine (none_pass _ _ _ _ hn).mono ?_; rintro e w' ⟨rfl, rfl⟩) | (go_at_call 13; refine (none_free _ _ _ _ hn).mono ?_; rintro e w' ⟨rfl, rfl⟩) | (go_at_call 25; refine (none_drop _ _ _ _ hn).mono ?_; rintro e w' ⟨rfl, rfl⟩) | (go_at_call 26; refine (none_purge _ _ hn).mono ?_; rintro e w' ⟨rfl, rfl⟩) | (go_at_call 16; refine (none_of _ _ _ hn).mono ?_; rintro e w' ⟨rfl, rfl⟩) | (go_at_call 14; refine (none_all _ _ hn).mono ?_; rintro e w' ⟨rfl, rfl⟩) | (go_at_call 12; refine (none_ready _ _ hn).mono ?_; rintro e w' ⟨rfl, rfl⟩) | (go_at_call 27; refine (none_kept _ _ hn).mono ?_; rintro e w' ⟨rfl, rfl⟩) | (go_at_call 28; refine (none_room _ _ hn).mono ?_; rintro e w' ⟨rfl, rfl⟩))
      go_roundw
      case rel => exact ⟨k + 1, by omega, by go_num, trivial⟩
      case measure => simp [intOf]; omega
    · go_wp2_with (go_at_call 7; refine (head_any _).mono ?_; rintro e w8 ⟨rfl, hB8⟩)
      go_ret
      exact ⟨rfl, hB2.trans (hB8.mono hB2.size)⟩

open Go.ChangeShapes Go.WideShapes Go.ChangeAt in
theorem none_args {H : Type} (enc : TypeId × Value → H) (W : World) {base : Nat} (v0 : Value) (d0 : DataW H) (p0 : List MemPlace) (v1 : Value) (d1 : DataW H) (p1 : List MemPlace) (v2 : Value) (d2 : DataW H) (p2 : List MemPlace)
    (h0 : DataW.Trod enc Try.prog W 0 (fun _ => true) true 27 v0 d0 p0) (h1 : DataW.Trod enc Try.prog W 0 (fun _ => true) true 27 v1 d1 p1) (h2 : DataW.Trod enc Try.prog W 0 (fun _ => true) true 3 v2 d2 p2)
    (k0 : Value.okWide Try.prog W .any base 27 v0) (k1 : Value.okWide Try.prog W .any base 27 v1) (k2 : Value.okWide Try.prog W .any base 3 v2) {S : Prop} (_ : S) :
    Calls Try.prog 6 #[v0, v1, v2] W fun e w' => e = .returned (.bool true) ∧ Below W.heap.size W w' := by
  obtain ⟨a, rfl, rfl, rfl, wa⟩ := open_int Try.underlying27 k0 h0
  obtain ⟨b, rfl, rfl, rfl, wb⟩ := open_int Try.underlying27 k1 h1
  obtain ⟨c, rfl, rfl, rfl, wc⟩ := open_int Try.underlying3 k2 h2
  exact none_law W a b c

end Go.Proofs.Ytnmphchlephpbaa
