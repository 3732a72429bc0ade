/- The head of the laws of chapter 15. Conditions: none. -/
import Derived.Test.YtnmphchlephpbaaQueueE
namespace Go.Proofs.Ytnmphchlephpbaa
open Go.RowKit

def hs0 : QS := QS.new 3
def hs1 : QS := (hs0.put 1).2
def hs2 : QS := (hs1.put 2).2
def hs3 : QS := hs2.hold 1 7
def hs4 : QS := hs3.hold 2 8
def hs5 : QS := (hs4.free 1 7).2
def hs6 : QS := hs5.hold 1 9

section
variable {X : Nat → Prop} {w : World} {q : Nat}
theorem h_put1 (h : QueX X w q hs0) (hX : ∀ k, X k → k < w.heap.size) : Calls Try.prog 9 #[.pointer (some ⟨q, 0, none⟩), .int .u64 1] w fun e w' => e = .returned (.int .i64 0) ∧ QueX X w' q hs1 ∧ Kept X w w' :=
  putX h hX (by decide +kernel) (by omega)
theorem h_put2 (h : QueX X w q hs1) (hX : ∀ k, X k → k < w.heap.size) : Calls Try.prog 9 #[.pointer (some ⟨q, 0, none⟩), .int .u64 2] w fun e w' => e = .returned (.int .i64 0) ∧ QueX X w' q hs2 ∧ Kept X w w' :=
  putX h hX (by decide +kernel) (by omega)
theorem h_next1 (h : QueX X w q hs2) (hX : ∀ k, X k → k < w.heap.size) : Calls Try.prog 10 #[.pointer (some ⟨q, 0, none⟩), .int .u64 7] w fun e w' => e = .returned (.tuple #[.int .u64 1, .bool true]) ∧ QueX X w' q hs3 ∧ Kept X w w' :=
  nextX_some h hX (by decide +kernel) (by omega) (k := 0) (by decide +kernel) (by decide +kernel)
theorem h_next2 (h : QueX X w q hs3) (hX : ∀ k, X k → k < w.heap.size) : Calls Try.prog 10 #[.pointer (some ⟨q, 0, none⟩), .int .u64 8] w fun e w' => e = .returned (.tuple #[.int .u64 2, .bool true]) ∧ QueX X w' q hs4 ∧ Kept X w w' :=
  nextX_some h hX (by decide +kernel) (by omega) (k := 1) (by decide +kernel) (by decide +kernel)
theorem h_next3 (h : QueX X w q hs4) : Calls Try.prog 10 #[.pointer (some ⟨q, 0, none⟩), .int .u64 7] w fun e w' => e = .returned (.tuple #[.int .u64 0, .bool false]) ∧ Below w.heap.size w w' :=
  nextX_none h (by decide +kernel) (by omega) (by decide +kernel)
theorem h_free1 (h : QueX X w q hs4) (hX : ∀ k, X k → k < w.heap.size) : Calls Try.prog 13 #[.pointer (some ⟨q, 0, none⟩), .int .u64 1, .int .u64 8] w fun e w' => e = .returned (.int .i64 9) ∧ QueX X w' q hs4 ∧ Kept X w w' :=
  freeX h hX (by decide +kernel) (by unfold u64ok; omega)
theorem h_free2 (h : QueX X w q hs4) (hX : ∀ k, X k → k < w.heap.size) : Calls Try.prog 13 #[.pointer (some ⟨q, 0, none⟩), .int .u64 1, .int .u64 7] w fun e w' => e = .returned (.int .i64 0) ∧ QueX X w' q hs5 ∧ Kept X w w' :=
  freeX h hX (by decide +kernel) (by unfold u64ok; omega)
theorem h_next4 (h : QueX X w q hs5) (hX : ∀ k, X k → k < w.heap.size) : Calls Try.prog 10 #[.pointer (some ⟨q, 0, none⟩), .int .u64 9] w fun e w' => e = .returned (.tuple #[.int .u64 1, .bool true]) ∧ QueX X w' q hs6 ∧ Kept X w w' :=
  nextX_some h hX (by decide +kernel) (by omega) (k := 0) (by decide +kernel) (by decide +kernel)
theorem h_room (h : QueX X w q hs6) : Calls Try.prog 28 #[.pointer (some ⟨q, 0, none⟩)] w fun e w' => e = .returned (.int .u64 1) ∧ Below w.heap.size w w' :=
  roomX h
end

theorem Kept.below {w0 w1 w2 : World} (h : Below w0.heap.size w0 w1) (k : Kept (fun k => k < w0.heap.size) w1 w2) : Below w0.heap.size w0 w2 :=
  h.trans (Upd.below k h.size (fun i hi => by omega))

set_option maxHeartbeats 1600000 in
theorem head_any (w : World) : Calls Try.prog 7 #[] w fun e w' => e = .returned (.bool true) ∧ Below w.heap.size w w' := by
  go_enter Try.func7, Try.ntmps7
  go_wp2_with (go_at_call 8; refine (newX w 3 (by omega)).mono ?_; rintro e w0 ⟨rfl, hB0, q0⟩)
  go_wp2_with (go_at_call 9; refine (h_put1 q0 (fun k hk => Nat.lt_of_lt_of_le hk hB0.size)).mono ?_; rintro e w1 ⟨rfl, q1, k1⟩; have b1 := Kept.below hB0 k1; clear k1 q0 hB0)
  go_wp2_with (go_at_call 9; refine (h_put2 q1 (fun k hk => Nat.lt_of_lt_of_le hk b1.size)).mono ?_; rintro e w2 ⟨rfl, q2, k2⟩; have b2 := Kept.below b1 k2; clear k2 q1 b1)
  go_wp2_with (go_at_call 10; refine (h_next1 q2 (fun k hk => Nat.lt_of_lt_of_le hk b2.size)).mono ?_; rintro e w3 ⟨rfl, q3, k3⟩; have b3 := Kept.below b2 k3; clear k3 q2 b2)
  go_wp2_with (go_at_call 10; refine (h_next2 q3 (fun k hk => Nat.lt_of_lt_of_le hk b3.size)).mono ?_; rintro e w4 ⟨rfl, q4, k4⟩; have b4 := Kept.below b3 k4; clear k4 q3 b3)
  go_wp2_with (go_at_call 10; refine (h_next3 q4).mono ?_; rintro e w5 ⟨rfl, k5⟩; have b5 := b4.trans (k5.mono b4.size); have q5 := q4.pure k5; clear k5 q4 b4)
  go_wp2_with (go_at_call 13; refine (h_free1 q5 (fun k hk => Nat.lt_of_lt_of_le hk b5.size)).mono ?_; rintro e w6 ⟨rfl, q6, k6⟩; have b6 := Kept.below b5 k6; clear k6 q5 b5)
  go_wp2_with (go_at_call 13; refine (h_free2 q6 (fun k hk => Nat.lt_of_lt_of_le hk b6.size)).mono ?_; rintro e w7 ⟨rfl, q7, k7⟩; have b7 := Kept.below b6 k7; clear k7 q6 b6)
  go_wp2_with (go_at_call 10; refine (h_next4 q7 (fun k hk => Nat.lt_of_lt_of_le hk b7.size)).mono ?_; rintro e w8 ⟨rfl, q8, k8⟩; have b8 := Kept.below b7 k8; clear k8 q7 b7)
  go_wp2_with (go_at_call 28; refine (h_room q8).mono ?_; rintro e w9 ⟨rfl, k9⟩)
  go_ret
  exact ⟨rfl, b8.trans (k9.mono b8.size)⟩

end Go.Proofs.Ytnmphchlephpbaa
