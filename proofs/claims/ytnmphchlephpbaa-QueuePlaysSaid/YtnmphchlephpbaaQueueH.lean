/- Package queue: Keep, Give, Fill, Hold, Pass. Conditions: the queue's memory as 'QueX' says; at most a million messages. -/
import Derived.Test.YtnmphchlephpbaaQueueG
namespace Go.Proofs.Ytnmphchlephpbaa
open Go.RowKit

theorem QStep.keptSet {w : World} {q b : Nat} {v : Value} {s : QS} (h : Que w q b v s) (n : Int) : QStep w (w.setCell ⟨q, 3, none⟩ (.int .i64 n)) q b v { s with kept := n } :=
  ⟨v, ⟨h.1.set 3 _, h.2.1.other _ _ (by intro k hk e; subst e; exact h.2.2.2.1 hk), h.2.2.1.other _ _ h.2.2.2.2.2, h.2.2.2⟩, Upd.set (S := QueS q b v) (p := ⟨q, 3, none⟩) (.inl rfl) _, fun k hk => .inl hk⟩

def QS.keep (s : QS) (n : Int) : Int × QS := if n < 0 then (2, s) else if s.limit - (s.ids.length + s.kept) < n then (6, s) else (0, { s with kept := s.kept + n })
def QS.give (s : QS) (n : Int) : Int × QS := if n < 0 ∨ s.kept < n then (2, s) else (0, { s with kept := s.kept - n })
def QS.fill (s : QS) (id : Int) : Int × QS := if id ≤ s.last then (2, s) else if s.kept = 0 then (7, s) else (0, ({ s with kept := s.kept - 1 } : QS).come id)

theorem QOk.setKept {s : QS} (h : QOk s) {n : Int} (h0 : 0 ≤ n) (h1 : s.ids.length + n ≤ s.limit) : QOk { s with kept := n } :=
  ⟨h.lim, h0, h1, h.rise, h.ok, h.last, h.cnt, h.sub, h.pos⟩
theorem QOk.keep {s : QS} (h : QOk s) {n : Int} : QOk (s.keep n).2 := by
  unfold QS.keep
  have := h.kept
  split
  · exact h
  · split
    · exact h
    · exact h.setKept (by omega) (by omega)
theorem QOk.give {s : QS} (h : QOk s) {n : Int} : QOk (s.give n).2 := by
  unfold QS.give
  have := h.room
  split
  · exact h
  · exact h.setKept (by omega) (by omega)
theorem QOk.fill {s : QS} (h : QOk s) {id : Int} (hi : id < 18446744073709551616) : QOk (s.fill id).2 := by
  unfold QS.fill
  have h1 := h.room
  have h2 := h.kept
  split
  · exact h
  · split
    · exact h
    · refine QOk.come (h.setKept (by omega) (by omega)) (by simp only; omega) hi (by simp only; omega)

variable {X : Nat → Prop} {w : World} {q : Nat} {s : QS}

theorem QStep.refl {q b : Nat} {v : Value} (h : Que w q b v s) : QStep w w q b v s := ⟨v, h, Upd.refl _ _, fun _ h => .inl h⟩

set_option maxHeartbeats 800000 in
theorem keepX {n : Int} (h : QueX X w q s) (hX : ∀ k, X k → k < w.heap.size) (hn : n ≤ 9223372036854775807) :
    Calls Try.prog 20 #[.pointer (some ⟨q, 0, none⟩), .int .i64 n] w fun e w' => e = .returned (.int .i64 (s.keep n).1) ∧ QueX X w' q (s.keep n).2 ∧ Kept X w w' := by
  obtain ⟨h0, b, v, h1, h2⟩ := h
  have hk := h0.keep (n := n)
  suffices hs : Calls Try.prog 20 #[.pointer (some ⟨q, 0, none⟩), .int .i64 n] w fun e w' => e = .returned (.int .i64 (s.keep n).1) ∧ QStep w w' q b v (s.keep n).2 by
    refine hs.mono ?_
    rintro e w' ⟨he, hs⟩
    exact ⟨he, QueX.made h2 hX hs hk⟩
  have c2 := h1.c2
  have hr := room_any w q b v s h1 h0
  have a1 := h0.lim
  have a2 := h0.kept
  have a3 := h0.room
  clear hk h2 hX h0
  unfold QS.keep
  by_cases n0 : n < 0
  · rw [if_pos n0]
    go_enter Try.func20, Try.ntmps20
    go_wp2_with (first | (go_at_call 29; refine (there_ok _ _ _ c2).mono ?_; rintro e w' ⟨rfl, rfl⟩))
    go_ret
    exact ⟨rfl, QStep.refl h1⟩
  · rw [if_neg n0]
    by_cases n1 : s.limit - (s.ids.length + s.kept) < n
    · rw [if_pos n1]
      go_enter Try.func20, Try.ntmps20
      go_wp2_with (first | (go_at_call 29; refine (there_ok _ _ _ c2).mono ?_; rintro e w' ⟨rfl, rfl⟩) | (go_at_call 28; refine hr.mono ?_; clear hr; rintro e w1 ⟨rfl, hB⟩))
      go_ret
      exact ⟨rfl, (QStep.refl h1).below hB⟩
    · rw [if_neg n1]
      have hq : q < w.heap.size := h1.1.lt
      go_enter Try.func20, Try.ntmps20
      go_wp2_with (first | (go_at_call 29; refine (there_ok _ _ _ c2).mono ?_; rintro e w' ⟨rfl, rfl⟩) | (go_at_call 28; refine hr.mono ?_; clear hr; rintro e w1 ⟨rfl, hB⟩; have hh := h1.pure hB; have d3 := hh.c3; have f3 := hh.1.frozen 3))
      go_ret
      exact ⟨rfl, (QStep.keptSet hh _).of_below hB⟩

set_option maxHeartbeats 800000 in
theorem giveX {n : Int} (h : QueX X w q s) (hX : ∀ k, X k → k < w.heap.size) :
    Calls Try.prog 21 #[.pointer (some ⟨q, 0, none⟩), .int .i64 n] w fun e w' => e = .returned (.int .i64 (s.give n).1) ∧ QueX X w' q (s.give n).2 ∧ Kept X w w' := by
  obtain ⟨h0, b, v, h1, h2⟩ := h
  have hk := h0.give (n := n)
  suffices hs : Calls Try.prog 21 #[.pointer (some ⟨q, 0, none⟩), .int .i64 n] w fun e w' => e = .returned (.int .i64 (s.give n).1) ∧ QStep w w' q b v (s.give n).2 by
    refine hs.mono ?_
    rintro e w' ⟨he, hs⟩
    exact ⟨he, QueX.made h2 hX hs hk⟩
  have c2 := h1.c2
  have c3 := h1.c3
  have f3 := h1.1.frozen 3
  have a1 := h0.lim
  have a2 := h0.kept
  have a3 := h0.room
  clear hk h2 hX h0
  unfold QS.give
  by_cases n0 : n < 0
  · rw [if_pos (.inl n0)]
    go_enter Try.func21, Try.ntmps21
    go_wp2_with (first | (go_at_call 29; refine (there_ok _ _ _ c2).mono ?_; rintro e w' ⟨rfl, rfl⟩))
    go_ret
    exact ⟨rfl, QStep.refl h1⟩
  · by_cases n1 : s.kept < n
    · rw [if_pos (.inr n1)]
      go_enter Try.func21, Try.ntmps21
      go_wp2_with (first | (go_at_call 29; refine (there_ok _ _ _ c2).mono ?_; rintro e w' ⟨rfl, rfl⟩))
      go_ret
      exact ⟨rfl, QStep.refl h1⟩
    · rw [if_neg (by omega)]
      go_enter Try.func21, Try.ntmps21
      go_wp2_with (first | (go_at_call 29; refine (there_ok _ _ _ c2).mono ?_; rintro e w' ⟨rfl, rfl⟩))
      go_ret
      exact ⟨rfl, QStep.keptSet h1 _⟩

theorem QStep.trans {w w1 w2 : World} {q b : Nat} {v : Value} {s1 s2 : QS} (h : QStep w w1 q b v s1) (k : ∀ v', Que w1 q b v' s1 → QStep w1 w2 q b v' s2) : QStep w w2 q b v s2 := by
  obtain ⟨v', h1, h2, h3⟩ := h
  obtain ⟨v2, k1, k2, k3⟩ := k v' h1
  exact ⟨v2, k1, h2.trans k2 (fun i hi hl => (h3 i hi).elim id (fun h => by omega)), fun i hi => (k3 i hi).elim (h3 i) (fun h => .inr (Nat.le_trans h2.size h))⟩

set_option maxHeartbeats 800000 in
theorem fillX {id : Int} (h : QueX X w q s) (hX : ∀ k, X k → k < w.heap.size) (hL : s.ids.length ≤ 1000000) (hi : id < 18446744073709551616) :
    Calls Try.prog 22 #[.pointer (some ⟨q, 0, none⟩), .int .u64 id] w fun e w' => e = .returned (.int .i64 (s.fill id).1) ∧ QueX X w' q (s.fill id).2 ∧ Kept X w w' := by
  obtain ⟨h0, b, v, h1, h2⟩ := h
  have hk := h0.fill (id := id) hi
  suffices hs : Calls Try.prog 22 #[.pointer (some ⟨q, 0, none⟩), .int .u64 id] w fun e w' => e = .returned (.int .i64 (s.fill id).1) ∧ QStep w w' q b v (s.fill id).2 by
    refine hs.mono ?_
    rintro e w' ⟨he, hs⟩
    exact ⟨he, QueX.made h2 hX hs hk⟩
  have c2 := h1.c2
  have c3 := h1.c3
  have c4 := h1.c4
  have f3 := h1.1.frozen 3
  have a1 := h0.lim
  have a2 := h0.kept
  have a3 := h0.room
  clear hk h2 hX h0
  unfold QS.fill
  by_cases n0 : id ≤ s.last
  · rw [if_pos n0]
    have hd : decide (s.last < id) = false := decide_eq_false (by omega)
    go_enter Try.func22, Try.ntmps22
    go_wp2_with (first | (go_at_call 29; refine (there_ok _ _ _ c2).mono ?_; rintro e w' ⟨rfl, rfl⟩) | (go_at_call 30; refine (fresh_any _ _ _ _ c4).mono ?_; rw [hd]; rintro e w' ⟨rfl, rfl⟩))
    go_ret
    exact ⟨rfl, QStep.refl h1⟩
  · rw [if_neg n0]
    have hd : decide (s.last < id) = true := decide_eq_true (by omega)
    by_cases n1 : s.kept = 0
    · rw [if_pos n1]
      have hz : (s.kept == 0) = true := beq_iff_eq.2 n1
      have n1' := Lib.hid n1; clear n1
      go_enter Try.func22, Try.ntmps22
      go_wp2_with (first | (go_at_call 29; refine (there_ok _ _ _ c2).mono ?_; rintro e w' ⟨rfl, rfl⟩) | (go_at_call 30; refine (fresh_any _ _ _ _ c4).mono ?_; rw [hd]; rintro e w' ⟨rfl, rfl⟩))
      go_ret
      exact ⟨rfl, QStep.refl h1⟩
    · rw [if_neg n1]
      have hz : (s.kept == 0) = false := beq_eq_false_iff_ne.2 n1
      have hst := QStep.keptSet h1 (s.kept - 1)
      have hq : Que (w.setCell ⟨q, 3, none⟩ (.int .i64 (s.kept - 1))) q b v { s with kept := s.kept - 1 } := ⟨h1.1.set 3 _, h1.2.1.other _ _ (by intro k hk e; subst e; exact h1.2.2.2.1 hk), h1.2.2.1.other _ _ h1.2.2.2.2.2, h1.2.2.2⟩
      have hcome := come_any _ q b v _ id hq hL
      have hst' := Lib.hid hst
      have hcome' := Lib.hid hcome
      clear hst hcome hq
      go_enter Try.func22, Try.ntmps22
      go_wp2_with (first | (go_at_call 29; refine (there_ok _ _ _ c2).mono ?_; rintro e w' ⟨rfl, rfl⟩) | (go_at_call 30; refine (fresh_any _ _ _ _ c4).mono ?_; rw [hd]; rintro e w' ⟨rfl, rfl⟩) | (go_at_call 31; refine hcome'.out.mono ?_; rintro e w2 ⟨rfl, hst2⟩))
      go_ret
      refine ⟨rfl, ?_⟩
      obtain ⟨v2, k1, k2, k3⟩ := hst2
      have hu := (Upd.set (S := QueS q b v) (w := w) (p := ⟨q, 3, none⟩) (.inl rfl) (.int .i64 (s.kept - 1))).trans k2 (fun _ h _ => h)
      exact ⟨v2, k1, hu, fun i hi => (k3 i hi).imp (fun h => h) (fun h => by simpa using h)⟩

end Go.Proofs.Ytnmphchlephpbaa
