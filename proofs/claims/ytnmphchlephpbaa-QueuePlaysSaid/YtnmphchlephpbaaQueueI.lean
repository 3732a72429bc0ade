/- Package queue: Hold, Pass, Purge. Conditions: the queue's memory as 'QueX' says; at most a million messages. -/
import Derived.Test.YtnmphchlephpbaaQueueH
namespace Go.Proofs.Ytnmphchlephpbaa
open Go.RowKit
variable {X : Nat → Prop} {w : World} {q : Nat} {s : QS}

theorem hold1_any (w : World) (h : Int) (is : Bool) :
    Calls Try.prog 48 #[.agg #[.int .u64 h], .bool is] w fun e w' => e = .returned (.bool (!is)) ∧ Below w.heap.size w w' := by
  go_enter Try.func48, Try.ntmps48
  go_wp2
  go_ret
  exact ⟨rfl, (Below.refl _ _).alloc (Nat.le_refl _) _⟩

/-- What must says of 'nobody holds it'. -/
def QS.must0 (s : QS) (id : Int) : Int := if id ∈ s.ids then (if (s.own id).isSome then 9 else 0) else 7

set_option maxHeartbeats 800000 in
theorem must_hold (w : World) (q b : Nat) (v : Value) (s : QS) (id : Int) (h : Que w q b v s) (ho : QOk s) (hL : s.ids.length ≤ 1000000) (hid : u64ok id) :
    Calls Try.prog 33 #[.pointer (some ⟨q, 0, none⟩), .int .u64 id, .func (.func 48) #[] #[]] w fun e w' => e = .returned (.int .i64 (s.must0 id)) ∧ Below w.heap.size w w' := by
  have c1 := h.c1
  have c2 := h.c2
  have ha := at_any w v s.ids id ho.rise hL h.slc
  have hm := h.2.2.1
  clear h ho
  unfold QS.must0
  by_cases hi : id ∈ s.ids
  · rw [if_pos hi]
    rw [decide_eq_true hi] at ha
    clear hi
    cases hq : (s.own id).isSome
    · go_enter Try.func33, Try.ntmps33
      go_wp2_with (first | (go_at_call 32; refine ha.mono ?_; clear ha; rintro e w' ⟨i, -, rfl, rfl⟩) | (at_lookup; refine wpList_lookG_ok _ heldT rfl _ _ rfl rfl hm id rfl hid ?_; rw [hq]) | (go_at_call 48; refine (hold1_any _ _ _).mono ?_; rintro e w2 ⟨rfl, hB2⟩))
      go_ret
      exact ⟨rfl, ((Below.refl _ _).alloc (Nat.le_refl _) _).trans (hB2.mono (by simp))⟩
    · go_enter Try.func33, Try.ntmps33
      go_wp2_with (first | (go_at_call 32; refine ha.mono ?_; clear ha; rintro e w' ⟨i, -, rfl, rfl⟩) | (at_lookup; refine wpList_lookG_ok _ heldT rfl _ _ rfl rfl hm id rfl hid ?_; rw [hq]) | (go_at_call 48; refine (hold1_any _ _ _).mono ?_; rintro e w2 ⟨rfl, hB2⟩))
      go_ret
      exact ⟨rfl, ((Below.refl _ _).alloc (Nat.le_refl _) _).trans (hB2.mono (by simp))⟩
  · rw [if_neg hi]
    rw [decide_eq_false hi] at ha
    clear hi
    go_enter Try.func33, Try.ntmps33
    go_wp2_with (first | (go_at_call 32; refine ha.mono ?_; clear ha; rintro e w' ⟨i, -, rfl, rfl⟩))
    go_ret
    exact ⟨rfl, Below.refl _ _⟩

def QS.holds (s : QS) (id o : Int) : Int × QS := if o = 0 then (2, s) else (s.must0 id, if s.must0 id = 0 then s.hold id o else s)
def QS.pass (s : QS) (id f o : Int) : Int × QS := if o = 0 then (2, s) else (s.must id f, if s.must id f = 0 then s.hold id o else s)

theorem must0_in {s : QS} {id : Int} (h : s.must0 id = 0) : id ∈ s.ids := by
  unfold QS.must0 at h; split at h
  · assumption
  · omega
theorem must_in {s : QS} {id o : Int} (h : s.must id o = 0) : id ∈ s.ids := by
  unfold QS.must at h; split at h
  · assumption
  · omega
theorem QOk.holds {s : QS} (h : QOk s) {id o : Int} (h0 : 0 ≤ o) : QOk (s.holds id o).2 := by
  unfold QS.holds
  split
  · exact h
  · simp only; split
    · exact h.hold (must0_in (by assumption)) (by omega)
    · exact h
theorem QOk.pass {s : QS} (h : QOk s) {id f o : Int} (h0 : 0 ≤ o) : QOk (s.pass id f o).2 := by
  unfold QS.pass
  split
  · exact h
  · simp only; split
    · exact h.hold (must_in (by assumption)) (by omega)
    · exact h

set_option maxHeartbeats 800000 in
theorem holdX {id o : Int} (h : QueX X w q s) (hX : ∀ k, X k → k < w.heap.size) (hL : s.ids.length ≤ 1000000) (hid : u64ok id) (ho : 0 ≤ o) :
    Calls Try.prog 23 #[.pointer (some ⟨q, 0, none⟩), .int .u64 id, .int .u64 o] w fun e w' => e = .returned (.int .i64 (s.holds id o).1) ∧ QueX X w' q (s.holds id o).2 ∧ Kept X w w' := by
  obtain ⟨h0, b, v, h1, h2⟩ := h
  have hk := h0.holds (id := id) ho
  suffices hs : Calls Try.prog 23 #[.pointer (some ⟨q, 0, none⟩), .int .u64 id, .int .u64 o] w fun e w' => e = .returned (.int .i64 (s.holds id o).1) ∧ QStep w w' q b v (s.holds id o).2 by
    refine hs.mono ?_
    rintro e w' ⟨he, hs⟩
    exact ⟨he, QueX.made h2 hX hs hk⟩
  have c2 := h1.c2
  have hcn := h0.le
  have hmust := must_hold w q b v s id h1 h0 hL hid
  clear hk h2 hX h0
  unfold QS.holds
  by_cases n0 : o = 0
  · rw [if_pos n0]
    subst n0
    clear hmust
    go_enter Try.func23, Try.ntmps23
    go_wp2_with (first | (go_at_call 29; refine (there_ok _ _ _ c2).mono ?_; rintro e w' ⟨rfl, rfl⟩))
    go_ret
    exact ⟨rfl, QStep.refl h1⟩
  · rw [if_neg n0]
    have ob : (o == 0) = false := beq_eq_false_iff_ne.2 n0
    simp only
    cases hz : decide (s.must0 id = 0)
    · have hz' := of_decide_eq_false hz
      have hzb : (s.must0 id == 0) = false := beq_eq_false_iff_ne.2 hz'
      rw [if_neg hz']
      clear hz hz'
      go_enter Try.func23, Try.ntmps23
      go_wp2_with (first | (go_at_call 29; refine (there_ok _ _ _ c2).mono ?_; rintro e w' ⟨rfl, rfl⟩) | (go_at_call 33; refine hmust.mono ?_; clear hmust; rintro e w2 ⟨rfl, hB2⟩))
      go_ret
      exact ⟨rfl, (QStep.refl h1).below hB2⟩
    · have hz' := of_decide_eq_true hz
      rw [if_pos hz', hz']
      rw [hz'] at hmust
      clear hz hz'
      go_enter Try.func23, Try.ntmps23
      go_wp2_with (first | (go_at_call 29; refine (there_ok _ _ _ c2).mono ?_; rintro e w' ⟨rfl, rfl⟩) | (go_at_call 33; refine hmust.mono ?_; clear hmust; rintro e w2 ⟨rfl, hB2⟩; have hh := h1.pure hB2; have d2 := hh.c2) | (at_mapUpdate; refine wpList_putG _ heldT rfl _ _ _ rfl rfl hh.2.2.1 (by unfold maxLen; omega) id o rfl rfl hid ?_; intro w3 hm3 hg3))
      go_ret
      exact ⟨rfl, (QStep.map hh hm3 hg3).of_below hB2⟩

set_option maxHeartbeats 800000 in
theorem passX {id f o : Int} (h : QueX X w q s) (hX : ∀ k, X k → k < w.heap.size) (hL : s.ids.length ≤ 1000000) (hid : u64ok id) (ho : 0 ≤ o) :
    Calls Try.prog 24 #[.pointer (some ⟨q, 0, none⟩), .int .u64 id, .int .u64 f, .int .u64 o] w fun e w' => e = .returned (.int .i64 (s.pass id f o).1) ∧ QueX X w' q (s.pass id f o).2 ∧ Kept X w w' := by
  obtain ⟨h0, b, v, h1, h2⟩ := h
  have hk := h0.pass (id := id) (f := f) ho
  suffices hs : Calls Try.prog 24 #[.pointer (some ⟨q, 0, none⟩), .int .u64 id, .int .u64 f, .int .u64 o] w fun e w' => e = .returned (.int .i64 (s.pass id f o).1) ∧ QStep w w' q b v (s.pass id f o).2 by
    refine hs.mono ?_
    rintro e w' ⟨he, hs⟩
    exact ⟨he, QueX.made h2 hX hs hk⟩
  have c2 := h1.c2
  have hcn := h0.le
  have hmust := fun (w1 : World) (hB : Below w.heap.size w w1) B hb => must_by w1 q b v s id f B (h1.pure hB) h0 hL hid hb
  clear hk h2 hX h0
  unfold QS.pass
  by_cases n0 : o = 0
  · rw [if_pos n0]
    subst n0
    clear hmust
    go_enter Try.func24, Try.ntmps24
    go_wp2_with (first | (go_at_call 29; refine (there_ok _ _ _ c2).mono ?_; rintro e w' ⟨rfl, rfl⟩))
    go_ret
    exact ⟨rfl, QStep.refl h1⟩
  · rw [if_neg n0]
    have ob : (o == 0) = false := beq_eq_false_iff_ne.2 n0
    simp only
    cases hz : decide (s.must id f = 0)
    · have hz' := of_decide_eq_false hz
      have hzb : (s.must id f == 0) = false := beq_eq_false_iff_ne.2 hz'
      rw [if_neg hz']
      clear hz hz'
      go_enter Try.func24, Try.ntmps24
      go_wp2_with (first | (go_at_call 29; refine (there_ok _ _ _ c2).mono ?_; rintro e w' ⟨rfl, rfl⟩) | (go_at_call 34; refine (by_any _ _).mono ?_; rintro e w1 ⟨rfl, hB1, hb⟩) | (go_at_call 33; refine (hmust _ hB1 _ hb).mono ?_; rintro e w2 ⟨rfl, hB2⟩))
      go_ret
      exact ⟨rfl, ((QStep.refl h1).below hB1).below hB2⟩
    · have hz' := of_decide_eq_true hz
      rw [if_pos hz', hz']
      rw [hz'] at hmust
      clear hz hz'
      go_enter Try.func24, Try.ntmps24
      go_wp2_with (first | (go_at_call 29; refine (there_ok _ _ _ c2).mono ?_; rintro e w' ⟨rfl, rfl⟩) | (go_at_call 34; refine (by_any _ _).mono ?_; rintro e w1 ⟨rfl, hB1, hb⟩) | (go_at_call 33; refine (hmust _ hB1 _ hb).mono ?_; rintro e w2 ⟨rfl, hB2⟩; have hh := h1.pure (hB1.trans (hB2.mono hB1.size)); have d2 := hh.c2; clear hmust) | (at_mapUpdate; refine wpList_putG _ heldT rfl _ _ _ rfl rfl hh.2.2.1 (by unfold maxLen; omega) id o rfl rfl hid ?_; intro w3 hm3 hg3))
      go_ret
      exact ⟨rfl, (QStep.map hh hm3 hg3).of_below (hB1.trans (hB2.mono hB1.size))⟩

end Go.Proofs.Ytnmphchlephpbaa
