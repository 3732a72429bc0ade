/- Next on the pair; hands. Conditions: as for the pair. -/
import Derived.Test.YtnmphchlephpbaaQueueS
namespace Go.Proofs.Ytnmphchlephpbaa
open Go.RowKit
variable {X X' : Nat → Prop} {w w' : World} {q p : Nat} {s t s' : QS}

theorem next_zero (w : World) (q b : Nat) (h2 : w.cell? ⟨q, 2, none⟩ = some (.map (some b))) :
    Calls Try.prog 10 #[.pointer (some ⟨q, 0, none⟩), .int .u64 0] w fun e w' => e = .returned (.tuple #[.int .u64 0, .bool false]) ∧ w = w' := by
  go_enter Try.func10, Try.ntmps10
  go_wp2_with (first | (go_at_call 29; refine (there_ok _ _ _ h2).mono ?_; rintro e w' ⟨rfl, rfl⟩))
  go_ret2
  exact ⟨rfl, rfl⟩

theorem ref_next_zero (w : World) (p : Nat) (v : Value) (s : QS) (h : RefQ w p v s) :
    Calls Try.prog 40 #[.pointer (some ⟨p, 0, none⟩), .int .u64 0] w fun e w' => e = .returned (.tuple #[.int .u64 0, .bool false]) ∧ w = w' := by
  have c1 := h.c1
  obtain ⟨a, cap, rfl, hm⟩ := h.slc.len
  clear h
  by_cases hz : 0 < s.msgs.length
  · go_enter Try.func40, Try.ntmps40
    go_wp2
    go_loop [6] (fun s6 => s6 = .int .i64 0) (fun _ => 0)
    case atStart => exact rfl
    case round =>
      obtain rfl := hrel
      go_wp2
      go_ret2
      exact ⟨rfl, rfl⟩
  · go_enter Try.func40, Try.ntmps40
    go_wp2
    go_loop [6] (fun s6 => s6 = .int .i64 0) (fun _ => 0)
    case atStart => exact rfl
    case round =>
      obtain rfl := hrel
      go_wp2
      go_ret2
      exact ⟨rfl, rfl⟩

/-- What Next answers and leaves. -/
def QS.next (s : QS) (o : Int) : Int × Bool × QS := if o = 0 then (0, false, s) else match s.nextAt with | none => (0, false, s) | some k => (s.ids.getD k 0, true, s.hold (s.ids.getD k 0) o)

theorem QOk.next {s : QS} (h : QOk s) {o : Int} (h0 : 0 ≤ o) : QOk (s.next o).2.2 := by
  unfold QS.next
  split
  · exact h
  · cases hn : s.nextAt with
    | none => exact h
    | some k =>
      have hk : k < s.ids.length := by
        unfold QS.nextAt at hn
        exact (List.findIdx?_eq_some_iff_getElem.1 hn).1
      simp only
      rw [List.getD_eq_getElem?_getD, List.getElem?_eq_getElem hk]
      exact h.hold (List.getElem_mem hk) (by omega)

theorem Below.kept {X : Nat → Prop} (hb : Below w.heap.size w w') : Kept X w w' := Upd.of_below hb

theorem pq_next {o : Int} (h : PairS X w q p s t) (hX : ∀ k, X k → k < w.heap.size) (hL : s.ids.length ≤ 1000000) (h0 : 0 ≤ o) :
    Calls Try.prog 10 #[.pointer (some ⟨q, 0, none⟩), .int .u64 o] w fun e w' => e = .returned (.tuple #[.int .u64 (s.next o).1, .bool (s.next o).2.1]) ∧ PairS X w' q p (s.next o).2.2 t ∧ Kept X w w' := by
  unfold QS.next
  by_cases hz : o = 0
  · subst hz
    rw [if_pos rfl]
    obtain ⟨_, b, v, u, h1, _⟩ := id h
    refine (next_zero w q b h1.c2).mono ?_
    rintro e w' ⟨he, rfl⟩
    exact ⟨he, h, Upd.refl _ _⟩
  · rw [if_neg hz]
    obtain ⟨Y, h1, h2, h3⟩ := h.que hX
    cases hn : s.nextAt with
    | none =>
      refine (nextX_none h1 hL (by omega) hn).mono ?_
      rintro e w' ⟨he, hb⟩
      exact ⟨he, h.pure hb, Below.kept hb⟩
    | some k =>
      have hk : k < s.ids.length := by
        unfold QS.nextAt at hn
        exact (List.findIdx?_eq_some_iff_getElem.1 hn).1
      simp only
      rw [List.getD_eq_getElem?_getD, List.getElem?_eq_getElem hk]
      refine (nextX_some h1 h2 hL (by omega) hk hn).mono ?_
      rintro e w' ⟨he, hq, hK⟩
      exact ⟨he, h3 w' _ hq hK⟩

theorem pr_next {o : Int} (h : PairS X w q p s t) (hX : ∀ k, X k → k < w.heap.size) (ho : QOk t) (hL : t.ids.length ≤ 1000000) (h0 : 0 ≤ o) :
    Calls Try.prog 40 #[.pointer (some ⟨p, 0, none⟩), .int .u64 o] w fun e w' => e = .returned (.tuple #[.int .u64 (t.next o).1, .bool (t.next o).2.1]) ∧ PairS X w' q p s (t.next o).2.2 ∧ Kept X w w' := by
  unfold QS.next
  obtain ⟨u, h1, h2⟩ := h.ref hX
  by_cases hz : o = 0
  · subst hz
    rw [if_pos rfl]
    refine (ref_next_zero w p u t h1).mono ?_
    rintro e w' ⟨he, rfl⟩
    exact ⟨he, h, Upd.refl _ _⟩
  · rw [if_neg hz]
    refine (ref_next w p u t o h1 ho hL (by omega)).mono ?_
    rintro e w' (⟨hn, he, rfl⟩ | ⟨k, hn, hk, he, hs⟩)
    · rw [hn]; exact ⟨he, h, Upd.refl _ _⟩
    · rw [hn]
      simp only
      rw [List.getD_eq_getElem?_getD, List.getElem?_eq_getElem hk]
      refine ⟨he, ?_⟩
      have := h2 w' _ hs
      unfold QS.setOwn at this
      rw [if_neg hz] at this
      exact this

/-- hands. -/
def QS.hands (s : QS) (id f o : Int) : Int × QS := if f = 0 then ((if id ∈ s.ids then 9 else 7), s) else s.passR id f o

theorem pr_hands {id f o : Int} (h : PairS X w q p s t) (hX : ∀ k, X k → k < w.heap.size) (ho : QOk t) (hL : t.ids.length ≤ 1000000) :
    Calls Try.prog 42 #[.pointer (some ⟨p, 0, none⟩), .int .u64 id, .int .u64 f, .int .u64 o] w fun e w' => e = .returned (.int .i64 (t.hands id f o).1) ∧ PairS X w' q p s (t.hands id f o).2 ∧ Kept X w w' := by
  obtain ⟨u, h1, h2⟩ := h.ref hX
  have hf := ref_find w p u t id h1
  unfold QS.hands
  by_cases hz : f = 0
  · subst hz
    rw [if_pos rfl]
    by_cases hi : id ∈ t.ids
    · rw [if_pos hi]
      obtain ⟨i, hil, _, hfi⟩ := find_yes ho.rise hi
      rw [hfi] at hf
      simp only [idxOf] at hf
      clear hi hfi
      go_enter Try.func42, Try.ntmps42
      go_wp2_with (first | (go_at_call 19; refine hf.mono ?_; clear hf; rintro e w' ⟨rfl, rfl⟩))
      go_ret
      exact ⟨rfl, h, Upd.refl _ _⟩
    · rw [if_neg hi]
      rw [find_no hi] at hf
      simp only [idxOf] at hf
      clear hi
      go_enter Try.func42, Try.ntmps42
      go_wp2_with (first | (go_at_call 19; refine hf.mono ?_; clear hf; rintro e w' ⟨rfl, rfl⟩))
      go_ret
      exact ⟨rfl, h, Upd.refl _ _⟩
  · rw [if_neg hz]
    have hzb : (f == 0) = false := beq_eq_false_iff_ne.2 hz
    have hp := pr_pass (id := id) (f := f) (o := o) h hX ho hL
    clear hf h2 h1
    go_enter Try.func42, Try.ntmps42
    go_wp2_with (first | (go_at_call 41; refine hp.mono ?_; clear hp; rintro e w' ⟨rfl, hP, hK⟩))
    go_ret
    exact ⟨rfl, hP, hK⟩

end Go.Proofs.Ytnmphchlephpbaa
