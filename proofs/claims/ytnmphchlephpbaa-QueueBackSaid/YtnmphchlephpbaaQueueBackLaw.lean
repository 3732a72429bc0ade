/- The law QueueBack, its plain half: what the queue holds at each step. Conditions: none. -/
import Derived.Test.YtnmphchlephpbaaQueueG
namespace Go.Proofs.Ytnmphchlephpbaa
open Go.RowKit

def up (n : Nat) : List Int := (List.range n).map (fun j => ((j : Nat) : Int) + 1)
theorem up_len (n : Nat) : (up n).length = n := by simp [up]
theorem up_get (n j : Nat) (h : j < (up n).length) : (up n)[j] = (j : Int) + 1 := by simp [up]
theorem up_succ (n : Nat) : up (n + 1) = up n ++ [(n : Int) + 1] := by simp [up, List.range_succ]
theorem up_mem {n : Nat} {i : Int} : i ∈ up n ↔ ∃ j : Nat, j < n ∧ i = (j : Int) + 1 := by
  simp only [up, List.mem_map, List.mem_range]
  exact ⟨fun ⟨j, h, e⟩ => ⟨j, h, e.symm⟩, fun ⟨j, h, e⟩ => ⟨j, h, e.symm⟩⟩

/-- Messages 1 .. n are there; f: who holds them. -/
structure BkS (s : QS) (n : Nat) (f : Nat → Option Int) : Prop where
  lim : s.limit = 100
  kept : s.kept = 0
  ids : s.ids = up n
  last : s.last = n
  own : ∀ j : Nat, j < n → s.own ((j : Int) + 1) = f j

theorem BkS.len {s : QS} {n : Nat} {f : Nat → Option Int} (h : BkS s n f) : s.ids.length = n := by rw [h.ids, up_len]
theorem BkS.ext {s : QS} {n : Nat} {f g : Nat → Option Int} (h : BkS s n f) (e : ∀ j, j < n → f j = g j) : BkS s n g := ⟨h.lim, h.kept, h.ids, h.last, fun j hj => (h.own j hj).trans (e j hj)⟩
theorem BkS.new : BkS (QS.new 100) 0 (fun _ => none) := ⟨rfl, rfl, rfl, rfl, fun _ h => absurd h (by omega)⟩

theorem BkS.put {s : QS} {n : Nat} (h : BkS s n (fun _ => none)) (ho : QOk s) (hn : n < 100) : s.put ((n : Int) + 1) = (0, s.come ((n : Int) + 1)) ∧ BkS (s.come ((n : Int) + 1)) (n + 1) (fun _ => none) := by
  have a1 := h.lim
  have a2 := h.kept
  have a3 := h.len
  have a4 := h.last
  refine ⟨?_, h.lim, h.kept, ?_, ?_, fun j hj => ?_⟩
  · unfold QS.put; rw [if_neg (by omega), if_neg (by omega)]
  · show s.ids ++ [(n : Int) + 1] = _
    rw [h.ids, up_succ]
  · show (n : Int) + 1 = _
    omega
  · show s.own _ = none
    by_cases hjn : j < n
    · exact h.own j hjn
    · obtain rfl : j = n := by omega
      exact ho.fresh (by omega)

def f5 (i : Nat) (j : Nat) : Option Int := if j < i then some 5 else none

theorem BkS.hold {s : QS} {n i : Nat} {f : Nat → Option Int} {o : Int} (h : BkS s n f) (hi : i < n) : BkS (s.hold ((i : Int) + 1) o) n (fun j => if j = i then some o else f j) := by
  refine ⟨h.lim, h.kept, h.ids, h.last, fun j hj => ?_⟩
  simp only [QS.hold]
  by_cases e : j = i
  · subst e; simp
  · rw [if_neg (by omega), if_neg e]; exact h.own j hj

theorem BkS.next {s : QS} {n i : Nat} (h : BkS s n (f5 i)) (hi : i < n) : s.nextAt = some i ∧ ∃ hk : i < s.ids.length, s.ids[i] = (i : Int) + 1 := by
  have hl := h.len
  refine ⟨?_, by omega, ?_⟩
  · unfold QS.nextAt
    have hids := h.ids
    rw [h.ids, List.findIdx?_eq_some_iff_getElem]
    refine ⟨by rw [up_len]; exact hi, ?_, fun j hj => ?_⟩
    · rw [up_get, h.own i hi]; simp [f5]
    · rw [up_get, h.own j (by omega)]; simp [f5, hj]
  · have hids := h.ids
    simp only [hids, up_get]

theorem BkS.next5 {s : QS} {n i : Nat} (h : BkS s n (f5 i)) (hi : i < n) : BkS (s.hold ((i : Int) + 1) 5) n (f5 (i + 1)) :=
  (h.hold hi).ext (fun j _ => by
    unfold f5
    by_cases e : j = i
    · subst e; simp
    · rw [if_neg e]
      by_cases e2 : j < i
      · rw [if_pos e2, if_pos (by omega)]
      · rw [if_neg e2, if_neg (by omega)])

/-- Who holds j when the first i of k were looked at; bb: those that come back. -/
def fb (k : Nat) (bb : Nat → Bool) (i j : Nat) : Option Int := if j < k ∧ ¬ (j < i ∧ bb j = true) then some 5 else none

theorem BkS.to_fb {s : QS} {n k : Nat} (h : BkS s n (f5 k)) (bb : Nat → Bool) : BkS s n (fb k bb 0) := h.ext (fun j _ => by
  unfold f5 fb
  by_cases e : j < k
  · rw [if_pos e, if_pos ⟨e, by omega⟩]
  · rw [if_neg e, if_neg (fun h => e h.1)])

theorem BkS.stay {s : QS} {n k i : Nat} {bb : Nat → Bool} (h : BkS s n (fb k bb i)) (hb : bb i = false) : BkS s n (fb k bb (i + 1)) := h.ext (fun j _ => by
  unfold fb
  by_cases e : j = i
  · subst e; simp [hb]
  · have : (j < i + 1) ↔ j < i := by omega
    simp only [this])

theorem BkS.free {s : QS} {n k i : Nat} {bb : Nat → Bool} (h : BkS s n (fb k bb i)) (hb : bb i = true) (hi : i < k) (hk : k ≤ n) :
    s.free ((i : Int) + 1) 5 = (0, s.drop1 ((i : Int) + 1)) ∧ BkS (s.drop1 ((i : Int) + 1)) n (fb k bb (i + 1)) := by
  have hown : s.own ((i : Int) + 1) = some 5 := by rw [h.own i (by omega)]; unfold fb; rw [if_pos ⟨hi, by omega⟩]
  have hm : s.must ((i : Int) + 1) 5 = 0 := by
    unfold QS.must
    rw [if_pos (by rw [h.ids, up_mem]; exact ⟨i, by omega, rfl⟩), hown]; rfl
  refine ⟨by unfold QS.free; rw [hm]; rfl, h.lim, h.kept, h.ids, h.last, fun j hj => ?_⟩
  simp only [QS.drop1]
  by_cases e : j = i
  · subst e; rw [if_pos rfl]; unfold fb; rw [if_neg (by simp [hb])]
  · rw [if_neg (by omega), h.own j hj]
    unfold fb
    have : (j < i + 1) ↔ j < i := by omega
    simp only [this]

/-- The numbers that are wanted, of the first i. -/
def wantOf (k : Nat) (bb : Nat → Bool) (i : Nat) : List Int := ((List.range i).filter (fun j => decide (k ≤ j) || bb j)).map (fun j => ((j : Nat) : Int) + 1)
theorem want_len (k : Nat) (bb : Nat → Bool) (i : Nat) : (wantOf k bb i).length ≤ i := by
  unfold wantOf
  rw [List.length_map]
  exact Nat.le_trans (List.length_filter_le _ _) (by simp)
theorem want_yes {k : Nat} {bb : Nat → Bool} {i : Nat} (h : (decide (k ≤ i) || bb i) = true) : wantOf k bb (i + 1) = wantOf k bb i ++ [(i : Int) + 1] := by
  unfold wantOf; rw [List.range_succ, List.filter_append, List.map_append]; simp only [List.filter_cons, h]; simp
theorem want_no {k : Nat} {bb : Nat → Bool} {i : Nat} (h : (decide (k ≤ i) || bb i) = false) : wantOf k bb (i + 1) = wantOf k bb i := by
  unfold wantOf; rw [List.range_succ, List.filter_append, List.map_append]; simp only [List.filter_cons, h]; simp

/-- The last turn: W are ready, the first m of them are out to 6. -/
structure RdS (s : QS) (n : Nat) (W : List Int) (m : Nat) : Prop where
  ids : s.ids = up n
  ready : s.ids.filter (fun i => (s.own i).isNone) = W.drop m
  out : ∀ i ∈ s.ids, s.own i = some 6 ↔ i ∈ W.take m

theorem BkS.rd {s : QS} {n k : Nat} {bb : Nat → Bool} (h : BkS s n (fb k bb k)) : RdS s n (wantOf k bb n) 0 := by
  refine ⟨h.ids, ?_, ?_⟩
  · rw [h.ids, List.drop_zero]
    unfold up wantOf
    rw [List.filter_map]
    congr 1
    refine List.filter_congr (fun j hj => ?_)
    rw [List.mem_range] at hj
    simp only [Function.comp]
    rw [h.own j hj]
    unfold fb
    by_cases hjk : j < k
    · cases hb : bb j
      · rw [if_pos ⟨hjk, by simp⟩]; simp; omega
      · rw [if_neg (by simp [hjk])]; simp
    · rw [if_neg (fun h => hjk h.1)]; simp; omega
  · intro i hi
    rw [h.ids, up_mem] at hi
    obtain ⟨j, hj, rfl⟩ := hi
    rw [h.own j hj, List.take_zero]
    unfold fb
    split <;> simp

theorem find_first {α : Type} (p : α → Bool) : ∀ (L : List α) (x : α) (r : List α), L.filter p = x :: r → ∃ k, L.findIdx? p = some k ∧ ∃ hk : k < L.length, L[k] = x
  | [], x, r, h => by cases h
  | a :: L, x, r, h => by
    rw [List.findIdx?_cons]
    cases ha : p a
    · rw [List.filter_cons_of_neg (by simp [ha])] at h
      obtain ⟨k, h1, h2, h3⟩ := find_first p L x r h
      exact ⟨k + 1, by simp [h1], by simp; omega, by simpa using h3⟩
    · rw [List.filter_cons_of_pos ha] at h
      injection h with h1 h2
      exact ⟨0, by simp, by simp, by simpa using h1⟩

theorem RdS.next {s : QS} {n : Nat} {W : List Int} {m : Nat} (h : RdS s n W m) (hm : m < W.length) : ∃ k, s.nextAt = some k ∧ ∃ hk : k < s.ids.length, s.ids[k] = W[m] := by
  have hr := h.ready
  rw [List.drop_eq_getElem_cons hm] at hr
  exact find_first _ _ _ _ hr

theorem RdS.none {s : QS} {n : Nat} {W : List Int} (h : RdS s n W W.length) : s.nextAt = none := by
  have hr := h.ready
  rw [List.drop_length, List.filter_eq_nil_iff] at hr
  unfold QS.nextAt
  rw [List.findIdx?_eq_none_iff]
  intro x hx
  exact Bool.eq_false_iff.2 (hr x hx)

theorem RdS.hold {s : QS} {n : Nat} {W : List Int} {m : Nat} (h : RdS s n W m) (ho : QOk s) (hm : m < W.length) : RdS (s.hold W[m] 6) n W (m + 1) := by
  have hr := h.ready
  rw [List.drop_eq_getElem_cons hm] at hr
  have hmem : W[m] ∈ s.ids := by
    have : W[m] ∈ s.ids.filter (fun i => (s.own i).isNone) := by rw [hr]; exact List.mem_cons_self
    exact (List.mem_filter.1 this).1
  refine ⟨h.ids, ?_, ?_⟩
  · show s.ids.filter (fun i => (if i = W[m] then some 6 else s.own i).isNone) = _
    have e : s.ids.filter (fun i => (if i = W[m] then some (6 : Int) else s.own i).isNone) = (s.ids.filter (fun i => (s.own i).isNone)).filter (fun i => decide (i ≠ W[m])) := by
      rw [List.filter_filter]
      refine List.filter_congr (fun i _ => ?_)
      by_cases hi : i = W[m]
      · simp [hi]
      · simp [hi]
    rw [e, hr]
    have hp : (W[m] :: W.drop (m + 1)).Pairwise (· < ·) := by
      rw [← hr]; exact ho.rise.filter _
    rw [List.pairwise_cons] at hp
    rw [List.filter_cons_of_neg (by simp), List.filter_eq_self]
    intro y hy
    have := hp.1 y hy
    simp only [ne_eq, decide_eq_true_eq]
    omega
  · intro i hi
    show (if i = W[m] then some 6 else s.own i) = some 6 ↔ _
    rw [List.take_succ_eq_append_getElem hm, List.mem_append, List.mem_singleton]
    by_cases hie : i = W[m]
    · simp [hie]
    · rw [if_neg hie, h.out i hi]; simp [hie]

theorem RdS.of {s : QS} {n k : Nat} {bb : Nat → Bool} (h : RdS s n (wantOf k bb n) (wantOf k bb n).length) : s.of 6 = wantOf k bb n := by
  unfold QS.of
  have e : s.ids.filter (fun i => (s.own i).getD 0 == 6) = s.ids.filter (fun i => decide (i ∈ wantOf k bb n)) := by
    refine List.filter_congr (fun i hi => ?_)
    have := h.out i hi
    rw [List.take_length] at this
    rw [Bool.eq_iff_iff, decide_eq_true_iff, ← this, beq_iff_eq]
    cases s.own i with
    | none => simp
    | some o => simp
  rw [e, h.ids]
  unfold up wantOf
  rw [List.filter_map]
  congr 1
  refine List.filter_congr (fun j hj => ?_)
  show decide (((j : Nat) : Int) + 1 ∈ _) = _
  rw [Bool.eq_iff_iff, decide_eq_true_iff, List.mem_map]
  simp only [List.mem_filter]
  constructor
  · rintro ⟨j', ⟨h1, h2⟩, h3⟩
    obtain rfl : j' = j := by omega
    exact h2
  · intro h2; exact ⟨j, ⟨hj, h2⟩, rfl⟩

end Go.Proofs.Ytnmphchlephpbaa
