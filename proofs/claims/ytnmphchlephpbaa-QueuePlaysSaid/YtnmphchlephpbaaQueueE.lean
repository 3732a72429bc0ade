/- Package queue, fifth part: the queue as one object apart from given blocks ('QueX'), and the calls' contracts in that form. Conditions: at most a million messages. -/
import Derived.Test.YtnmphchlephpbaaQueueD
namespace Go.Proofs.Ytnmphchlephpbaa
open Go.RowKit

theorem QOk.new {n : Int} (h : 0 ≤ n) : QOk (QS.new n) where
  lim := by unfold QS.new limOf; simp only; split <;> omega
  kept := by simp [QS.new]
  room := by unfold QS.new limOf; simp only [List.length_nil]; split <;> omega
  rise := List.Pairwise.nil
  ok := by simp [QS.new]
  last := by simp [QS.new]
  cnt := rfl
  sub := by simp [QS.new]
  pos := by simp [QS.new]

theorem QOk.fresh {s : QS} (h : QOk s) {id : Int} (hi : s.last < id) : s.own id = none := by
  cases hh : s.own id with
  | none => rfl
  | some o =>
    have := (h.ok id (h.sub id (by rw [hh]; rfl))).2
    omega

theorem QOk.come {s : QS} (h : QOk s) {id : Int} (hi : s.last < id) (hi2 : id < 18446744073709551616) (hr : s.ids.length + 1 + s.kept ≤ s.limit) : QOk (s.come id) where
  lim := h.lim
  kept := h.kept
  room := by simp only [QS.come, List.length_append, List.length_singleton]; omega
  rise := by
    simp only [QS.come]
    rw [List.pairwise_append]
    refine ⟨h.rise, List.pairwise_singleton _ _, fun a ha b hb => ?_⟩
    rw [List.mem_singleton] at hb
    have := (h.ok a ha).2
    omega
  ok := by
    intro i hi'
    simp only [QS.come, List.mem_append, List.mem_singleton] at hi' ⊢
    rcases hi' with hi' | hi'
    · have := h.ok i hi'; omega
    · have := h.last.1; omega
  last := by simp only [QS.come]; have := h.last.1; omega
  cnt := by
    simp only [QS.come, List.countP_append, List.countP_singleton]
    rw [h.fresh hi, ← h.cnt]; simp
  sub := fun i hi' => by
    simp only [QS.come, List.mem_append] at hi' ⊢
    exact .inl (h.sub i hi')
  pos := h.pos

theorem QOk.put {s : QS} (h : QOk s) {id : Int} (hi2 : id < 18446744073709551616) : QOk (s.put id).2 := by
  unfold QS.put
  split
  · exact h
  · split
    · exact h
    · have := h.room
      exact h.come (by omega) hi2 (by omega)

/-- How many hold, when one more does. -/
theorem countP_more {L : List Int} (hn : L.Pairwise (· < ·)) {p : Int → Bool} {x : Int} (hx : x ∈ L) (hp : p x = false) (p' : Int → Bool) (h1 : p' x = true) (h2 : ∀ y, y ≠ x → p' y = p y) : L.countP p' = L.countP p + 1 := by
  induction L with
  | nil => cases hx
  | cons a L ih =>
    rw [List.pairwise_cons] at hn
    rw [List.countP_cons, List.countP_cons]
    by_cases ha : a = x
    · subst ha
      have : L.countP p' = L.countP p := List.countP_congr (fun y hy => by
        have : a < y := hn.1 y hy
        rw [h2 y (by omega)])
      rw [h1, hp, this]; simp
    · rw [ih hn.2 ((List.mem_cons.1 hx).resolve_left (fun e => ha e.symm)), h2 a ha]
      omega

theorem QOk.hold {s : QS} (h : QOk s) {id o : Int} (hi : id ∈ s.ids) (h0 : 0 < o) : QOk (s.hold id o) where
  lim := h.lim
  kept := h.kept
  room := h.room
  rise := h.rise
  ok := h.ok
  last := h.last
  cnt := by
    simp only [QS.hold]
    cases hs : (s.own id).isSome
    · rw [if_neg (by simp)]
      rw [h.cnt]
      refine (countP_more h.rise hi hs _ (by simp) (fun y hy => by rw [if_neg hy])).symm
    · rw [if_pos rfl, h.cnt]
      refine List.countP_congr (fun y _ => ?_)
      by_cases hy : y = id
      · subst hy; simp [hs]
      · rw [if_neg hy]
  sub := fun i hi' => by
    simp only [QS.hold] at hi' ⊢
    by_cases hy : i = id
    · subst hy; exact hi
    · rw [if_neg hy] at hi'; exact h.sub i hi'
  pos := fun i o' hi' => by
    simp only [QS.hold] at hi'
    by_cases hy : i = id
    · rw [if_pos hy] at hi'; injection hi' with hi'; omega
    · rw [if_neg hy] at hi'; exact h.pos i o' hi'

theorem QOk.drop1 {s : QS} (h : QOk s) {id : Int} : QOk (s.drop1 id) where
  lim := h.lim
  kept := h.kept
  room := h.room
  rise := h.rise
  ok := h.ok
  last := h.last
  cnt := by
    simp only [QS.drop1]
    cases hs : (s.own id).isSome
    · rw [if_neg (by simp), h.cnt]
      refine List.countP_congr (fun y _ => ?_)
      by_cases hy : y = id
      · subst hy; simp [hs]
      · rw [if_neg hy]
    · rw [if_pos rfl]
      have := countP_more h.rise (h.sub id hs) (p := fun i => (if i = id then none else s.own i).isSome) (by simp) (fun i => (s.own i).isSome) hs (fun y hy => by rw [if_neg hy])
      rw [h.cnt, this]; omega
  sub := fun i hi' => by
    simp only [QS.drop1] at hi' ⊢
    by_cases hy : i = id
    · rw [if_pos hy] at hi'; cases hi'
    · rw [if_neg hy] at hi'; exact h.sub i hi'
  pos := fun i o' hi' => by
    simp only [QS.drop1] at hi'
    by_cases hy : i = id
    · rw [if_pos hy] at hi'; cases hi'
    · rw [if_neg hy] at hi'; exact h.pos i o' hi'

theorem QOk.free {s : QS} (h : QOk s) {id o : Int} : QOk (s.free id o).2 := by
  unfold QS.free
  simp only
  split
  · exact h.drop1
  · exact h

/-- What lies in X is as it was. -/
abbrev Kept (X : Nat → Prop) (w w' : World) : Prop := Upd (fun k => ¬ X k) w w'

/-- The queue at q, right, none of its blocks in X. -/
def QueX (X : Nat → Prop) (w : World) (q : Nat) (s : QS) : Prop := QOk s ∧ ∃ b v, Que w q b v s ∧ ∀ k, QueS q b v k → ¬ X k
variable {X X' : Nat → Prop} {w w' : World} {q : Nat} {s : QS}
theorem QueX.ok (h : QueX X w q s) : QOk s := h.1
theorem QueX.step {T : Nat → Prop} (h : QueX X w q s) (hb : Upd T w w') (hT : ∀ k, T k → k < w.heap.size → X k) (hX : ∀ k, X' k → k < w.heap.size → X k) : QueX X' w' q s := by
  obtain ⟨h0, b, v, h1, h2⟩ := h
  refine ⟨h0, b, v, ⟨h1.1.keep (hb.block q h1.1.lt (fun ht => h2 q (.inl rfl) (hT q ht h1.1.lt))), h1.2.1.keep (fun k hk hl => hb.block k hl (fun ht => h2 k (.inr (.inr hk)) (hT k ht hl))),
    h1.2.2.1.keep (hb.block b h1.2.2.1.lt (fun ht => h2 b (.inr (.inl rfl)) (hT b ht h1.2.2.1.lt))), h1.2.2.2⟩, fun k hk hx => h2 k hk (hX k hx (h1.lt hk))⟩
theorem QueX.pure (h : QueX X w q s) (hb : Below w.heap.size w w') : QueX X w' q s := by
  obtain ⟨h0, b, v, h1, h2⟩ := h; exact ⟨h0, b, v, h1.pure hb, h2⟩
theorem QueX.more (h : QueX X w q s) (hX : ∀ k, X' k → k < w.heap.size → X k) : QueX X' w q s := h.step (Upd.refl (fun _ => False) w) (fun _ h => h.elim) hX
theorem QueX.made {b : Nat} {v : Value} {s' : QS} (hs : ∀ k, QueS q b v k → ¬ X k) (hX : ∀ k, X k → k < w.heap.size) (h : QStep w w' q b v s') (ho : QOk s') : QueX X w' q s' ∧ Kept X w w' := by
  obtain ⟨v', h1, h2, h3⟩ := h
  exact ⟨⟨ho, b, v', h1, fun k hk => (h3 k hk).elim (hs k) (fun h hx => by have := hX k hx; omega)⟩, h2.mono (fun k hk _ => hs k hk)⟩

theorem newX (w : World) (n : Int) (h0 : 0 ≤ n) :
    Calls Try.prog 8 #[.int .u64 n] w fun e w' => e = .returned (.pointer (some ⟨w.heap.size + 1, 0, none⟩)) ∧ Below w.heap.size w w' ∧ QueX (fun k => k < w.heap.size) w' (w.heap.size + 1) (QS.new n) := by
  refine (new_any w n h0).mono ?_
  rintro e w' ⟨h1, h2, h3⟩
  refine ⟨h1, h2, QOk.new h0, _, _, h3, ?_⟩
  rintro k (h | h | h)
  · omega
  · omega
  · simp [Value.ownBlock] at h

theorem putX {id : Int} (h : QueX X w q s) (hX : ∀ k, X k → k < w.heap.size) (hL : s.ids.length ≤ 1000000) (hi : id < 18446744073709551616) :
    Calls Try.prog 9 #[.pointer (some ⟨q, 0, none⟩), .int .u64 id] w fun e w' => e = .returned (.int .i64 (s.put id).1) ∧ QueX X w' q (s.put id).2 ∧ Kept X w w' := by
  obtain ⟨h0, b, v, h1, h2⟩ := h
  refine (put_any w q b v s id h1 h0 hL).mono ?_
  rintro e w' ⟨he, hs⟩
  exact ⟨he, QueX.made h2 hX hs (h0.put hi)⟩

theorem freeX {id o : Int} (h : QueX X w q s) (hX : ∀ k, X k → k < w.heap.size) (hL : s.ids.length ≤ 1000000) (hi : u64ok id) :
    Calls Try.prog 13 #[.pointer (some ⟨q, 0, none⟩), .int .u64 id, .int .u64 o] w fun e w' => e = .returned (.int .i64 (s.free id o).1) ∧ QueX X w' q (s.free id o).2 ∧ Kept X w w' := by
  obtain ⟨h0, b, v, h1, h2⟩ := h
  refine (free_any w q b v s id o h1 h0 hL hi).mono ?_
  rintro e w' ⟨he, hs⟩
  exact ⟨he, QueX.made h2 hX hs h0.free⟩

theorem nextX_none {o : Int} (h : QueX X w q s) (hL : s.ids.length ≤ 1000000) (ho : 0 < o) (hn : s.nextAt = none) :
    Calls Try.prog 10 #[.pointer (some ⟨q, 0, none⟩), .int .u64 o] w fun e w' => e = .returned (.tuple #[.int .u64 0, .bool false]) ∧ Below w.heap.size w w' := by
  obtain ⟨h0, b, v, h1, h2⟩ := h
  refine (next_any w q b v s o h1 h0 hL ho).mono ?_
  rintro e w' (⟨_, he, hb⟩ | ⟨k, hk, _⟩)
  · exact ⟨he, hb⟩
  · rw [hn] at hk; cases hk

theorem nextX_some {o : Int} (h : QueX X w q s) (hX : ∀ k, X k → k < w.heap.size) (hL : s.ids.length ≤ 1000000) (ho : 0 < o) {k : Nat} (hk : k < s.ids.length) (hn : s.nextAt = some k) :
    Calls Try.prog 10 #[.pointer (some ⟨q, 0, none⟩), .int .u64 o] w fun e w' => e = .returned (.tuple #[.int .u64 s.ids[k], .bool true]) ∧ QueX X w' q (s.hold s.ids[k] o) ∧ Kept X w w' := by
  obtain ⟨h0, b, v, h1, h2⟩ := h
  refine (next_any w q b v s o h1 h0 hL ho).mono ?_
  rintro e w' (⟨hk', _⟩ | ⟨k', hk', hlt, he, hs⟩)
  · rw [hn] at hk'; cases hk'
  · rw [hn] at hk'; cases hk'
    exact ⟨he, QueX.made h2 hX hs (h0.hold (List.getElem_mem hk) ho)⟩

theorem ownerX {id : Int} (h : QueX X w q s) (hL : s.ids.length ≤ 1000000) (hi : u64ok id) :
    Calls Try.prog 11 #[.pointer (some ⟨q, 0, none⟩), .int .u64 id] w fun e w' => e = .returned (.tuple #[.int .u64 (s.owner id).1, .int .i64 (s.owner id).2]) ∧ w = w' := by
  obtain ⟨h0, b, v, h1, h2⟩ := h
  exact owner_any w q b v s id h1 h0 hL hi

theorem readyX (h : QueX X w q s) :
    Calls Try.prog 12 #[.pointer (some ⟨q, 0, none⟩)] w fun e w' => e = .returned (.int .i64 (s.ids.length - s.cnt)) ∧ Below w.heap.size w w' := by
  obtain ⟨h0, b, v, h1, h2⟩ := h
  exact ready_any w q b v s h1 h0

theorem roomX (h : QueX X w q s) :
    Calls Try.prog 28 #[.pointer (some ⟨q, 0, none⟩)] w fun e w' => e = .returned (.int .u64 (s.limit - (s.ids.length + s.kept))) ∧ Below w.heap.size w w' := by
  obtain ⟨h0, b, v, h1, h2⟩ := h
  exact room_any w q b v s h1 h0

end Go.Proofs.Ytnmphchlephpbaa
