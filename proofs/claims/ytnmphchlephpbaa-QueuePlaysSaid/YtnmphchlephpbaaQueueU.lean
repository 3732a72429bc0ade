/- The program's queue and the document's, side by side: what only reads, and Purge. Conditions: as for the pair. -/
import Derived.Test.YtnmphchlephpbaaQueueT
namespace Go.Proofs.Ytnmphchlephpbaa
open Go.RowKit
variable {X X' : Nat → Prop} {w w' : World} {q p : Nat} {s t s' : QS}

theorem PairS.q1 (h : PairS X w q p s t) : ∃ Y : Nat → Prop, QueX Y w q s := by
  obtain ⟨h0, b, v, u, h1, h2, h3, h4, h5⟩ := h
  exact ⟨fun _ => False, h0, b, v, h1, fun _ _ h => h⟩
theorem PairS.p1 (h : PairS X w q p s t) : ∃ u, RefQ w p u t := by
  obtain ⟨h0, b, v, u, h1, h2, h3, h4, h5⟩ := h
  exact ⟨u, h2⟩

section
variable (h : PairS X w q p s t)
include h
theorem pq_all (hL : s.ids.length ≤ 1000000) :
    Calls Try.prog 14 #[.pointer (some ⟨q, 0, none⟩)] w fun e w' => ∃ r, e = .returned r ∧ Slc (intEnc .u64) 1 w' r s.ids ∧ Below w.heap.size w w' := by
  obtain ⟨Y, h1⟩ := h.q1; exact allX h1 hL
theorem pq_of {o : Int} (hL : s.ids.length ≤ 1000000) (ho : 0 < o) :
    Calls Try.prog 16 #[.pointer (some ⟨q, 0, none⟩), .int .u64 o] w fun e w' => ∃ r, e = .returned r ∧ Slc (intEnc .u64) 1 w' r (s.of o) ∧ Below w.heap.size w w' := by
  obtain ⟨Y, h1⟩ := h.q1; exact ofX h1 hL ho
theorem pq_of0 :
    Calls Try.prog 16 #[.pointer (some ⟨q, 0, none⟩), .int .u64 0] w fun e w' => e = .returned (.slice none 0 0) ∧ w = w' := by
  obtain ⟨_, b, v, u, h1, _⟩ := h
  have h2 := h1.c2
  clear h1
  go_enter Try.func16, Try.ntmps16
  go_wp2_with (first | (go_at_call 29; refine (there_ok _ _ _ h2).mono ?_; rintro e w' ⟨rfl, rfl⟩))
  go_ret
  exact ⟨rfl, rfl⟩
theorem pq_ready :
    Calls Try.prog 12 #[.pointer (some ⟨q, 0, none⟩)] w fun e w' => e = .returned (.int .i64 (s.ids.length - s.cnt)) ∧ Below w.heap.size w w' := by
  obtain ⟨Y, h1⟩ := h.q1; exact readyX h1
theorem pq_kept :
    Calls Try.prog 27 #[.pointer (some ⟨q, 0, none⟩)] w fun e w' => e = .returned (.int .i64 s.kept) ∧ w = w' := by
  obtain ⟨_, b, v, u, h1, _⟩ := h; exact kept_any w q b v s h1
theorem pq_room :
    Calls Try.prog 28 #[.pointer (some ⟨q, 0, none⟩)] w fun e w' => e = .returned (.int .u64 (s.limit - (s.ids.length + s.kept))) ∧ Below w.heap.size w w' := by
  obtain ⟨Y, h1⟩ := h.q1; exact roomX h1
theorem pq_owner {id : Int} (hL : s.ids.length ≤ 1000000) (hi : u64ok id) :
    Calls Try.prog 11 #[.pointer (some ⟨q, 0, none⟩), .int .u64 id] w fun e w' => e = .returned (.tuple #[.int .u64 (s.owner id).1, .int .i64 (s.owner id).2]) ∧ w = w' := by
  obtain ⟨Y, h1⟩ := h.q1; exact ownerX h1 hL hi
theorem pr_all (hL : t.ids.length ≤ 1000000) :
    Calls Try.prog 45 #[.pointer (some ⟨p, 0, none⟩)] w fun e w' => ∃ r, e = .returned r ∧ Slc (intEnc .u64) 1 w' r t.ids ∧ Below w.heap.size w w' := by
  obtain ⟨u, h1⟩ := h.p1
  exact (ref_all w p u t h1 hL).mono fun e w' ⟨r, h1, h2, h3⟩ => ⟨r, h1, h2.slc (intEnc_len _), h3⟩
theorem pr_of {o : Int} (hL : t.ids.length ≤ 1000000) :
    Calls Try.prog 46 #[.pointer (some ⟨p, 0, none⟩), .int .u64 o] w fun e w' => ∃ r, e = .returned r ∧ Slc (intEnc .u64) 1 w' r (t.of o) ∧ Below w.heap.size w w' := by
  obtain ⟨u, h1⟩ := h.p1
  exact (ref_of w p u t o h1 hL).mono fun e w' ⟨r, h1, h2, h3⟩ => ⟨r, h1, h2.slc (intEnc_len _), h3⟩
theorem pr_room (ho : QOk t) :
    Calls Try.prog 47 #[.pointer (some ⟨p, 0, none⟩)] w fun e w' => e = .returned (.int .u64 (t.limit - (t.ids.length + t.kept))) ∧ Below w.heap.size w w' := by
  obtain ⟨u, h1⟩ := h.p1
  exact ref_room w p u t h1 ho
theorem pr_find {id : Int} :
    Calls Try.prog 19 #[.pointer (some ⟨p, 0, none⟩), .int .u64 id] w fun e w' => e = .returned (.int .i64 (idxOf (findI t.ids id))) ∧ w = w' := by
  obtain ⟨u, h1⟩ := h.p1
  exact ref_find w p u t id h1

theorem pq_purge (hX : ∀ k, X k → k < w.heap.size) (hL : s.ids.length ≤ 1000000) :
    Calls Try.prog 26 #[.pointer (some ⟨q, 0, none⟩)] w fun e w' => ∃ r, e = .returned r ∧ Slc (intEnc .u64) 1 w' r s.gone ∧ (∀ j, r.ownBlock = some j → w.heap.size ≤ j ∧ j < w'.heap.size) ∧ PairS (fun j => X j ∨ r.ownBlock = some j) w' q p s.purged t ∧ Kept X w w' := by
  obtain ⟨h0, b, v, u, h1, h2, h3, h4, h5⟩ := h
  have hq : QueX (fun k => X k ∨ RefS p u k) w q s := ⟨h0, b, v, h1, fun k hk hx => hx.elim (h3 k hk) (h5 k hk)⟩
  refine (purgeX hq (fun k hk => hk.elim (hX k) h2.lt) hL).mono ?_
  rintro e w' ⟨r, he, hr, hrb, ⟨g0, b', v', g1, g2⟩, hK⟩
  refine ⟨r, he, hr, hrb, ⟨g0, b', v', u, g1, ⟨h2.1.keep (hK.block p h2.1.lt (fun hn => hn (.inr (.inl rfl)))), h2.2.1.keep (fun k hk hl => hK.block k hl (fun hn => hn (.inr (.inr hk)))), h2.2.2⟩,
    fun k hk hx => g2 k hk (hx.elim (fun h => .inl (.inl h)) .inr), fun k hk hx => hx.elim (h4 k hk) (fun e => by have := (hrb k e).1; have := h2.lt hk; omega), fun k hk hx => g2 k hk (.inl (.inr hx))⟩, hK.mono (fun k hk _ hx => hk (.inl hx))⟩

theorem pr_purge (hX : ∀ k, X k → k < w.heap.size) (ho : QOk t) (hL : t.ids.length ≤ 1000000) :
    Calls Try.prog 44 #[.pointer (some ⟨p, 0, none⟩)] w fun e w' => ∃ r, e = .returned r ∧ Slc (intEnc .u64) 1 w' r t.gone ∧ (∀ j, r.ownBlock = some j → w.heap.size ≤ j ∧ j < w'.heap.size) ∧ PairS (fun j => X j ∨ r.ownBlock = some j) w' q p s t.purged ∧ Kept X w w' := by
  obtain ⟨h0, b, v, u, h1, h2, h3, h4, h5⟩ := h
  refine (ref_purge w p u t h2 ho hL).mono ?_
  rintro e w' ⟨r, he, hr, hrb, u', g1, g2, g3, g4⟩
  refine ⟨r, he, hr, hrb, ⟨h0, b, v, u', ⟨h1.1.upd g2 (h5 q (.inl rfl)), h1.2.1.upd g2 (fun k hk => h5 k (.inr (.inr hk))), h1.2.2.1.upd g2 (h5 b (.inr (.inl rfl))), h1.2.2.2⟩, g1, ?_, ?_, ?_⟩, g2.mono (fun k hk _ hx => h4 k hk hx)⟩
  · rintro k hk (hx | hx)
    · exact h3 k hk hx
    · have := (hrb k hx).1; have := h1.lt hk; omega
  · rintro k hk (hx | hx)
    · rcases g3 k hk with rfl | h
      · exact h4 k (.inl rfl) hx
      · have := hX k hx; omega
    · exact g4 k hk hx
  · intro k hk hx
    rcases g3 k hx with rfl | h
    · exact h5 k hk (.inl rfl)
    · have := h1.lt hk; omega
end

/-! ### the same step on both -/
theorem mustz {s : QS} (h : QOk s) (id : Int) : s.must id 0 = if id ∈ s.ids then 9 else 7 := by
  unfold QS.must
  split
  · cases hh : s.own id with
    | none => rfl
    | some o => have := h.pos id o hh; rw [if_neg (by simp; omega)]
  · rfl
theorem must_pos {s : QS} (h : QOk s) (id o : Int) (ho : o ≠ 0) : s.must id o = if id ∈ s.ids then (if (s.own id).getD 0 = o then 0 else 9) else 7 := by
  unfold QS.must
  split
  · cases hh : s.own id with
    | none => simp; omega
    | some o' => simp
  · rfl
theorem drop_same {s : QS} (h : QOk s) (id o : Int) : s.dropR id o = s.dropped id o := by
  unfold QS.dropR QS.dropped
  by_cases ho : o = 0
  · subst ho; rw [mustz h]; split <;> simp
  · rw [must_pos h id o ho]
    split
    · by_cases e : (s.own id).getD 0 = o
      · rw [if_pos ⟨ho, e⟩, if_pos e]; simp
      · rw [if_neg (fun h => e h.2), if_neg e]; simp
    · simp
theorem hold_same {s : QS} (h : QOk s) (id o : Int) (ho : o ≠ 0) : s.holds id o = s.passR id 0 o := by
  unfold QS.holds QS.passR QS.must0 QS.setOwn
  rw [if_neg ho]
  by_cases hi : id ∈ s.ids
  · simp only [if_pos hi]
    cases hh : s.own id with
    | none => simp [ho]
    | some o' => have := h.pos id o' hh; simp; omega
  · simp [if_neg hi]
theorem free_same {s : QS} (h : QOk s) (id o : Int) : s.free id o = s.hands id o 0 := by
  unfold QS.free QS.hands QS.passR QS.setOwn
  by_cases ho : o = 0
  · subst ho; rw [mustz h, if_pos rfl]; split <;> simp
  · rw [must_pos h id o ho, if_neg ho, if_pos rfl]
    by_cases hi : id ∈ s.ids
    · simp only [if_pos hi]
      split <;> simp
    · simp [if_neg hi]
theorem pass_same {s : QS} (h : QOk s) (id f o : Int) (ho : o ≠ 0) : s.pass id f o = s.hands id f o := by
  unfold QS.pass QS.hands QS.passR QS.setOwn
  rw [if_neg ho]
  by_cases hf : f = 0
  · subst hf; rw [mustz h, if_pos rfl]; split <;> simp
  · rw [must_pos h id f hf, if_neg hf, if_neg ho]
    by_cases hi : id ∈ s.ids
    · simp only [if_pos hi]
      split <;> simp
    · simp [if_neg hi]

/-- What a call answers: the document's queue after it. -/
structure QCall where
  what : Int
  a : Int
  b : Int
  c : Int
  n : Int
  more : Bool
def QS.does0 (s : QS) (x : QCall) : QS :=
  if x.what % 10 = 0 ∨ x.what % 10 = 1 then (s.put x.a).2 else if x.what % 10 = 2 then (s.keep x.n).2 else if x.what % 10 = 3 then (s.give x.n).2 else if x.what % 10 = 4 then (s.fill x.a).2
  else if x.what % 10 = 5 then (s.next x.b).2.2 else if x.what % 10 = 6 then (s.holds x.a x.b).2 else if x.what % 10 = 7 then (s.pass x.a x.b x.c).2 else if x.what % 10 = 8 then (s.free x.a x.b).2 else (s.dropped x.a x.b).2
def QS.does (s : QS) (x : QCall) : QS := if x.more = true then (s.does0 x).purged else s.does0 x

theorem of0_len {s : QS} (h : QOk s) : ((s.of 0).length : Int) = s.ids.length - s.cnt := by
  rw [of_zero h, h.cnt]
  unfold QS.gone
  rw [← List.countP_eq_length_filter]
  have := List.length_eq_countP_add_countP (l := s.ids) (fun i => (s.own i).isSome)
  have e : s.ids.countP (fun a => decide ¬ ((s.own a).isSome = true)) = s.ids.countP (fun i => (s.own i).isNone) := List.countP_congr (fun x _ => by cases s.own x <;> simp)
  rw [e] at this
  omega

end Go.Proofs.Ytnmphchlephpbaa
