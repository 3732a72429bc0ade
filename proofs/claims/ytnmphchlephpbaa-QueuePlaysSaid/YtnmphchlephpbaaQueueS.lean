/- The program's queue and the document's, side by side. Conditions: both hold the same; at most a million messages. -/
import Derived.Test.YtnmphchlephpbaaQueueR
import Derived.Test.YtnmphchlephpbaaQueueF
namespace Go.Proofs.Ytnmphchlephpbaa
open Go.RowKit

/-- The program's queue holds s, the document's t; none of their blocks is in X; they lie apart. -/
def PairS (X : Nat → Prop) (w : World) (q p : Nat) (s t : QS) : Prop :=
  QOk s ∧ ∃ b v u, Que w q b v s ∧ RefQ w p u t ∧ (∀ k, QueS q b v k → ¬ X k) ∧ (∀ k, RefS p u k → ¬ X k) ∧ ∀ k, QueS q b v k → ¬ RefS p u k

variable {X X' : Nat → Prop} {w w' : World} {q p : Nat} {s t s' : QS}

theorem PairS.ok (h : PairS X w q p s t) : QOk s := h.1
theorem PairS.step {T : Nat → Prop} (h : PairS X w q p s t) (hb : Upd T w w') (hT : ∀ k, T k → k < w.heap.size → X k) (hX : ∀ k, X' k → k < w.heap.size → X k) : PairS X' w' q p s t := by
  obtain ⟨h0, b, v, u, h1, h2, h3, h4, h5⟩ := h
  have a1 : Que w' q b v s := ⟨h1.1.keep (hb.block q h1.1.lt (fun ht => h3 q (.inl rfl) (hT q ht h1.1.lt))), h1.2.1.keep (fun k hk hl => hb.block k hl (fun ht => h3 k (.inr (.inr hk)) (hT k ht hl))),
    h1.2.2.1.keep (hb.block b h1.2.2.1.lt (fun ht => h3 b (.inr (.inl rfl)) (hT b ht h1.2.2.1.lt))), h1.2.2.2⟩
  have a2 : RefQ w' p u t := ⟨h2.1.keep (hb.block p h2.1.lt (fun ht => h4 p (.inl rfl) (hT p ht h2.1.lt))), h2.2.1.keep (fun k hk hl => hb.block k hl (fun ht => h4 k (.inr hk) (hT k ht hl))), h2.2.2⟩
  exact ⟨h0, b, v, u, a1, a2, fun k hk hx => h3 k hk (hX k hx (h1.lt hk)), fun k hk hx => h4 k hk (hX k hx (h2.lt hk)), h5⟩
theorem PairS.pure (h : PairS X w q p s t) (hb : Below w.heap.size w w') : PairS X w' q p s t := by
  obtain ⟨h0, b, v, u, h1, h2, h3⟩ := h; exact ⟨h0, b, v, u, h1.pure hb, h2.pure hb, h3⟩
theorem PairS.more (h : PairS X w q p s t) (hX : ∀ k, X' k → k < w.heap.size → X k) : PairS X' w q p s t := h.step (Upd.refl (fun _ => False) w) (fun _ h _ => h.elim) hX

/-- The program's queue alone: the document's lies in what is kept. -/
theorem PairS.que (h : PairS X w q p s t) (hX : ∀ k, X k → k < w.heap.size) : ∃ Y : Nat → Prop, QueX Y w q s ∧ (∀ k, Y k → k < w.heap.size) ∧ ∀ w' s', QueX Y w' q s' → Kept Y w w' → PairS X w' q p s' t ∧ Kept X w w' := by
  obtain ⟨h0, b, v, u, h1, h2, h3, h4, h5⟩ := h
  refine ⟨fun k => X k ∨ RefS p u k, ⟨h0, b, v, h1, fun k hk hx => hx.elim (h3 k hk) (h5 k hk)⟩, fun k hk => hk.elim (hX k) h2.lt, ?_⟩
  rintro w' s' ⟨g0, b', v', g1, g2⟩ hK
  refine ⟨⟨g0, b', v', u, g1, ⟨h2.1.keep (hK.block p h2.1.lt (fun hn => hn (.inr (.inl rfl)))), h2.2.1.keep (fun k hk hl => hK.block k hl (fun hn => hn (.inr (.inr hk)))), h2.2.2⟩,
    fun k hk hx => g2 k hk (.inl hx), h4, fun k hk hx => g2 k hk (.inr hx)⟩, hK.mono (fun k hk _ hx => hk (.inl hx))⟩

/-- The document's queue alone. -/
theorem PairS.ref (h : PairS X w q p s t) (hX : ∀ k, X k → k < w.heap.size) : ∃ u, RefQ w p u t ∧ ∀ w' t', RStep w w' p u t' → PairS X w' q p s t' ∧ Kept X w w' := by
  obtain ⟨h0, b, v, u, h1, h2, h3, h4, h5⟩ := h
  refine ⟨u, h2, ?_⟩
  rintro w' t' ⟨u', g1, g2, g3⟩
  have hq : ∀ k, QueS q b v k → ¬ RefS p u k := h5
  refine ⟨⟨h0, b, v, u', ⟨h1.1.upd g2 (hq q (.inl rfl)), h1.2.1.upd g2 (fun k hk => hq k (.inr (.inr hk))), h1.2.2.1.upd g2 (hq b (.inr (.inl rfl))), h1.2.2.2⟩, g1, h3,
    fun k hk hx => (g3 k hk).elim (fun h => h4 k h hx) (fun h => by have := hX k hx; omega), fun k hk hx => (g3 k hx).elim (hq k hk) (fun h => by have := h1.lt hk; omega)⟩, g2.mono (fun k hk _ hx => h4 k hk hx)⟩

/-! ### each call on the pair -/
section
variable (h : PairS X w q p s t) (hX : ∀ k, X k → k < w.heap.size) (hL : s.ids.length ≤ 1000000)
include h hX

theorem pq_put {id : Int} (hL : s.ids.length ≤ 1000000) (hi : id < 18446744073709551616) :
    Calls Try.prog 9 #[.pointer (some ⟨q, 0, none⟩), .int .u64 id] w fun e w' => e = .returned (.int .i64 (s.put id).1) ∧ PairS X w' q p (s.put id).2 t ∧ Kept X w w' := by
  obtain ⟨Y, h1, h2, h3⟩ := h.que hX
  exact (putX h1 h2 hL hi).mono fun e w' ⟨he, hq, hk⟩ => ⟨he, h3 w' _ hq hk⟩
theorem pq_keep {n : Int} (hn : n ≤ 9223372036854775807) :
    Calls Try.prog 20 #[.pointer (some ⟨q, 0, none⟩), .int .i64 n] w fun e w' => e = .returned (.int .i64 (s.keep n).1) ∧ PairS X w' q p (s.keep n).2 t ∧ Kept X w w' := by
  obtain ⟨Y, h1, h2, h3⟩ := h.que hX
  exact (keepX h1 h2 hn).mono fun e w' ⟨he, hq, hk⟩ => ⟨he, h3 w' _ hq hk⟩
theorem pq_give {n : Int} :
    Calls Try.prog 21 #[.pointer (some ⟨q, 0, none⟩), .int .i64 n] w fun e w' => e = .returned (.int .i64 (s.give n).1) ∧ PairS X w' q p (s.give n).2 t ∧ Kept X w w' := by
  obtain ⟨Y, h1, h2, h3⟩ := h.que hX
  exact (giveX h1 h2).mono fun e w' ⟨he, hq, hk⟩ => ⟨he, h3 w' _ hq hk⟩
theorem pq_fill {id : Int} (hL : s.ids.length ≤ 1000000) (hi : id < 18446744073709551616) :
    Calls Try.prog 22 #[.pointer (some ⟨q, 0, none⟩), .int .u64 id] w fun e w' => e = .returned (.int .i64 (s.fill id).1) ∧ PairS X w' q p (s.fill id).2 t ∧ Kept X w w' := by
  obtain ⟨Y, h1, h2, h3⟩ := h.que hX
  exact (fillX h1 h2 hL hi).mono fun e w' ⟨he, hq, hk⟩ => ⟨he, h3 w' _ hq hk⟩
theorem pq_free {id o : Int} (hL : s.ids.length ≤ 1000000) (hi : u64ok id) :
    Calls Try.prog 13 #[.pointer (some ⟨q, 0, none⟩), .int .u64 id, .int .u64 o] w fun e w' => e = .returned (.int .i64 (s.free id o).1) ∧ PairS X w' q p (s.free id o).2 t ∧ Kept X w w' := by
  obtain ⟨Y, h1, h2, h3⟩ := h.que hX
  exact (freeX h1 h2 hL hi).mono fun e w' ⟨he, hq, hk⟩ => ⟨he, h3 w' _ hq hk⟩
theorem pq_drop {id o : Int} (hL : s.ids.length ≤ 1000000) (hi : u64ok id) :
    Calls Try.prog 25 #[.pointer (some ⟨q, 0, none⟩), .int .u64 id, .int .u64 o] w fun e w' => e = .returned (.int .i64 (s.dropped id o).1) ∧ PairS X w' q p (s.dropped id o).2 t ∧ Kept X w w' := by
  obtain ⟨Y, h1, h2, h3⟩ := h.que hX
  exact (dropX h1 h2 hL hi).mono fun e w' ⟨he, hq, hk⟩ => ⟨he, h3 w' _ hq hk⟩
theorem pq_hold {id o : Int} (hL : s.ids.length ≤ 1000000) (hi : u64ok id) (ho : 0 ≤ o) :
    Calls Try.prog 23 #[.pointer (some ⟨q, 0, none⟩), .int .u64 id, .int .u64 o] w fun e w' => e = .returned (.int .i64 (s.holds id o).1) ∧ PairS X w' q p (s.holds id o).2 t ∧ Kept X w w' := by
  obtain ⟨Y, h1, h2, h3⟩ := h.que hX
  exact (holdX h1 h2 hL hi ho).mono fun e w' ⟨he, hq, hk⟩ => ⟨he, h3 w' _ hq hk⟩
theorem pq_pass {id f o : Int} (hL : s.ids.length ≤ 1000000) (hi : u64ok id) (ho : 0 ≤ o) :
    Calls Try.prog 24 #[.pointer (some ⟨q, 0, none⟩), .int .u64 id, .int .u64 f, .int .u64 o] w fun e w' => e = .returned (.int .i64 (s.pass id f o).1) ∧ PairS X w' q p (s.pass id f o).2 t ∧ Kept X w w' := by
  obtain ⟨Y, h1, h2, h3⟩ := h.que hX
  exact (passX h1 h2 hL hi ho).mono fun e w' ⟨he, hq, hk⟩ => ⟨he, h3 w' _ hq hk⟩

theorem pr_put {id : Int} (ho : QOk t) (hL : t.ids.length ≤ 1000000) :
    Calls Try.prog 36 #[.pointer (some ⟨p, 0, none⟩), .int .u64 id] w fun e w' => e = .returned (.int .i64 (t.put id).1) ∧ PairS X w' q p s (t.put id).2 ∧ Kept X w w' := by
  obtain ⟨u, h1, h2⟩ := h.ref hX
  exact (ref_put w p u t id h1 ho hL).mono fun e w' ⟨he, hq⟩ => ⟨he, h2 w' _ hq⟩
theorem pr_keep {n : Int} (ho : QOk t) (hn : n ≤ 9223372036854775807) :
    Calls Try.prog 37 #[.pointer (some ⟨p, 0, none⟩), .int .i64 n] w fun e w' => e = .returned (.int .i64 (t.keep n).1) ∧ PairS X w' q p s (t.keep n).2 ∧ Kept X w w' := by
  obtain ⟨u, h1, h2⟩ := h.ref hX
  exact (ref_keep w p u t n h1 ho hn).mono fun e w' ⟨he, hq⟩ => ⟨he, h2 w' _ hq⟩
theorem pr_give {n : Int} (ho : QOk t) :
    Calls Try.prog 38 #[.pointer (some ⟨p, 0, none⟩), .int .i64 n] w fun e w' => e = .returned (.int .i64 (t.give n).1) ∧ PairS X w' q p s (t.give n).2 ∧ Kept X w w' := by
  obtain ⟨u, h1, h2⟩ := h.ref hX
  exact (ref_give w p u t n h1 ho).mono fun e w' ⟨he, hq⟩ => ⟨he, h2 w' _ hq⟩
theorem pr_fill {id : Int} (ho : QOk t) (hL : t.ids.length ≤ 1000000) :
    Calls Try.prog 39 #[.pointer (some ⟨p, 0, none⟩), .int .u64 id] w fun e w' => e = .returned (.int .i64 (t.fill id).1) ∧ PairS X w' q p s (t.fill id).2 ∧ Kept X w w' := by
  obtain ⟨u, h1, h2⟩ := h.ref hX
  exact (ref_fill w p u t id h1 ho hL).mono fun e w' ⟨he, hq⟩ => ⟨he, h2 w' _ hq⟩
theorem pr_drop {id o : Int} (ho : QOk t) (hL : t.ids.length ≤ 1000000) :
    Calls Try.prog 43 #[.pointer (some ⟨p, 0, none⟩), .int .u64 id, .int .u64 o] w fun e w' => e = .returned (.int .i64 (t.dropR id o).1) ∧ PairS X w' q p s (t.dropR id o).2 ∧ Kept X w w' := by
  obtain ⟨u, h1, h2⟩ := h.ref hX
  exact (ref_drop w p u t id o h1 ho hL).mono fun e w' ⟨he, hq⟩ => ⟨he, h2 w' _ hq⟩
theorem pr_pass {id f o : Int} (ho : QOk t) (hL : t.ids.length ≤ 1000000) :
    Calls Try.prog 41 #[.pointer (some ⟨p, 0, none⟩), .int .u64 id, .int .u64 f, .int .u64 o] w fun e w' => e = .returned (.int .i64 (t.passR id f o).1) ∧ PairS X w' q p s (t.passR id f o).2 ∧ Kept X w w' := by
  obtain ⟨u, h1, h2⟩ := h.ref hX
  exact (ref_pass w p u t id f o h1 ho hL).mono fun e w' ⟨he, hq⟩ => ⟨he, h2 w' _ hq⟩
end

end Go.Proofs.Ytnmphchlephpbaa
