/- slices.Delete of one element at []uint64, and package queue's Drop. Conditions: the slice is the call's own; the queue's memory as 'QueX' says. -/
import Derived.Test.YtnmphchlephpbaaQueueJ
import Derived.Test.YtnmphchlephpbaaOwnCut
namespace Go.Proofs.Ytnmphchlephpbaa
open Go.RowKit

theorem flat_u64 (L : List Int) : L.flatMap (intEnc .u64) = L.map (Value.int .u64) := by
  induction L with
  | nil => rfl
  | cons x L ih => rw [List.flatMap_cons, ih]; rfl

set_option maxHeartbeats 4000000 in
set_option maxRecDepth 100000 in
theorem delete_step {base : Nat} (w : World) (g cap i j : Nat) (hij1 : j = i + 1) (L : List Int) (h : Own base 27 1 (intEnc .u64) w (.slice (some ⟨g, 0, none⟩) L.length cap) L) (hi : i < L.length) (hL : L.length ≤ 1000000) :
    Calls Try.prog 49 #[.slice (some ⟨g, 0, none⟩) L.length cap, .int .i64 i, .int .i64 j] w fun e w' =>
      e = .returned (.slice (some ⟨g, 0, none⟩) (L.length - 1) cap) ∧ Own base 27 1 (intEnc .u64) w' (.slice (some ⟨g, 0, none⟩) (L.length - 1) cap) (L.eraseIdx i) ∧ Upd (· = g) w w' := by
  have mixed : Try.prog.follows .mixedOrders = true := by kernel_rfl
  obtain ⟨i0, hi0, hz0, hz1, hz2⟩ := info_parts info_u64
  have hcap : L.length ≤ cap ∧ cap ≤ 9223372036854775807 := by
    rcases h.cases with ⟨h', _⟩ | ⟨g', cap', h', _, _, k1, k2⟩
    · simp at h'
    · simp only [Value.slice.injEq] at h'; unfold maxLen at k2; omega
  have hown : w.ownsRow base 27 1 (.slice (some ⟨g, 0, none⟩) L.length cap) L.length (L.map (Value.int .u64)) := by rw [← flat_u64]; exact h
  have hcell : ∀ t u, (L.map (Value.int .u64))[t]? = some u → w.cell? ⟨g, 0 + t, none⟩ = some u := fun t u hu => by
    have := World.ownsRow.cells hown (g := g) rfl t u hu
    have e : (⟨g, 0, none⟩ : Addr).add t = ⟨g, 0 + t, none⟩ := by unfold Addr.add; split <;> simp_all
    rw [← e]; exact this
  have hfr : ∀ t, w.frozen? ⟨g, t, none⟩ = false := fun t => h.frozen t
  obtain ⟨news, hnews⟩ : ∃ news, news = (L.drop j).map (Value.int .u64) := ⟨_, rfl⟩
  have hlen : news.length = L.length - j := by rw [hnews]; simp
  have hget : ∀ t, t < L.length - j → news[t]? = (L.map (Value.int .u64))[j + t]? := fun t _ => by rw [hnews, List.getElem?_map, List.getElem?_drop, List.getElem?_map]
  obtain ⟨A, hA, hsrc⟩ : ∃ A : Addr, (if cap = j then some (⟨g, 0, none⟩ : Addr) else some ⟨g, j, none⟩) = some A ∧ Hid (∀ t u, news[t]? = some u → w.drew.cell? (A.add t) = some u) := by
    by_cases hc : cap = j
    · refine ⟨⟨g, 0, none⟩, by simp [hc], Lib.hid (fun t u hu => ?_)⟩
      have h0 : news.length = 0 := by rw [hlen]; omega
      rw [List.length_eq_zero_iff.1 h0] at hu
      simp at hu
    · refine ⟨⟨g, j, none⟩, by simp [hc], Lib.hid (fun t u hu => ?_)⟩
      have ht : t < L.length - j := by
        have := (List.getElem?_eq_some_iff.1 hu).1
        rwa [hlen] at this
      rw [hget t ht] at hu
      have := hcell _ _ hu
      have e : (⟨g, j, none⟩ : Addr).add t = ⟨g, 0 + (j + t), none⟩ := by unfold Addr.add; split <;> simp_all
      rw [e]; exact this
  have s1 := Lib.hid (show news.length = (L.length - j) * 1 by rw [Nat.mul_one]; exact hlen)
  have s2 : Hid (∀ u ∈ news, u.oneCell' = true) := Lib.hid (by
    intro u hu
    rw [hnews] at hu
    obtain ⟨x, _, rfl⟩ := List.mem_map.1 hu
    rfl)
  have s3 : Hid (∀ t, t < news.length → (w.drew.cell? ⟨g, 0 + i * 1 + t, none⟩).isSome = true ∧ w.drew.frozen? ⟨g, 0 + i * 1 + t, none⟩ = false) := Lib.hid (by
    intro t ht
    rw [hlen] at ht
    have hu : (L.map (Value.int .u64))[i + t]? = some (Value.int .u64 L[i + t]) := by rw [List.getElem?_map, List.getElem?_eq_getElem (by omega)]; rfl
    refine ⟨?_, hfr _⟩
    show (w.cell? _).isSome = true
    rw [Nat.mul_one, Nat.add_assoc, hcell _ _ hu]; rfl)
  obtain ⟨W1, hW1⟩ : ∃ W1, W1 = w.drew.setCells g (0 + i * 1) news := ⟨_, rfl⟩
  have hown1 : W1.ownsRow base 27 1 (.slice (some ⟨g, 0, none⟩) L.length cap) L.length (splice (L.map (Value.int .u64)) i news) := by
    have := stored_many news i w.drew _ hown
    rw [hW1]; simpa using this
  have hcl : ∀ ty, (Builtin.clear_ #[28] ty #[.slice (some ⟨g, i + (L.length - j), none⟩) (L.length - (i + (L.length - j))) (cap - (i + (L.length - j)))]).run Try.prog W1 = .ok (.tuple #[]) (W1.setCells g (i + (L.length - j)) (List.replicate (L.length - (i + (L.length - j))) (.int .u64 0))) := fun ty => by
    refine Lib.run_clear_slice W1 _ _ ty (.int .u64 0) Try.underlying28 (fun w => by kernel_rfl) rfl rfl g (i + (L.length - j)) _ _ (by omega) (fun t ht => ?_) (fun t ht => ?_)
    · have hlt : i + (L.length - j) + t < (splice (L.map (Value.int .u64)) i news).length := by rw [splice_len]; simp; omega
      have := World.ownsRow.cells hown1 (g := g) rfl _ _ (List.getElem?_eq_getElem hlt)
      have e : (⟨g, 0, none⟩ : Addr).add (i + (L.length - j) + t) = ⟨g, i + (L.length - j) + t, none⟩ := by unfold Addr.add; split <;> simp_all
      rw [← e, this]; rfl
    · have hO1 : Own base 27 1 (fun u : Value => [u]) W1 (.slice (some ⟨g, 0, none⟩) L.length cap) (splice (L.map (Value.int .u64)) i news) := by
        unfold Own
        rw [splice_len, List.length_map]
        have e : (splice (L.map (Value.int .u64)) i news).flatMap (fun u => [u]) = splice (L.map (Value.int .u64)) i news := by simp
        rw [e]; exact hown1
      exact hO1.frozen _
  have hW := Lib.hid hW1
  have hown1' := Lib.hid hown1
  have hnews' := Lib.hid hnews
  clear hW1 hown1 hget hnews hlen hcell hfr hown h
  obtain ⟨hc1, hc2⟩ := hcap
  have hjl : j ≤ L.length := by omega
  have hil : j ≤ cap := by omega
  have hij : i < j := by omega
  have hne : ¬ i = j := by omega
  have hij1' := Lib.hid hij1
  clear hij1
  have hic : i ≤ cap := by omega
  go_enter Try.func49, Try.ntmps49
  go_wp2_with fail
  go_region_law (refine step_append_room rfl (.tmp 22) (.tmp 25) 28 rfl 27 i0 1 Try.underlying28 hi0 hz1 g 0 i cap (by simp [Act.eval, Act.put]) A (L.length - j) (cap - j) news (by simp [Act.eval, Act.put]) s1.out hsrc.out s2.out (by omega) s3.out ?_; rw [← hW.out])
  go_wp2
  go_ret
  have e1 : i + (L.length - j) = L.length - 1 := by have := hij1'.out; omega
  rw [e1]
  refine ⟨rfl, ?_, ?_⟩
  · have h1 := cut_own (stored_many (List.replicate (L.length - (L.length - 1)) (Value.int .u64 0)) (L.length - 1) W1 _ hown1'.out) (n' := L.length - 1) (by omega)
    rw [Nat.mul_one, hnews'.out] at h1
    have hj := hij1'.out
    rw [hj] at h1
    rw [splice_erase L (Value.int .u64) i hi] at h1
    unfold Own
    rw [flat_u64, List.length_eraseIdx_of_lt hi]
    exact h1
  · have hu : Upd (· = g) w W1 := by rw [hW.out]; exact (Upd.drew (Upd.refl (· = g) w)).trans (set_cells_upd (S := (· = g)) rfl _ _ _) (fun _ h _ => h)
    exact hu.trans (set_cells_upd (S := (· = g)) rfl _ _ _) (fun _ h _ => h)

/-- Drop: a message is taken away. -/
def QS.without (s : QS) (id : Int) : QS := { (s.drop1 id) with ids := s.ids.filter (fun x => decide (x ≠ id)) }
def QS.dropped (s : QS) (id o : Int) : Int × QS := (s.must id o, if s.must id o = 0 then s.without id else s)

theorem erase_filter {L : List Int} (hL : L.Pairwise (· < ·)) {i : Nat} (hi : i < L.length) : L.eraseIdx i = L.filter (fun x => decide (x ≠ L[i])) := by
  induction L generalizing i with
  | nil => simp at hi
  | cons a L ih =>
    rw [List.pairwise_cons] at hL
    cases i with
    | zero =>
      rw [List.eraseIdx_cons_zero]
      simp only [List.getElem_cons_zero]
      rw [List.filter_cons_of_neg (by simp)]
      symm
      rw [List.filter_eq_self]
      intro x hx
      have := hL.1 x hx
      simp only [ne_eq, decide_eq_true_eq]; omega
    | succ i =>
      have hi' : i < L.length := by simpa using hi
      rw [List.eraseIdx_cons_succ, ih hL.2 hi']
      simp only [List.getElem_cons_succ]
      have := hL.1 _ (List.getElem_mem hi')
      rw [List.filter_cons_of_pos (by simp only [ne_eq, decide_eq_true_eq]; omega)]

theorem QOk.without {s : QS} (h : QOk s) {id : Int} : QOk (s.without id) where
  lim := h.lim
  kept := h.kept
  room := by
    have := h.room
    have h2 : (s.ids.filter (fun x => decide (x ≠ id))).length ≤ s.ids.length := List.length_filter_le _ _
    simp only [QS.without, QS.drop1]; omega
  rise := h.rise.filter _
  ok := fun i hi => h.ok i (List.mem_filter.1 hi).1
  last := h.last
  cnt := by
    have h1 := (h.drop1 (id := id)).cnt
    show (s.drop1 id).cnt = List.countP (fun i => ((s.drop1 id).own i).isSome) (s.ids.filter (fun x => decide (x ≠ id)))
    rw [h1, List.countP_filter]
    refine List.countP_congr (fun y _ => ?_)
    simp only [QS.drop1]
    by_cases hy : y = id
    · simp [hy]
    · simp [hy]
  sub := fun i hi => by
    have h1 := (h.drop1 (id := id)).sub i hi
    refine List.mem_filter.2 ⟨h1, ?_⟩
    by_cases hy : i = id
    · subst hy; simp [QS.without, QS.drop1] at hi
    · simp [hy]
  pos := fun i o hi => (h.drop1 (id := id)).pos i o hi

theorem QOk.dropped {s : QS} (h : QOk s) {id o : Int} : QOk (s.dropped id o).2 := by
  unfold QS.dropped
  simp only
  split
  · exact h.without
  · exact h

theorem delete_one {base : Nat} (w : World) (g cap i : Nat) (L : List Int) (h : Own base 27 1 (intEnc .u64) w (.slice (some ⟨g, 0, none⟩) L.length cap) L) (hi : i < L.length) (hL : L.length ≤ 1000000) :
    Calls Try.prog 49 #[.slice (some ⟨g, 0, none⟩) L.length cap, .int .i64 i, .int .i64 ((i : Int) + 1)] w fun e w' =>
      e = .returned (.slice (some ⟨g, 0, none⟩) (L.length - 1) cap) ∧ Own base 27 1 (intEnc .u64) w' (.slice (some ⟨g, 0, none⟩) (L.length - 1) cap) (L.eraseIdx i) ∧ Upd (· = g) w w' := by
  have := delete_step w g cap i (i + 1) rfl L h hi hL
  simpa using this

variable {X : Nat → Prop} {w : World} {q : Nat} {s : QS}
set_option maxHeartbeats 1600000 in
theorem dropX {id o : Int} (h : QueX X w q s) (hX : ∀ k, X k → k < w.heap.size) (hL : s.ids.length ≤ 1000000) (hid : u64ok id) :
    Calls Try.prog 25 #[.pointer (some ⟨q, 0, none⟩), .int .u64 id, .int .u64 o] w fun e w' => e = .returned (.int .i64 (s.dropped id o).1) ∧ QueX X w' q (s.dropped id o).2 ∧ Kept X w w' := by
  obtain ⟨h0, b, v, h1, h2⟩ := h
  have hk := h0.dropped (id := id) (o := o)
  suffices hs : Calls Try.prog 25 #[.pointer (some ⟨q, 0, none⟩), .int .u64 id, .int .u64 o] w fun e w' => e = .returned (.int .i64 (s.dropped id o).1) ∧ QStep w w' q b v (s.dropped id o).2 by
    refine hs.mono ?_
    rintro e w' ⟨he, hs⟩
    exact ⟨he, QueX.made h2 hX hs hk⟩
  have c2 := h1.c2
  have hmust := fun (w1 : World) (hB : Below w.heap.size w w1) B hb => must_by w1 q b v s id o B (h1.pure hB) h0 hL hid hb
  have hrise := Lib.hid h0.rise
  clear hk h2 hX h0
  unfold QS.dropped
  simp only
  cases hz : decide (s.must id o = 0)
  · have hz' := of_decide_eq_false hz
    have hzb : (s.must id o == 0) = false := beq_eq_false_iff_ne.2 hz'
    rw [if_neg hz']
    clear hz hz'
    go_enter Try.func25, Try.ntmps25
    go_wp2_with (first | (go_at_call 29; refine (there_ok _ _ _ c2).mono ?_; rintro e w' ⟨rfl, rfl⟩) | (go_at_call 34; refine (by_any _ _).mono ?_; rintro e w1 ⟨rfl, hB1, hb⟩) | (go_at_call 33; refine (hmust _ hB1 _ hb).mono ?_; rintro e w2 ⟨rfl, hB2⟩))
    go_ret
    exact ⟨rfl, ((QStep.refl h1).below hB1).below hB2⟩
  · have hz' := of_decide_eq_true hz
    have hin := must_in hz'
    have hin' := Lib.hid hin
    rw [if_pos hz', hz']
    rw [hz'] at hmust
    clear hz hz'
    obtain ⟨g, cap, rfl, -, -⟩ := h1.2.1.shape (fun e => by rw [e] at hin; cases hin)
    clear hin
    go_enter Try.func25, Try.ntmps25
    go_wp2_with (first | (go_at_call 29; refine (there_ok _ _ _ c2).mono ?_; rintro e w' ⟨rfl, rfl⟩) | (go_at_call 34; refine (by_any _ _).mono ?_; rintro e w1 ⟨rfl, hB1, hb⟩) | (go_at_call 33; refine (hmust _ hB1 _ hb).mono ?_; rintro e w2 ⟨rfl, hB2⟩; have hh := h1.pure (hB1.trans (hB2.mono hB1.size)); have d2 := hh.c2; clear hmust) | (at_delete; refine wpList_delG _ heldT rfl _ _ rfl rfl hh.2.2.1 id rfl hid ?_; intro w3 hm3 hg3; have e1 := (hh.1.keep (hg3.block q hh.1.lt (fun e => hh.2.2.2.2.2 (by injection e with e; exact e.symm)))).cell 1; have hO3 := hh.2.1.keep (w' := w3) (fun k hk hl => hg3.block k hl (fun e => hh.2.2.2.2.1 (hk.trans e))); have hat := at_any w3 _ s.ids id hrise.out hL (hO3.slc (intEnc_len _)); clear d2) | (go_at_call 32; refine hat.mono ?_; clear hat; rintro e w4 ⟨i, hi, rfl, rfl⟩; obtain ⟨hi1, hi2⟩ := (place_mem hrise.out hi).1 hin'.out; have hi2' := Lib.hid hi2; clear hi2 hi))
    refine (delete_one w3 g cap i s.ids hO3 hi1 hL).mono ?_
    rintro e w5 ⟨rfl, hO5, hU5⟩
    have hgq : g ≠ q := fun e => hh.2.2.2.1 (by rw [← e]; rfl)
    have hgb : g ≠ b := fun e => hh.2.2.2.2.1 (by rw [← e]; rfl)
    have hb3 := hh.1.keep (hg3.block q hh.1.lt (fun e => hh.2.2.2.2.2 (by injection e with e; exact e.symm)))
    have hb5 := hb3.upd hU5 (fun e => hgq e.symm)
    have hm5 := hm3.upd hU5 (fun e => hgb e.symm)
    have e5 := hb5.cell 1
    have f5 := hb5.frozen 1
    have hhB := Lib.hid hh
    have hgq' := Lib.hid hgq
    have hgb' := Lib.hid hgb
    clear e1 hgq hgb hh
    go_wp2_with fail
    go_ret
    refine ⟨rfl, .slice (some ⟨g, 0, none⟩) (s.ids.length - 1) cap, ⟨hb5.set 1 _, ?_, hm5.other _ _ hhB.out.2.2.2.2.2, ?_, ?_, hhB.out.2.2.2.2.2⟩, ?_, ?_⟩
    · refine Own.other ?_ _ _ (by intro k hk e; simp only [Value.ownBlock, Option.some.injEq] at hk; exact hgq'.out (hk.trans e))
      have e6 : (s.without id).ids = s.ids.eraseIdx i := by
        show s.ids.filter (fun x => decide (x ≠ id)) = _
        rw [erase_filter hrise.out hi1, hi2'.out]
      rw [e6]; exact hO5
    · simp only [Value.ownBlock]; intro e; injection e with e; exact hgq'.out e
    · simp only [Value.ownBlock]; intro e; injection e with e; exact hgb'.out e
    · have u1 := Upd.of_below (S := QueS q b (.slice (some ⟨g, 0, none⟩) s.ids.length cap)) (hB1.trans (hB2.mono hB1.size))
      have u2 := Upd.grown (S := QueS q b (.slice (some ⟨g, 0, none⟩) s.ids.length cap)) hg3 (fun k hk => by injection hk with hk; exact .inr (.inl hk.symm))
      have u3 := hU5.mono (T := QueS q b (.slice (some ⟨g, 0, none⟩) s.ids.length cap)) (fun k hk _ => .inr (.inr (by rw [hk]; rfl)))
      exact ((u1.trans u2 (fun _ h _ => h)).trans u3 (fun _ h _ => h)).trans (Upd.set (S := QueS q b (.slice (some ⟨g, 0, none⟩) s.ids.length cap)) (p := ⟨q, 1, none⟩) (.inl rfl) _) (fun _ h _ => h)
    · intro k hk; exact .inl hk

end Go.Proofs.Ytnmphchlephpbaa
