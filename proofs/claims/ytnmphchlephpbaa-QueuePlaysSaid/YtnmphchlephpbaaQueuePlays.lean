/- The law QueuePlays, walked: it returns true whatever its arguments are, and nothing that was there has changed. Conditions: the last argument reads as a row of calls. -/
import Derived.Test.YtnmphchlephpbaaQueueX
import Derived.Test.YtnmphchlephpbaaOpenS
namespace Go.Proofs.Ytnmphchlephpbaa
open Go.RowKit Go.ChangeShapes Go.WideShapes Go.ChangeAt
variable {X : Nat → Prop} {w w' : World} {q p : Nat} {s t s' : QS}

theorem u64ok_wf {n : Int} (h : (Lit.int .u64 n).wf = true) : u64ok n := by
  have := bounds_u64 h
  unfold u64ok; omega

theorem open_qcall {H : Type} {enc : TypeId × Value → H} {w : World} {base : Nat} {spare : Nat → Bool} {held : Bool} (n : Nat) (cs : List Value) (y : DataW H × List MemPlace)
    (h : DataW.trod enc Try.prog w base spare held n 51 cs = some y) : ∃ x, cs = callCells x ∧ QCallOk x := by
  obtain ⟨hl, m, hf⟩ := open_fields Try.underlying51 h
  have hc : Try.prog.cellsOf 51 = 6 := by kernel_rfl
  have c8 : Try.prog.cellsOf 5 = 1 := by kernel_rfl
  have c64 : Try.prog.cellsOf 27 = 1 := by kernel_rfl
  have ci : Try.prog.cellsOf 3 = 1 := by kernel_rfl
  have cb : Try.prog.cellsOf 4 = 1 := by kernel_rfl
  rw [hc] at hl
  match cs, hl with
  | [c0, c1, c2, c3, c4, c5], _ =>
    obtain ⟨a0, rfl, w0⟩ := field_int Try.underlying5 c8 (o := 0) (c := c0) rfl (hf 0 _ rfl)
    obtain ⟨a1, rfl, w1⟩ := field_int Try.underlying27 c64 (o := 1) (c := c1) rfl (hf 1 _ rfl)
    obtain ⟨a2, rfl, w2⟩ := field_int Try.underlying27 c64 (o := 2) (c := c2) rfl (hf 2 _ rfl)
    obtain ⟨a3, rfl, w3⟩ := field_int Try.underlying27 c64 (o := 3) (c := c3) rfl (hf 3 _ rfl)
    obtain ⟨a4, rfl, w4⟩ := field_int Try.underlying3 ci (o := 4) (c := c4) rfl (hf 4 _ rfl)
    obtain ⟨a5, rfl⟩ := field_bool Try.underlying4 cb (o := 5) (c := c5) rfl (hf 5 _ rfl)
    exact ⟨⟨a0, a1, a2, a3, a4, a5⟩, rfl, bounds_u8 w0, u64ok_wf w1, u64ok_wf w2, u64ok_wf w3, bounds_i64 w4⟩

/-- Any call. -/
theorem does_all (w : World) (x : QCall) (h : PairS X w q p s s) (hX : ∀ k, X k → k < w.heap.size) (hL : s.ids.length ≤ 1000) (ho : QCallOk x) :
    Calls Try.prog 17 #[.pointer (some ⟨q, 0, none⟩), .pointer (some ⟨p, 0, none⟩), callVal x] w fun e w' => e = .returned (.bool true) ∧ (∃ s', PairS X w' q p s' s' ∧ s'.ids.length ≤ s.ids.length + 1) ∧ Kept X w w' := by
  obtain ⟨wh, a, b, c, n, m⟩ := x
  obtain ⟨⟨o1, o2⟩, o3, o4, o5, o6, o7⟩ := ho
  simp only at o1 o2 o3 o4 o5 o6 o7
  have key : ∀ u : QS, u.ids.length ≤ s.ids.length + 1 → ∀ e w', DoesPost X w q p u m e w' → e = .returned (.bool true) ∧ (∃ s', PairS X w' q p s' s' ∧ s'.ids.length ≤ s.ids.length + 1) ∧ Kept X w w' := by
    rintro u hu e w' ⟨h1, h2, h3⟩
    refine ⟨h1, ⟨_, h2, ?_⟩, h3⟩
    split
    · have := List.length_filter_le (fun i => (u.own i).isSome) u.ids
      simp only [QS.purged, QS.left]; omega
    · exact hu
  have h10 : wh % 10 = 0 ∨ wh % 10 = 1 ∨ wh % 10 = 2 ∨ wh % 10 = 3 ∨ wh % 10 = 4 ∨ wh % 10 = 5 ∨ wh % 10 = 6 ∨ wh % 10 = 7 ∨ wh % 10 = 8 ∨ wh % 10 = 9 := by omega
  rcases h10 with h0 | h0 | h0 | h0 | h0 | h0 | h0 | h0 | h0 | h0
  · exact (does_put w wh a b c n m h hX hL o1 o2 o3 o4 o5 o6 o7 (.inl h0)).mono (key _ (put_len s a))
  · exact (does_put w wh a b c n m h hX hL o1 o2 o3 o4 o5 o6 o7 (.inr h0)).mono (key _ (put_len s a))
  · exact (does_keep w wh a b c n m h hX hL o1 o2 o3 o4 o5 o6 o7 h0).mono (key _ (keep_len s n))
  · exact (does_give w wh a b c n m h hX hL o1 o2 o3 o4 o5 o6 o7 h0).mono (key _ (give_len s n))
  · exact (does_fill w wh a b c n m h hX hL o1 o2 o3 o4 o5 o6 o7 h0).mono (key _ (fill_len s a))
  · exact (does_next w wh a b c n m h hX hL o1 o2 o3 o4 o5 o6 o7 h0).mono (key _ (next_len s b))
  · by_cases hz : b = 0
    · subst hz; exact (does_hold0 w wh a c n m h hX hL o1 o2 o3 o5 o6 o7 h0).mono (key _ (Nat.le_succ _))
    · exact (does_hold w wh a b c n m h hX hL o1 o2 o3 o4 o5 o6 o7 h0 hz).mono (key _ (holds_len s a b))
  · by_cases hz : c = 0
    · subst hz; exact (does_pass0 w wh a b n m h hX hL o1 o2 o3 o4 o6 o7 h0).mono (key _ (Nat.le_succ _))
    · exact (does_pass w wh a b c n m h hX hL o1 o2 o3 o4 o5 o6 o7 h0 hz).mono (key _ (pass_len s a b c))
  · exact (does_free w wh a b c n m h hX hL o1 o2 o3 o4 o5 o6 o7 h0).mono (key _ (free_len s a b))
  · exact (does_drop w wh a b c n m h hX hL o1 o2 o3 o4 o5 o6 o7 h0).mono (key _ (dropped_len s a b))

/-- Both queues, new. -/
theorem pair_new (w w1 : World) (n : Int) (q : Nat) (hB : Below w.heap.size w w1) (h : QueX (fun k => k < w.heap.size) w1 q (QS.new n)) :
    PairS (fun k => k < w.heap.size) (w1.alloc (.cells #[.int .u64 (limOf n), .slice none 0 0, .int .i64 0, .int .u64 0] 48)) q w1.heap.size (QS.new n) (QS.new n) := by
  obtain ⟨h0, b, v, h1, h2⟩ := h
  refine ⟨h0, b, v, .slice none 0 0, h1.pure ((Below.refl _ _).alloc (Nat.le_refl _) _), ⟨Blk.new w1 [.int .u64 (limOf n), .slice none 0 0, .int .i64 0, .int .u64 0] _, Own.nil, by simp [Value.ownBlock]⟩, h2, ?_, ?_⟩
  · rintro k (hk | hk)
    · have := hB.size; omega
    · simp [Value.ownBlock] at hk
  · rintro k hk (hx | hx)
    · have := h1.lt hk; omega
    · simp [Value.ownBlock] at hx

set_option maxRecDepth 100000 in
set_option maxHeartbeats 4000000 in
theorem plays_any (w : World) (n : Int) (v : Value) (L : List QCall) (hS : Slc callCells 6 w v L) (hL : ∀ x ∈ L, QCallOk x) (h0 : 0 ≤ n) :
    Calls Try.prog 5 #[.int .u64 n, v] w fun e w' => e = .returned (.bool true) ∧ Below w.heap.size w w' := by
  obtain ⟨a, cap, rfl, hm⟩ := hS.len
  unfold maxLen at hm
  have hmin : (if (4611686018427387904 : Int) < n then 4611686018427387904 else n) = limOf n := by unfold limOf; split <;> split <;> omega
  go_enter Try.func5, Try.ntmps5
  go_wp2_with (go_at_call 8; refine (newX _ n h0).mono ?_; rintro e w1 ⟨rfl, hB1, hR1⟩)
  have hP1 := pair_new w w1 n _ hB1 hR1
  have hB2 := hB1.alloc hB1.size (.cells #[.int .u64 (limOf n), .slice none 0 0, .int .i64 0, .int .u64 0] 48)
  obtain ⟨q, hq⟩ : ∃ q, q = w.heap.size + 1 := ⟨_, rfl⟩
  obtain ⟨p, hp⟩ : ∃ p, p = w1.heap.size := ⟨_, rfl⟩
  rw [← hq, ← hp] at hP1
  rw [← hq, ← hp]
  clear hq hp hR1 hB1 hmin
  go_loopw [7] (fun s7 wr => ∃ (k : Nat) (s : QS), k ≤ L.length ∧ k ≤ 80 ∧ s7 = .int .i64 k ∧ PairS (fun j => j < w.heap.size) wr q p s s ∧ s.ids.length ≤ k ∧ Below w.heap.size w wr) (fun s7 _ => L.length - (intOf s7).toNat)
  case atStart => exact ⟨0, QS.new n, by omega, by omega, rfl, hP1, by simp [QS.new], hB2⟩
  case round =>
    clear hP1 hB2
    obtain ⟨k, s, hk, hk8, rfl, hP, hlen, hB⟩ := hrel
    have hBs := hB.size
    by_cases hlt : k < L.length
    · by_cases hlt8 : k < 80
      · have hS' := hS.pure (hB.mono (Nat.le_refl _))
        obtain ⟨g, off, rfl⟩ : ∃ g off, a = some ⟨g, off, none⟩ := by
          rcases hS' with ⟨_, _, _, _, h0⟩ | ⟨g, off, cap', hv, _⟩
          · rw [h0] at hlt; simp at hlt
          · simp only [Value.slice.injEq] at hv; exact ⟨g, off, hv.1⟩
        obtain ⟨x, hx⟩ : ∃ x, x = L[k] := ⟨_, rfl⟩
        have hox : QCallOk x := by rw [hx]; exact hL _ (List.getElem_mem hlt)
        have hcell : ∀ j u, (callCells x)[j]? = some u → wr.cell? ⟨g, off + k * 6 + j, none⟩ = some u := fun j u hu => hS'.get k hlt j u (by rw [← hx]; exact hu)
        have c0 := hcell 0 _ rfl
        have c1 := hcell 1 _ rfl
        have c2 := hcell 2 _ rfl
        have c3 := hcell 3 _ rfl
        have c4 := hcell 4 _ rfl
        have c5 := hcell 5 _ rfl
        simp only [Nat.add_zero] at c0
        have hcw : w.cell? ⟨g, off + k * 6 + 1, none⟩ = some (.int .u64 x.a) := hS.get k hlt 1 _ (by rw [← hx]; rfl)
        have hgl := World.block_lt_of_cell? w _ hcw
        have hcw' := Lib.hid hcw; clear hcw
        have hd := does_all wr x hP (fun j hj => Nat.lt_of_lt_of_le hj hBs) (by omega) hox
        clear hcell hx hS'
        go_wp2_with fail
        refine hd.mono ?_
        rintro e w2 ⟨rfl, ⟨s', hP2, hl2⟩, hK2⟩
        have hB2 := Kept.below hB hK2
        clear hP hd hK2 c0 c1 c2 c3 c4 c5 hB hBs
        have htl := tells_any w2 hP2 (by omega)
        have hL2 : s'.ids.length ≤ 1000000 := by omega
        go_wp2_with fail
        refine htl.mono ?_
        rintro e w3 ⟨rfl, hT3⟩
        have hP3 := hP2.pure hT3
        have hB3 := hB2.trans (hT3.mono hB2.size)
        have c1 := (hB3.cell (p := ⟨g, off + k * 6 + 1, none⟩) hgl).trans hcw'.out
        clear htl hP2 hT3 hB2
        have how := pq_owner (id := x.a) hP3 hL2 hox.a
        have hfi := pr_find (id := x.a) hP3
        by_cases hmem : x.a ∈ s'.ids
        · have e1 : s'.owner x.a = ((s'.own x.a).getD 0, 0) := by unfold QS.owner; rw [if_pos hmem]
          obtain ⟨i, hil, _, hff⟩ := find_yes hP3.ok.rise hmem
          rw [e1] at how
          rw [hff] at hfi
          simp only [idxOf] at hfi
          clear hmem e1 hff hox
          go_wp2_with (first | (go_at_call 11; refine how.mono ?_; clear how; rintro e w' ⟨rfl, rfl⟩) | (go_at_call 19; refine hfi.mono ?_; clear hfi; rintro e w' ⟨rfl, rfl⟩))
          go_roundw
          case rel => exact ⟨k + 1, s', by omega, by omega, by go_num, hP3, by omega, hB3⟩
          case measure => simp [intOf]; omega
        · have e1 : s'.owner x.a = (0, 7) := by unfold QS.owner; rw [if_neg hmem]
          rw [e1] at how
          rw [find_no hmem] at hfi
          simp only [idxOf] at hfi
          clear hmem e1 hox
          go_wp2_with (first | (go_at_call 11; refine how.mono ?_; clear how; rintro e w' ⟨rfl, rfl⟩) | (go_at_call 19; refine hfi.mono ?_; clear hfi; rintro e w' ⟨rfl, rfl⟩))
          go_roundw
          case rel => exact ⟨k + 1, s', by omega, by omega, by go_num, hP3, by omega, hB3⟩
          case measure => simp [intOf]; omega
      · go_wp2_with (go_at_call 7; refine (head_any _).mono ?_; rintro e w2 ⟨rfl, hT⟩)
        go_ret
        exact ⟨rfl, hB.trans (hT.mono hB.size)⟩
    · go_wp2_with (go_at_call 7; refine (head_any _).mono ?_; rintro e w2 ⟨rfl, hT⟩)
      go_ret
      exact ⟨rfl, hB.trans (hT.mono hB.size)⟩
end Go.Proofs.Ytnmphchlephpbaa
