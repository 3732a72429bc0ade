/- The document's queue: Put, Keep, Give, Fill, Find. Conditions: as for its memory. -/
import Derived.Test.YtnmphchlephpbaaQueueL
namespace Go.Proofs.Ytnmphchlephpbaa
open Go.RowKit
variable {w w' : World} {p : Nat} {v : Value} {s : QS}

set_option maxHeartbeats 800000 in
theorem ref_put (w : World) (p : Nat) (v : Value) (s : QS) (id : Int) (h : RefQ w p v s) (ho : QOk s) (hL : s.ids.length ≤ 1000000) :
    Calls Try.prog 36 #[.pointer (some ⟨p, 0, none⟩), .int .u64 id] w fun e w' => e = .returned (.int .i64 (s.put id).1) ∧ RStep w w' p v (s.put id).2 := by
  have c3 := h.c3
  have hr := ref_room w p v s h ho
  have k1 := ho.room
  unfold QS.put
  by_cases h1 : id ≤ s.last
  · rw [if_pos h1]
    clear hr
    go_enter Try.func36, Try.ntmps36
    go_wp2
    go_ret
    exact ⟨rfl, RStep.refl h⟩
  · rw [if_neg h1]
    have hfr := ho.fresh (id := id) (by omega)
    by_cases h2 : s.limit = s.ids.length + s.kept
    · rw [if_pos h2]
      have hz : s.limit - (s.ids.length + s.kept) = 0 := by omega
      rw [hz] at hr
      have h2' := Lib.hid h2; clear h2 hz
      go_enter Try.func36, Try.ntmps36
      go_wp2_with (first | (go_at_call 47; refine hr.mono ?_; clear hr; rintro e w1 ⟨rfl, hB⟩))
      go_ret
      exact ⟨rfl, (RStep.refl h).below hB⟩
    · rw [if_neg h2]
      have hz : ¬ (s.limit - (s.ids.length + s.kept) = 0) := by omega
      have hzb : (s.limit - (s.ids.length + s.kept) == 0) = false := beq_eq_false_iff_ne.2 hz
      clear h2 hz
      go_enter Try.func36, Try.ntmps36
      go_wp2_with (first | (go_at_call 47; refine hr.mono ?_; clear hr; rintro e w1 ⟨rfl, hB⟩) | (go_at_call 52; refine (ref_put1 _ _ _ _ _ (h.pure hB) hfr hL).mono ?_; rintro e w2 ⟨rfl, hst⟩))
      go_ret
      exact ⟨rfl, hst.of_below hB⟩

set_option maxHeartbeats 800000 in
theorem ref_keep (w : World) (p : Nat) (v : Value) (s : QS) (n : Int) (h : RefQ w p v s) (ho : QOk s) (hn : n ≤ 9223372036854775807) :
    Calls Try.prog 37 #[.pointer (some ⟨p, 0, none⟩), .int .i64 n] w fun e w' => e = .returned (.int .i64 (s.keep n).1) ∧ RStep w w' p v (s.keep n).2 := by
  have hr := ref_room w p v s h ho
  have a1 := ho.lim
  have a2 := ho.kept
  have a3 := ho.room
  unfold QS.keep
  by_cases n0 : n < 0
  · rw [if_pos n0]
    clear hr
    go_enter Try.func37, Try.ntmps37
    go_wp2
    go_ret
    exact ⟨rfl, RStep.refl h⟩
  · rw [if_neg n0]
    by_cases n1 : s.limit - (s.ids.length + s.kept) < n
    · rw [if_pos n1]
      go_enter Try.func37, Try.ntmps37
      go_wp2_with (first | (go_at_call 47; refine hr.mono ?_; clear hr; rintro e w1 ⟨rfl, hB⟩))
      go_ret
      exact ⟨rfl, (RStep.refl h).below hB⟩
    · rw [if_neg n1]
      go_enter Try.func37, Try.ntmps37
      go_wp2_with (first | (go_at_call 47; refine hr.mono ?_; clear hr; rintro e w1 ⟨rfl, hB⟩; have hh := h.pure hB; have d2 := hh.c2; have f2 := hh.1.frozen 2))
      go_ret
      exact ⟨rfl, (RStep.keptSet hh _).of_below hB⟩

set_option maxHeartbeats 800000 in
theorem ref_give (w : World) (p : Nat) (v : Value) (s : QS) (n : Int) (h : RefQ w p v s) (ho : QOk s) :
    Calls Try.prog 38 #[.pointer (some ⟨p, 0, none⟩), .int .i64 n] w fun e w' => e = .returned (.int .i64 (s.give n).1) ∧ RStep w w' p v (s.give n).2 := by
  have c2 := h.c2
  have f2 := h.1.frozen 2
  have a1 := ho.lim
  have a2 := ho.kept
  have a3 := ho.room
  unfold QS.give
  by_cases n0 : n < 0
  · rw [if_pos (.inl n0)]
    go_enter Try.func38, Try.ntmps38
    go_wp2
    go_ret
    exact ⟨rfl, RStep.refl h⟩
  · by_cases n1 : s.kept < n
    · rw [if_pos (.inr n1)]
      go_enter Try.func38, Try.ntmps38
      go_wp2
      go_ret
      exact ⟨rfl, RStep.refl h⟩
    · rw [if_neg (by omega)]
      go_enter Try.func38, Try.ntmps38
      go_wp2
      go_ret
      exact ⟨rfl, RStep.keptSet h _⟩

set_option maxHeartbeats 800000 in
theorem ref_fill (w : World) (p : Nat) (v : Value) (s : QS) (id : Int) (h : RefQ w p v s) (ho : QOk s) (hL : s.ids.length ≤ 1000000) :
    Calls Try.prog 39 #[.pointer (some ⟨p, 0, none⟩), .int .u64 id] w fun e w' => e = .returned (.int .i64 (s.fill id).1) ∧ RStep w w' p v (s.fill id).2 := by
  have c2 := h.c2
  have c3 := h.c3
  have f2 := h.1.frozen 2
  have a1 := ho.lim
  have a2 := ho.kept
  have a3 := ho.room
  unfold QS.fill
  by_cases n0 : id ≤ s.last
  · rw [if_pos n0]
    go_enter Try.func39, Try.ntmps39
    go_wp2
    go_ret
    exact ⟨rfl, RStep.refl h⟩
  · rw [if_neg n0]
    have hfr := ho.fresh (id := id) (by omega)
    by_cases n1 : s.kept = 0
    · rw [if_pos n1]
      have hz : (s.kept == 0) = true := beq_iff_eq.2 n1
      have n1' := Lib.hid n1; clear n1
      go_enter Try.func39, Try.ntmps39
      go_wp2
      go_ret
      exact ⟨rfl, RStep.refl h⟩
    · rw [if_neg n1]
      have hz : (s.kept == 0) = false := beq_eq_false_iff_ne.2 n1
      have hq : RefQ (w.setCell ⟨p, 2, none⟩ (.int .i64 (s.kept - 1))) p v { s with kept := s.kept - 1 } := ⟨h.1.set 2 _, h.2.1.other _ _ (by intro k hk e; subst e; exact h.2.2 hk), h.2.2⟩
      have hput := Lib.hid (ref_put1 _ p v _ id hq hfr hL)
      clear hq
      go_enter Try.func39, Try.ntmps39
      go_wp2_with (first | (go_at_call 52; refine hput.out.mono ?_; rintro e w2 ⟨rfl, hst2⟩))
      go_ret
      refine ⟨rfl, ?_⟩
      obtain ⟨v2, k1, k2, k3⟩ := hst2
      have hu := (Upd.set (S := RefS p v) (w := w) (p := ⟨p, 2, none⟩) (.inl rfl) (.int .i64 (s.kept - 1))).trans k2 (fun _ h _ => h)
      exact ⟨v2, k1, hu, fun i hi => (k3 i hi).imp (fun h => h) (fun h => by simpa using h)⟩

/-- Where a message stands. -/
def findI (L : List Int) (x : Int) : Option Nat := L.findIdx? (fun i => i == x)
def idxOf (o : Option Nat) : Int := match o with | some i => (i : Int) | none => -1

theorem msg_cells {g off cap i : Nat} (hs : Slc msgEnc 2 w (.slice (some ⟨g, off, none⟩) s.ids.length cap) s.msgs) (hi : i < s.ids.length) :
    w.cell? ⟨g, off + i * 2 + 0, none⟩ = some (.int .u64 s.ids[i]) ∧ w.cell? ⟨g, off + i * 2 + 1, none⟩ = some (.int .u64 ((s.own s.ids[i]).getD 0)) := by
  have hl : i < s.msgs.length := by rw [msgs_len]; exact hi
  have e : s.msgs[i] = s.msg s.ids[i] := by simp [QS.msgs]
  exact ⟨hs.get i hl 0 _ (by rw [e]; rfl), hs.get i hl 1 _ (by rw [e]; rfl)⟩

set_option maxHeartbeats 1600000 in
theorem ref_find (w : World) (p : Nat) (v : Value) (s : QS) (id : Int) (h : RefQ w p v s) :
    Calls Try.prog 19 #[.pointer (some ⟨p, 0, none⟩), .int .u64 id] w fun e w' => e = .returned (.int .i64 (idxOf (findI s.ids id))) ∧ w = w' := by
  have c1 := h.c1
  obtain ⟨a, cap, rfl, hm⟩ := h.slc.len
  have hs := h.slc
  rw [msgs_len] at c1 hm hs
  unfold maxLen at hm
  clear h
  go_enter Try.func19, Try.ntmps19
  go_wp2
  go_loop [5] (fun s5 => ∃ k : Nat, k ≤ s.ids.length ∧ s5 = .int .i64 k ∧ (s.ids.take k).findIdx? (fun i => i == id) = none) (fun s5 => s.ids.length - (intOf s5).toNat)
  case atStart => exact ⟨0, by omega, rfl, by simp⟩
  case round =>
    obtain ⟨k, hk, rfl, hno⟩ := hrel
    have hno' := Lib.hid hno; clear hno
    by_cases hlt : k < s.ids.length
    · obtain ⟨g, off, rfl⟩ : ∃ g off, a = some ⟨g, off, none⟩ := by
        rcases hs with ⟨_, _, _, _, h0⟩ | ⟨g, off, cap', hv, _⟩
        · have := msgs_len s; rw [h0] at this; simp at this; omega
        · simp only [Value.slice.injEq] at hv; exact ⟨g, off, hv.1⟩
      obtain ⟨d0, d1⟩ := msg_cells hs hlt
      simp only [Nat.add_zero] at d0
      cases hq : (s.ids[k] == id)
      · have hq' := Lib.hid hq
        go_wp2
        go_round
        case rel => exact ⟨k + 1, by omega, by go_num, findP_no hlt hno'.out hq'.out⟩
        case measure => simp [intOf]; omega
      · have hq' := Lib.hid hq
        go_wp2
        go_ret
        refine ⟨?_, rfl⟩
        unfold findI
        rw [findP_yes (p := fun i => i == id) hlt hno'.out hq'.out]; rfl
    · go_wp2
      go_ret
      have : k = s.ids.length := by omega
      subst this
      refine ⟨?_, rfl⟩
      have := hno'.out
      rw [List.take_length] at this
      unfold findI
      rw [this]; rfl

end Go.Proofs.Ytnmphchlephpbaa
