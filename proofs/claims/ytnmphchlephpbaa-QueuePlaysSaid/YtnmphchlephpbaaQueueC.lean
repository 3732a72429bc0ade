/- Package queue, third part: come, Put, Next, Owner, must, by, Free. Conditions: the queue's memory as 'Que' says; what 'QOk' says. -/
import Derived.Test.YtnmphchlephpbaaQueueB
namespace Go.Proofs.Ytnmphchlephpbaa
open Go.RowKit
variable {w w' : World} {q b : Nat} {v : Value} {s : QS}

def QS.come (s : QS) (id : Int) : QS := { s with ids := s.ids ++ [id], last := id }

set_option maxHeartbeats 800000 in
theorem come_any (w : World) (q b : Nat) (v : Value) (s : QS) (id : Int) (h : Que w q b v s) (hL : s.ids.length ≤ 1000000) :
    Calls Try.prog 31 #[.pointer (some ⟨q, 0, none⟩), .int .u64 id] w fun e w' => e = .returned (.tuple #[]) ∧ QStep w w' q b v (s.come id) := by
  have c1 := h.c1
  have hsz := h.1.lt
  go_enter Try.func31, Try.ntmps31
  go_wp2_with (first | (at_builtin; refine wpList_app1 rfl _ _ 28 27 rfl elem_u64 (intEnc_len _) (intEnc_one _) _ s.ids rfl (h.2.1.alloc _) w.heap.size 1 id rfl (fun j u hu => by rw [(Blk.new _ [.int .u64 id] _).cell]; exact hu) (by omega) (by unfold maxLen; omega) (Nat.zero_le _) ?_; intro g' cap' w2 hown hgr hfr; have hb2 := (h.1.alloc (.cells #[.int .u64 id] 27)).keep (hgr.block q (h.1.alloc _).lt (fun e => h.2.2.2.1 e.symm)); have d1 := hb2.cell 1; have d4 := hb2.cell 4; have f1 := hb2.frozen 1; have f4 := hb2.frozen 4; clear c1))
  go_end0
  have hbl := h.2.2.1.lt
  have hneq : some g' ≠ some q ∧ some g' ≠ some b := by
    rcases hfr with hf | hf
    · rw [← hf]; exact ⟨h.2.2.2.1, h.2.2.2.2.1⟩
    · simp at hf
      constructor <;> intro e <;> injection e <;> omega
  have hu : Upd (QueS q b v) w w2 := (Upd.of_below (S := QueS q b v) ((Below.refl _ w).alloc (Nat.le_refl _) _)).trans (Upd.grown (S := QueS q b v) hgr (fun k hk => .inr (.inr hk))) (fun _ h _ => h)
  have hm := (h.2.2.1.alloc (.cells #[.int .u64 id] 27)).keep (hgr.block b (by simp; omega) (fun e => h.2.2.2.2.1 e.symm))
  refine ⟨rfl, .slice (some ⟨g', 0, none⟩) (s.ids.length + 1) cap', ⟨(hb2.set 1 _).set 4 _, ?_, ?_, hneq.1, hneq.2, h.2.2.2.2.2⟩, ?_, ?_⟩
  · refine Own.other (Own.other ?_ _ _ (by intro k hk e; subst e; exact hneq.1 hk)) _ _ (by intro k hk e; subst e; exact hneq.1 hk)
    exact hown
  · exact (hm.other _ _ h.2.2.2.2.2).other _ _ h.2.2.2.2.2
  · exact (hu.trans (Upd.set (S := QueS q b v) (p := ⟨q, 1, none⟩) (.inl rfl) _) (fun _ h _ => h)).trans (Upd.set (S := QueS q b v) (p := ⟨q, 4, none⟩) (.inl rfl) _) (fun _ h _ => h)
  · rintro k (hk | hk | hk)
    · exact .inl (.inl hk)
    · exact .inl (.inr (.inl hk))
    · simp only [Value.ownBlock, Option.some.injEq] at hk
      subst hk
      rcases hfr with hf | hf
      · exact .inl (.inr (.inr hf))
      · simp at hf; right; omega

theorem QStep.of_below {w w1 w2 : World} {s' : QS} (hb : Below w.heap.size w w1) (h : QStep w1 w2 q b v s') : QStep w w2 q b v s' := by
  obtain ⟨v', h1, h2, h3⟩ := h
  exact ⟨v', h1, (Upd.of_below (S := QueS q b v) hb).trans h2 (fun _ h _ => h), fun k hk => (h3 k hk).imp id (fun h => Nat.le_trans hb.size h)⟩
theorem QStep.below {w w1 w2 : World} {s' : QS} (h : QStep w w1 q b v s') (hb : Below w1.heap.size w1 w2) : QStep w w2 q b v s' := by
  obtain ⟨v', h1, h2, h3⟩ := h
  exact ⟨v', h1.pure hb, h2.trans (Upd.of_below (S := QueS q b v) hb) (fun _ h _ => h), h3⟩

/-- Put: a message comes. -/
def QS.put (s : QS) (id : Int) : Int × QS := if id ≤ s.last then (2, s) else if s.limit = s.ids.length + s.kept then (6, s) else (0, s.come id)

set_option maxHeartbeats 800000 in
theorem put_any (w : World) (q b : Nat) (v : Value) (s : QS) (id : Int) (h : Que w q b v s) (ho : QOk s) (hL : s.ids.length ≤ 1000000) :
    Calls Try.prog 9 #[.pointer (some ⟨q, 0, none⟩), .int .u64 id] w fun e w' => e = .returned (.int .i64 (s.put id).1) ∧ QStep w w' q b v (s.put id).2 := by
  have c2 := h.c2
  have c4 := h.c4
  have hself : QStep w w q b v s := ⟨v, h, Upd.refl _ _, fun _ h => .inl h⟩
  unfold QS.put
  by_cases h1 : id ≤ s.last
  · rw [if_pos h1]
    have hd : decide (s.last < id) = false := decide_eq_false (by omega)
    clear ho h
    go_enter Try.func9, Try.ntmps9
    go_wp2_with (first | (go_at_call 29; refine (there_ok _ _ _ c2).mono ?_; rintro e w' ⟨rfl, rfl⟩) | (go_at_call 30; refine (fresh_any _ _ _ _ c4).mono ?_; rw [hd]; rintro e w' ⟨rfl, rfl⟩))
    go_ret
    exact ⟨rfl, hself⟩
  · rw [if_neg h1]
    have hd : decide (s.last < id) = true := decide_eq_true (by omega)
    have hr := room_any w q b v s h ho
    by_cases h2 : s.limit = s.ids.length + s.kept
    · rw [if_pos h2]
      have hz : s.limit - (s.ids.length + s.kept) = 0 := by omega
      rw [hz] at hr
      have h2' := Lib.hid h2; clear h2 hz ho h
      go_enter Try.func9, Try.ntmps9
      go_wp2_with (first | (go_at_call 29; refine (there_ok _ _ _ c2).mono ?_; rintro e w' ⟨rfl, rfl⟩) | (go_at_call 30; refine (fresh_any _ _ _ _ c4).mono ?_; rw [hd]; rintro e w' ⟨rfl, rfl⟩) | (go_at_call 28; refine hr.mono ?_; clear hr; rintro e w1 ⟨rfl, hB⟩))
      go_ret
      exact ⟨rfl, hself.below hB⟩
    · rw [if_neg h2]
      have k1 := ho.room
      have hz : ¬ (s.limit - (s.ids.length + s.kept) = 0) := by omega
      have hzb : (s.limit - (s.ids.length + s.kept) == 0) = false := beq_eq_false_iff_ne.2 hz
      clear h2 hz ho
      go_enter Try.func9, Try.ntmps9
      go_wp2_with (first | (go_at_call 29; refine (there_ok _ _ _ c2).mono ?_; rintro e w' ⟨rfl, rfl⟩) | (go_at_call 30; refine (fresh_any _ _ _ _ c4).mono ?_; rw [hd]; rintro e w' ⟨rfl, rfl⟩) | (go_at_call 28; refine hr.mono ?_; clear hr; rintro e w1 ⟨rfl, hB⟩) | (go_at_call 31; refine (come_any _ _ _ _ _ _ (h.pure hB) hL).mono ?_; rintro e w2 ⟨rfl, hst⟩))
      go_ret
      exact ⟨rfl, hst.of_below hB⟩

end Go.Proofs.Ytnmphchlephpbaa
