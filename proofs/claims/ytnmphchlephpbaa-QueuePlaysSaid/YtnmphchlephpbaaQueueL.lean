/- The document's queue, over the same state: its memory ('RefQ'), Room, put, Put, Keep, Give, Fill, Find. Conditions: the memory as 'RefQ' says; what 'QOk' says; at most a million messages. -/
import Derived.Test.YtnmphchlephpbaaQueueK
namespace Go.Proofs.Ytnmphchlephpbaa
open Go.RowKit

def msgEnc (m : Int × Int) : List Value := [.int .u64 m.1, .int .u64 m.2]
theorem msgEnc_len (m : Int × Int) : (msgEnc m).length = 2 := rfl
theorem msgEnc_one (m : Int × Int) : ∀ u ∈ msgEnc m, u.oneCell' = true := by simp [msgEnc, Value.oneCell']
theorem info_msg : (Try.prog.info? 79).map (fun i => (i.zero, i.size, i.bytes)) = some (some (.agg #[.int .u64 0, .int .u64 0]), 2, 16) := by kernel_rfl
theorem elem_msg : ElemT Try.prog 46 79 2 16 := ElemT.mk' Try.underlying46 info_msg rfl (by omega)

def QS.msg (s : QS) (i : Int) : Int × Int := (i, (s.own i).getD 0)
def QS.msgs (s : QS) : List (Int × Int) := s.ids.map s.msg
theorem msgs_len (s : QS) : s.msgs.length = s.ids.length := by simp [QS.msgs]

/-- The document's queue at address p: its slice v. -/
def RefQ (w : World) (p : Nat) (v : Value) (s : QS) : Prop :=
  Blk w p [.int .u64 s.limit, v, .int .i64 s.kept, .int .u64 s.last] ∧ Own 0 79 2 msgEnc w v s.msgs ∧ v.ownBlock ≠ some p
def RefS (p : Nat) (v : Value) (k : Nat) : Prop := k = p ∨ v.ownBlock = some k
def RStep (w w' : World) (p : Nat) (v : Value) (s' : QS) : Prop :=
  ∃ v', RefQ w' p v' s' ∧ Upd (RefS p v) w w' ∧ ∀ k, RefS p v' k → RefS p v k ∨ w.heap.size ≤ k

variable {w w' : World} {p : Nat} {v : Value} {s : QS}
theorem RefQ.c0 (h : RefQ w p v s) : w.cell? ⟨p, 0, none⟩ = some (.int .u64 s.limit) := h.1.cell 0
theorem RefQ.c1 (h : RefQ w p v s) : w.cell? ⟨p, 1, none⟩ = some v := h.1.cell 1
theorem RefQ.c2 (h : RefQ w p v s) : w.cell? ⟨p, 2, none⟩ = some (.int .i64 s.kept) := h.1.cell 2
theorem RefQ.c3 (h : RefQ w p v s) : w.cell? ⟨p, 3, none⟩ = some (.int .u64 s.last) := h.1.cell 3
theorem RefQ.slc (h : RefQ w p v s) : Slc msgEnc 2 w v s.msgs := h.2.1.slc msgEnc_len
theorem RefQ.pure (h : RefQ w p v s) (hb : Below w.heap.size w w') : RefQ w' p v s := ⟨h.1.pure hb, h.2.1.pure hb, h.2.2⟩
theorem RefQ.lt (h : RefQ w p v s) {k : Nat} (hk : RefS p v k) : k < w.heap.size := by
  rcases hk with rfl | hk
  · exact h.1.lt
  · exact h.2.1.lt hk
theorem RStep.refl (h : RefQ w p v s) : RStep w w p v s := ⟨v, h, Upd.refl _ _, fun _ h => .inl h⟩
theorem RStep.below {w1 w2 : World} {s' : QS} (h : RStep w w1 p v s') (hb : Below w1.heap.size w1 w2) : RStep w w2 p v s' := by
  obtain ⟨v', h1, h2, h3⟩ := h
  exact ⟨v', h1.pure hb, h2.trans (Upd.of_below (S := RefS p v) hb) (fun _ h _ => h), h3⟩
theorem RStep.of_below {w1 w2 : World} {s' : QS} (hb : Below w.heap.size w w1) (h : RStep w1 w2 p v s') : RStep w w2 p v s' := by
  obtain ⟨v', h1, h2, h3⟩ := h
  exact ⟨v', h1, (Upd.of_below (S := RefS p v) hb).trans h2 (fun _ h _ => h), fun k hk => (h3 k hk).imp (fun h => h) (fun h => Nat.le_trans hb.size h)⟩
theorem RStep.keptSet (h : RefQ w p v s) (n : Int) : RStep w (w.setCell ⟨p, 2, none⟩ (.int .i64 n)) p v { s with kept := n } :=
  ⟨v, ⟨h.1.set 2 _, h.2.1.other _ _ (by intro k hk e; subst e; exact h.2.2 hk), h.2.2⟩, Upd.set (S := RefS p v) (p := ⟨p, 2, none⟩) (.inl rfl) _, fun k hk => .inl hk⟩

set_option maxHeartbeats 800000 in
theorem ref_room (w : World) (p : Nat) (v : Value) (s : QS) (h : RefQ w p v s) (ho : QOk s) :
    Calls Try.prog 47 #[.pointer (some ⟨p, 0, none⟩)] w fun e w' => e = .returned (.int .u64 (s.limit - (s.ids.length + s.kept))) ∧ Below w.heap.size w w' := by
  have c0 := h.c0
  have c1 := h.c1
  have c2 := h.c2
  obtain ⟨a, cap, rfl, hm⟩ := h.slc.len
  rw [msgs_len] at c1 hm
  have l0 := ho.lim.1
  have l1 := ho.lim.2
  have k0 := ho.kept
  have k1 := ho.room
  unfold maxLen at hm
  clear h ho
  go_enter Try.func47, Try.ntmps47
  go_wp2
  go_quiet (fail)
  go_wp2
  go_ret
  exact ⟨rfl, below_drewN (Below.refl _ _) _⟩

theorem msgs_come (s : QS) (id : Int) (h : s.own id = none) : (s.come id).msgs = s.msgs ++ [(id, 0)] := by
  simp only [QS.msgs, QS.come, List.map_append, List.map_cons, List.map_nil]
  congr 1
  simp [QS.msg, h]

set_option maxHeartbeats 1600000 in
theorem ref_put1 (w : World) (p : Nat) (v : Value) (s : QS) (id : Int) (h : RefQ w p v s) (hn : s.own id = none) (hL : s.ids.length ≤ 1000000) :
    Calls Try.prog 52 #[.pointer (some ⟨p, 0, none⟩), .int .u64 id] w fun e w' => e = .returned (.tuple #[]) ∧ RStep w w' p v (s.come id) := by
  have c1 := h.c1
  have hpl := h.1.lt
  have hml : s.msgs.length ≤ 1000000 := by rw [msgs_len]; exact hL
  have hmc := Lib.hid (msgs_come s id hn)
  go_enter Try.func52, Try.ntmps52
  go_wp2_with (first | (at_builtin; refine wpList_app rfl (.tmp 5) (.tmp 9) 46 79 rfl elem_msg msgEnc_len msgEnc_one _ ([] : List (Int × Int)) rfl (base := w.heap.size) Own.nil _ s.msgs rfl h.slc (by unfold maxLen; simp; omega) (by simp; omega) (Nat.le_refl _) ?_; intro v1 w1 hown1 hgr1 hfr1 hsh1; have hB1 := (Below.refl w.heap.size w).grown hgr1 (Nat.le_refl _) (fun j e => by cases e); have hb1s := hB1.size; clear c1) | (at_builtin; refine wpList_app1 rfl (.tmp 12) (.tmp 15) 46 79 rfl elem_msg msgEnc_len msgEnc_one v1 _ rfl (hown1.alloc _) w1.heap.size 1 (id, 0) rfl (fun j u hu => ((Blk.new w1 [.int .u64 id, .int .u64 0] 79).cell j).trans hu) (by simp; omega) (by unfold maxLen; simp; omega) (by simp; omega) ?_; intro g' cap' w2 hown hgr hfr; have hB2 := (hB1.alloc hb1s (.cells #[.int .u64 id, .int .u64 0] 79)).grown hgr (by simp; omega) (fun j e => hown1.ge e); have hbk := h.1.keep (hB2.block p hpl); have d1 := hbk.cell 1; have f1 := hbk.frozen 1; have d3 := hbk.cell 3; have f3 := hbk.frozen 3))
  go_end0
  have hg : w.heap.size ≤ g' := hown.ge rfl
  have hne : g' ≠ p := by omega
  have hlen : ([] ++ s.msgs ++ [(id, (0 : Int))]).length = ([] ++ s.msgs).length + 1 := by simp
  refine ⟨rfl, .slice (some ⟨g', 0, none⟩) (([] ++ s.msgs : List (Int × Int)).length + 1) cap', ⟨(hbk.set 1 _).set 3 _, ?_, ?_⟩, ?_, ?_⟩
  · refine Own.other (Own.other ?_ _ _ (by intro k hk e; simp only [Value.ownBlock, Option.some.injEq] at hk; exact hne (hk.trans e))) _ _ (by intro k hk e; simp only [Value.ownBlock, Option.some.injEq] at hk; exact hne (hk.trans e))
    rw [hmc.out]
    exact Own.rebase (by simpa using hown) (fun _ _ => Nat.zero_le _)
  · simp only [Value.ownBlock]; intro e; injection e with e; exact hne e
  · exact ((Upd.of_below (S := RefS p v) hB2).trans (Upd.set (S := RefS p v) (p := ⟨p, 1, none⟩) (.inl rfl) _) (fun _ h _ => h)).trans (Upd.set (S := RefS p v) (p := ⟨p, 3, none⟩) (.inl rfl) _) (fun _ h _ => h)
  · rintro k (hk | hk)
    · exact .inl (.inl hk)
    · simp only [Value.ownBlock, Option.some.injEq] at hk
      right; omega

end Go.Proofs.Ytnmphchlephpbaa
