/- Package queue, second part: the queue's memory ('Que'), New, there, fresh, Room, come, Put, Keep, Give, Fill, Ready, Kept. Conditions: the queue's memory as 'Que' says; at most a million messages and places; the limit at most 2^62. -/
import Derived.Test.YtnmphchlephpbaaQueueA
import Derived.Deep.Quiet
namespace Go.Proofs.Ytnmphchlephpbaa
open Go.RowKit

/-- What a queue holds: held messages by their owners (cnt: how many). -/
structure QS where
  limit : Int
  ids : List Int
  own : Int → Option Int
  cnt : Nat
  kept : Int
  last : Int

theorem info_u64 : (Try.prog.info? 27).map (fun i => (i.zero, i.size, i.bytes)) = some (some (.int .u64 0), 1, 8) := by kernel_rfl
theorem elem_u64 : ElemT Try.prog 28 27 1 8 := ElemT.mk' Try.underlying28 info_u64 rfl (by omega)
theorem heldT : MapT Try.prog 55 27 66 (fun i : Int => .int .u64 i) (fun i => .int .u64 i) u64ok (fun i : Int => .agg #[.int .u64 i]) decU1 0 :=
  mapT_u64 Try.underlying55 Try.underlying27 (fun w => by kernel_rfl)

abbrev HeldM (w : World) (b : Nat) (h : Int → Option Int) (cnt : Nat) : Prop := MapG Try.prog 27 (fun i : Int => .int .u64 i) u64ok decU1 w b h cnt

/-- The queue at address q: its map b, its slice v. -/
def Que (w : World) (q b : Nat) (v : Value) (s : QS) : Prop :=
  Blk w q [.int .u64 s.limit, v, .map (some b), .int .i64 s.kept, .int .u64 s.last] ∧ Own 0 27 1 (intEnc .u64) w v s.ids ∧ HeldM w b s.own s.cnt ∧ v.ownBlock ≠ some q ∧ v.ownBlock ≠ some b ∧ b ≠ q
/-- The blocks of a queue. -/
def QueS (q b : Nat) (v : Value) (k : Nat) : Prop := k = q ∨ k = b ∨ v.ownBlock = some k

/-- What is right of a queue. -/
structure QOk (s : QS) : Prop where
  lim : 0 ≤ s.limit ∧ s.limit ≤ 4611686018427387904
  kept : 0 ≤ s.kept
  room : s.ids.length + s.kept ≤ s.limit
  rise : s.ids.Pairwise (· < ·)
  ok : ∀ i ∈ s.ids, 0 < i ∧ i ≤ s.last
  last : 0 ≤ s.last ∧ s.last < 18446744073709551616
  cnt : s.cnt = s.ids.countP (fun i => (s.own i).isSome)
  sub : ∀ i, (s.own i).isSome = true → i ∈ s.ids
  pos : ∀ i o, s.own i = some o → 0 < o
theorem QOk.le {s : QS} (h : QOk s) : s.cnt ≤ s.ids.length := by rw [h.cnt]; exact List.countP_le_length

variable {w w' : World} {q b : Nat} {v : Value} {s : QS}
theorem Que.c0 (h : Que w q b v s) : w.cell? ⟨q, 0, none⟩ = some (.int .u64 s.limit) := h.1.cell 0
theorem Que.c1 (h : Que w q b v s) : w.cell? ⟨q, 1, none⟩ = some v := h.1.cell 1
theorem Que.c2 (h : Que w q b v s) : w.cell? ⟨q, 2, none⟩ = some (.map (some b)) := h.1.cell 2
theorem Que.c3 (h : Que w q b v s) : w.cell? ⟨q, 3, none⟩ = some (.int .i64 s.kept) := h.1.cell 3
theorem Que.c4 (h : Que w q b v s) : w.cell? ⟨q, 4, none⟩ = some (.int .u64 s.last) := h.1.cell 4
theorem Que.slc (h : Que w q b v s) : Slc (intEnc .u64) 1 w v s.ids := h.2.1.slc (intEnc_len _)
theorem Que.pure (h : Que w q b v s) (hb : Below w.heap.size w w') : Que w' q b v s := ⟨h.1.pure hb, h.2.1.pure hb, h.2.2.1.pure hb, h.2.2.2⟩
theorem Que.upd {S : Nat → Prop} (h : Que w q b v s) (hb : Upd S w w') (hs : ∀ k, QueS q b v k → ¬ S k) : Que w' q b v s :=
  ⟨h.1.upd hb (hs q (.inl rfl)), h.2.1.upd hb (fun k hk => hs k (.inr (.inr hk))), h.2.2.1.upd hb (hs b (.inr (.inl rfl))), h.2.2.2⟩
theorem Que.lt (h : Que w q b v s) {k : Nat} (hk : QueS q b v k) : k < w.heap.size := by
  rcases hk with rfl | rfl | hk
  · exact h.1.lt
  · exact h.2.2.1.lt
  · exact h.2.1.lt hk

/-- One step of a queue. -/
def QStep (w w' : World) (q b : Nat) (v : Value) (s' : QS) : Prop :=
  ∃ v', Que w' q b v' s' ∧ Upd (QueS q b v) w w' ∧ ∀ k, QueS q b v' k → QueS q b v k ∨ w.heap.size ≤ k

def limOf (n : Int) : Int := if n < 4611686018427387904 then n else 4611686018427387904
def QS.new (n : Int) : QS := ⟨limOf n, [], fun _ => none, 0, 0, 0⟩

theorem que_made (w : World) (n l : Int) (h : limOf n = l) : Que ((w.alloc (.map #[] 0)).alloc (.cells #[.int .u64 l, .slice none 0 0, .map (some w.heap.size), .int .i64 0, .int .u64 0] 57)) (w.heap.size + 1) w.heap.size (.slice none 0 0) (QS.new n) := by
  subst h
  have e : (w.alloc (.map #[] 0)).heap.size = w.heap.size + 1 := by simp
  refine ⟨?_, Own.nil, (MapG.made w).alloc _, by simp [Value.ownBlock], by simp [Value.ownBlock], by omega⟩
  rw [← e]
  exact Blk.new _ [.int .u64 (limOf n), .slice none 0 0, .map (some w.heap.size), .int .i64 0, .int .u64 0] _

set_option maxHeartbeats 400000 in
theorem new_any (w : World) (n : Int) (h0 : 0 ≤ n) :
    Calls Try.prog 8 #[.int .u64 n] w fun e w' => e = .returned (.pointer (some ⟨w.heap.size + 1, 0, none⟩)) ∧ Below w.heap.size w w' ∧
      Que w' (w.heap.size + 1) w.heap.size (.slice none 0 0) (QS.new n) := by
  have hmm := @run_makeMap Try.prog
  have hb : ∀ l, limOf n = l → Below w.heap.size w ((w.alloc (.map #[] 0)).alloc (.cells #[.int .u64 l, .slice none 0 0, .map (some w.heap.size), .int .i64 0, .int .u64 0] 57)) := fun l _ => ((Below.refl _ _).alloc (Nat.le_refl _) _).alloc (by simp) _
  have hb' := Lib.hid hb; clear hb
  by_cases hn : n < 4611686018427387904
  · go_enter Try.func8, Try.ntmps8
    go_wp2
    go_ret
    exact ⟨rfl, hb'.out _ (by unfold limOf; rw [if_pos hn]), que_made w n _ (by unfold limOf; rw [if_pos hn])⟩
  · by_cases hn2 : 4611686018427387904 < n
    · go_enter Try.func8, Try.ntmps8
      go_wp2
      go_ret
      exact ⟨rfl, hb'.out _ (by unfold limOf; rw [if_neg (by omega)]), que_made w n _ (by unfold limOf; rw [if_neg (by omega)])⟩
    · obtain rfl : n = 4611686018427387904 := by omega
      go_enter Try.func8, Try.ntmps8
      go_wp2
      go_ret
      exact ⟨rfl, hb'.out _ (by unfold limOf; rw [if_neg (by omega)]), que_made w _ _ (by unfold limOf; rw [if_neg (by omega)])⟩

theorem there_ok (w : World) (q b : Nat) (h2 : w.cell? ⟨q, 2, none⟩ = some (.map (some b))) :
    Calls Try.prog 29 #[.pointer (some ⟨q, 0, none⟩)] w fun e w' => e = .returned (.bool true) ∧ w = w' := by
  have qT := fun (w : World) (r : Option Nat) => run_neq_map_nil (P := Try.prog) (w := w) _ _ _ r Try.underlying55
  go_enter Try.func29, Try.ntmps29
  go_wp2
  go_ret
  exact ⟨rfl, rfl⟩

theorem fresh_any (w : World) (q : Nat) (l id : Int) (h4 : w.cell? ⟨q, 4, none⟩ = some (.int .u64 l)) :
    Calls Try.prog 30 #[.pointer (some ⟨q, 0, none⟩), .int .u64 id] w fun e w' => e = .returned (.bool (decide (l < id))) ∧ w = w' := by
  go_enter Try.func30, Try.ntmps30
  go_wp2
  go_ret
  exact ⟨rfl, rfl⟩

set_option maxHeartbeats 800000 in
theorem room_any (w : World) (q b : Nat) (v : Value) (s : QS) (h : Que w q b v s) (ho : QOk s) :
    Calls Try.prog 28 #[.pointer (some ⟨q, 0, none⟩)] w fun e w' => e = .returned (.int .u64 (s.limit - (s.ids.length + s.kept))) ∧ Below w.heap.size w w' := by
  have c0 := h.c0
  have c1 := h.c1
  have c2 := h.c2
  have c3 := h.c3
  obtain ⟨a, cap, rfl, hm⟩ := h.slc.len
  have l0 := ho.lim.1
  have l1 := ho.lim.2
  have k0 := ho.kept
  have k1 := ho.room
  unfold maxLen at hm
  clear h ho
  go_enter Try.func28, Try.ntmps28
  go_wp2_with (first | (go_at_call 29; refine (there_ok _ _ _ c2).mono ?_; rintro e w' ⟨rfl, rfl⟩))
  go_quiet (fail)
  go_wp2
  go_quiet (fail)
  go_wp2
  go_ret
  exact ⟨rfl, below_drewN (below_drewN (Below.refl _ _) _) _⟩

theorem kept_any (w : World) (q b : Nat) (v : Value) (s : QS) (h : Que w q b v s) :
    Calls Try.prog 27 #[.pointer (some ⟨q, 0, none⟩)] w fun e w' => e = .returned (.int .i64 s.kept) ∧ w = w' := by
  have c2 := h.c2
  have c3 := h.c3
  clear h
  go_enter Try.func27, Try.ntmps27
  go_wp2_with (first | (go_at_call 29; refine (there_ok _ _ _ c2).mono ?_; rintro e w' ⟨rfl, rfl⟩))
  go_ret
  exact ⟨rfl, rfl⟩

theorem HeldM.len (m : HeldM w b s.own s.cnt) (ty : TypeId) : (Builtin.len_ #[55] ty #[.map (some b)]).run Try.prog w = .ok (.int .i64 s.cnt) w := by
  obtain ⟨D, h1, h2, _⟩ := m
  rw [← h2]
  exact h1.len heldT.ht ty

set_option maxHeartbeats 800000 in
theorem ready_any (w : World) (q b : Nat) (v : Value) (s : QS) (h : Que w q b v s) (ho : QOk s) :
    Calls Try.prog 12 #[.pointer (some ⟨q, 0, none⟩)] w fun e w' => e = .returned (.int .i64 (s.ids.length - s.cnt)) ∧ Below w.heap.size w w' := by
  have c1 := h.c1
  have c2 := h.c2
  have hlen := fun (n : Nat) ty => HeldM.len (h.2.2.1.keep (w' := w.drewN n) rfl) ty
  obtain ⟨a, cap, rfl, hm⟩ := h.slc.len
  have k1 := ho.le
  unfold maxLen at hm
  clear h ho
  go_enter Try.func12, Try.ntmps12
  go_wp2_with (first | (go_at_call 29; refine (there_ok _ _ _ c2).mono ?_; rintro e w' ⟨rfl, rfl⟩))
  go_quiet (fail)
  go_wp2
  go_ret
  exact ⟨rfl, below_drewN (Below.refl _ _) _⟩

end Go.Proofs.Ytnmphchlephpbaa
