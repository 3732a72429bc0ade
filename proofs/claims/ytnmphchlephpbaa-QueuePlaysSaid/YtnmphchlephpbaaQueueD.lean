/- Package queue, fourth part: Owner, by, must, Free, Next. Conditions: the queue's memory as 'Que' says; what 'QOk' says. -/
import Derived.Test.YtnmphchlephpbaaQueueC
namespace Go.Proofs.Ytnmphchlephpbaa
open Go.RowKit
variable {w w' : World} {q b : Nat} {v : Value} {s : QS}

theorem held_field (a : Int) (w : World) : (Instr.field 66 (.agg #[.int .u64 a]) 0).run Try.prog w = .ok (.int .u64 a) w := by kernel_rfl

def QS.owner (s : QS) (id : Int) : Int × Int := if id ∈ s.ids then ((s.own id).getD 0, 0) else (0, 7)

set_option maxHeartbeats 800000 in
theorem owner_any (w : World) (q b : Nat) (v : Value) (s : QS) (id : Int) (h : Que w q b v s) (ho : QOk s) (hL : s.ids.length ≤ 1000000) (hid : u64ok id) :
    Calls Try.prog 11 #[.pointer (some ⟨q, 0, none⟩), .int .u64 id] w fun e w' => e = .returned (.tuple #[.int .u64 (s.owner id).1, .int .i64 (s.owner id).2]) ∧ w = w' := by
  have c1 := h.c1
  have c2 := h.c2
  have ha := at_any w v s.ids id ho.rise hL h.slc
  have hm := h.2.2.1
  clear h ho
  unfold QS.owner
  by_cases hi : id ∈ s.ids
  · rw [if_pos hi]
    rw [decide_eq_true hi] at ha
    clear hi
    have hfd := held_field
    go_enter Try.func11, Try.ntmps11
    go_wp2_with (first | (go_at_call 29; refine (there_ok _ _ _ c2).mono ?_; rintro e w' ⟨rfl, rfl⟩) | (go_at_call 32; refine ha.mono ?_; clear ha; rintro e w' ⟨i, -, rfl, rfl⟩) | (at_lookup; refine wpList_lookG _ heldT rfl _ _ rfl rfl hm id rfl hid ?_))
    go_ret2
    exact ⟨rfl, rfl⟩
  · rw [if_neg hi]
    rw [decide_eq_false hi] at ha
    clear hi
    go_enter Try.func11, Try.ntmps11
    go_wp2_with (first | (go_at_call 29; refine (there_ok _ _ _ c2).mono ?_; rintro e w' ⟨rfl, rfl⟩) | (go_at_call 32; refine ha.mono ?_; clear ha; rintro e w' ⟨i, -, rfl, rfl⟩))
    go_ret2
    exact ⟨rfl, rfl⟩

theorem by_any (w : World) (o : Int) :
    Calls Try.prog 34 #[.int .u64 o] w fun e w' => e = .returned (.func (.func 51) #[] #[.pointer (some ⟨w.heap.size, 0, none⟩)]) ∧ Below w.heap.size w w' ∧ w'.cell? ⟨w.heap.size, 0, none⟩ = some (.int .u64 o) := by
  go_enter Try.func34, Try.ntmps34
  go_wp2
  go_ret
  exact ⟨rfl, (Below.refl _ _).alloc (Nat.le_refl _) _, (Blk.new w [.int .u64 o] _).cell 0⟩

theorem by1_any (w : World) (h o : Int) (is : Bool) (B : Nat) (hb : w.cell? ⟨B, 0, none⟩ = some (.int .u64 o)) :
    Calls Try.prog 51 #[.agg #[.int .u64 h], .bool is, .pointer (some ⟨B, 0, none⟩)] w fun e w' => e = .returned (.bool (is && h == o)) ∧ Below w.heap.size w w' := by
  have hbl := World.block_lt_of_cell? w _ hb
  cases is
  · go_enter Try.func51, Try.ntmps51
    go_wp2
    go_ret
    exact ⟨rfl, (Below.refl _ _).alloc (Nat.le_refl _) _⟩
  · go_enter Try.func51, Try.ntmps51
    go_wp2
    go_ret
    exact ⟨rfl, (Below.refl _ _).alloc (Nat.le_refl _) _⟩

/-- What must says of 'by owner'. -/
def QS.must (s : QS) (id o : Int) : Int := if id ∈ s.ids then (if ((s.own id).isSome && (s.own id).getD 0 == o) then 0 else 9) else 7

set_option maxHeartbeats 800000 in
theorem must_by (w : World) (q b : Nat) (v : Value) (s : QS) (id o : Int) (B : Nat) (h : Que w q b v s) (ho : QOk s) (hL : s.ids.length ≤ 1000000) (hid : u64ok id) (hb : w.cell? ⟨B, 0, none⟩ = some (.int .u64 o)) :
    Calls Try.prog 33 #[.pointer (some ⟨q, 0, none⟩), .int .u64 id, .func (.func 51) #[] #[.pointer (some ⟨B, 0, none⟩)]] w fun e w' => e = .returned (.int .i64 (s.must id o)) ∧ Below w.heap.size w w' := by
  have c1 := h.c1
  have c2 := h.c2
  have ha := at_any w v s.ids id ho.rise hL h.slc
  have hm := h.2.2.1
  have hbl := World.block_lt_of_cell? w _ hb
  clear h ho
  unfold QS.must
  by_cases hi : id ∈ s.ids
  · rw [if_pos hi]
    rw [decide_eq_true hi] at ha
    clear hi
    have hB1 := (Below.refl _ w).alloc (Nat.le_refl _) (.cells #[.agg #[.int .u64 ((s.own id).getD 0)]] 66)
    cases hq : ((s.own id).isSome && (s.own id).getD 0 == o)
    · go_enter Try.func33, Try.ntmps33
      go_wp2_with (first | (go_at_call 32; refine ha.mono ?_; clear ha; rintro e w' ⟨i, -, rfl, rfl⟩) | (at_lookup; refine wpList_lookG_ok _ heldT rfl _ _ rfl rfl hm id rfl hid ?_) | (go_at_call 51; refine (by1_any _ _ o _ B ((((Below.refl _ _).alloc (Nat.le_refl _) _).cell (p := ⟨B, 0, none⟩) hbl).trans hb)).mono ?_; rw [hq]; rintro e w2 ⟨rfl, hB2⟩))
      go_ret
      exact ⟨rfl, ((Below.refl _ _).alloc (Nat.le_refl _) _).trans (hB2.mono (by simp))⟩
    · go_enter Try.func33, Try.ntmps33
      go_wp2_with (first | (go_at_call 32; refine ha.mono ?_; clear ha; rintro e w' ⟨i, -, rfl, rfl⟩) | (at_lookup; refine wpList_lookG_ok _ heldT rfl _ _ rfl rfl hm id rfl hid ?_) | (go_at_call 51; refine (by1_any _ _ o _ B ((((Below.refl _ _).alloc (Nat.le_refl _) _).cell (p := ⟨B, 0, none⟩) hbl).trans hb)).mono ?_; rw [hq]; rintro e w2 ⟨rfl, hB2⟩))
      go_ret
      exact ⟨rfl, ((Below.refl _ _).alloc (Nat.le_refl _) _).trans (hB2.mono (by simp))⟩
  · rw [if_neg hi]
    rw [decide_eq_false hi] at ha
    clear hi
    go_enter Try.func33, Try.ntmps33
    go_wp2_with (first | (go_at_call 32; refine ha.mono ?_; clear ha; rintro e w' ⟨i, -, rfl, rfl⟩))
    go_ret
    exact ⟨rfl, Below.refl _ _⟩

/-- Free: a message is ready again. -/
def QS.drop1 (s : QS) (id : Int) : QS := { s with own := fun i => if i = id then none else s.own i, cnt := if (s.own id).isSome then s.cnt - 1 else s.cnt }
def QS.free (s : QS) (id o : Int) : Int × QS := (s.must id o, if s.must id o = 0 then s.drop1 id else s)

/-- The map of a queue has turned. -/
theorem QStep.map {w w2 : World} {q b : Nat} {v : Value} {s : QS} {own : Int → Option Int} {cnt : Nat} (h : Que w q b v s) (hm : HeldM w2 b own cnt) (hg : w.grownBy w2 (some b)) : QStep w w2 q b v { s with own := own, cnt := cnt } := by
  refine ⟨v, ⟨h.1.keep (hg.block q h.1.lt (fun e => h.2.2.2.2.2 (by injection e with e; exact e.symm))), h.2.1.keep (fun k hk hl => hg.block k hl (fun e => h.2.2.2.2.1 (hk.trans e))), hm, h.2.2.2⟩,
    Upd.grown (S := QueS q b v) hg (fun k hk => by injection hk with hk; exact .inr (.inl hk.symm)), fun k hk => .inl hk⟩

set_option maxHeartbeats 800000 in
theorem free_any (w : World) (q b : Nat) (v : Value) (s : QS) (id o : Int) (h : Que w q b v s) (ho : QOk s) (hL : s.ids.length ≤ 1000000) (hid : u64ok id) :
    Calls Try.prog 13 #[.pointer (some ⟨q, 0, none⟩), .int .u64 id, .int .u64 o] w fun e w' => e = .returned (.int .i64 (s.free id o).1) ∧ QStep w w' q b v (s.free id o).2 := by
  have c2 := h.c2
  unfold QS.free
  simp only
  have hmust := fun (w1 : World) (hB : Below w.heap.size w w1) B hb => must_by w1 q b v s id o B (h.pure hB) ho hL hid hb
  cases hz : decide (s.must id o = 0)
  · have hz' := of_decide_eq_false hz
    have hzb : (s.must id o == 0) = false := beq_eq_false_iff_ne.2 hz'
    rw [if_neg hz']
    clear hz hz' ho
    go_enter Try.func13, Try.ntmps13
    go_wp2_with (first | (go_at_call 29; refine (there_ok _ _ _ c2).mono ?_; rintro e w' ⟨rfl, rfl⟩) | (go_at_call 34; refine (by_any _ _).mono ?_; rintro e w1 ⟨rfl, hB1, hb⟩) | (go_at_call 33; refine (hmust _ hB1 _ hb).mono ?_; rintro e w2 ⟨rfl, hB2⟩))
    go_ret
    exact ⟨rfl, v, h.pure (hB1.trans (hB2.mono hB1.size)), Upd.of_below (hB1.trans (hB2.mono hB1.size)), fun k hk => .inl hk⟩
  · have hz' := of_decide_eq_true hz
    rw [if_pos hz', hz']
    rw [hz'] at hmust
    clear hz hz' ho
    go_enter Try.func13, Try.ntmps13
    go_wp2_with (first | (go_at_call 29; refine (there_ok _ _ _ c2).mono ?_; rintro e w' ⟨rfl, rfl⟩) | (go_at_call 34; refine (by_any _ _).mono ?_; rintro e w1 ⟨rfl, hB1, hb⟩) | (go_at_call 33; refine (hmust _ hB1 _ hb).mono ?_; rintro e w2 ⟨rfl, hB2⟩; have hh := h.pure (hB1.trans (hB2.mono hB1.size)); have d2 := hh.c2; clear hmust) | (at_delete; refine wpList_delG _ heldT rfl _ _ rfl rfl hh.2.2.1 id rfl hid ?_; intro w3 hm3 hg3))
    go_ret
    exact ⟨rfl, (QStep.map hh hm3 hg3).of_below (hB1.trans (hB2.mono hB1.size))⟩

/-- Next. -/
def QS.nextAt (s : QS) : Option Nat := s.ids.findIdx? (fun i => (s.own i).isNone)
def QS.hold (s : QS) (id o : Int) : QS := { s with own := fun i => if i = id then some o else s.own i, cnt := if (s.own id).isSome then s.cnt else s.cnt + 1 }

set_option maxHeartbeats 1600000 in
theorem next_any (w : World) (q b : Nat) (v : Value) (s : QS) (o : Int) (h : Que w q b v s) (ho : QOk s) (hL : s.ids.length ≤ 1000000) (h0 : 0 < o) :
    Calls Try.prog 10 #[.pointer (some ⟨q, 0, none⟩), .int .u64 o] w fun e w' =>
      (s.nextAt = none ∧ e = .returned (.tuple #[.int .u64 0, .bool false]) ∧ Below w.heap.size w w') ∨
      ∃ k, s.nextAt = some k ∧ ∃ hk : k < s.ids.length, e = .returned (.tuple #[.int .u64 s.ids[k], .bool true]) ∧ QStep w w' q b v (s.hold s.ids[k] o) := by
  have c1 := h.c1
  have c2 := h.c2
  have ob : (o == 0) = false := beq_eq_false_iff_ne.2 (by omega)
  have hok : ∀ i ∈ s.ids, u64ok i := fun i hi => ⟨by have := (ho.ok i hi).1; omega, by have := (ho.ok i hi).2; have := ho.last.2; omega⟩
  have hcnt := ho.le
  have hql := h.1.lt
  have hok' := Lib.hid hok; clear hok ho
  have h' := Lib.hid h
  rcases h.slc with ⟨a, cap, rfl, _, hnil⟩ | ⟨g, off, cap, rfl, h2, h3, hc⟩
  · have hnone : s.nextAt = none := by unfold QS.nextAt; rw [hnil]; rfl
    clear hnil h
    go_enter Try.func10, Try.ntmps10
    go_wp2_with (first | (go_at_call 29; refine (there_ok _ _ _ c2).mono ?_; rintro e w' ⟨rfl, rfl⟩))
    go_loopw [22] (fun s22 wr => s22 = .int .i64 0 ∧ Below w.heap.size w wr) (fun _ _ => 0)
    case atStart => exact ⟨rfl, Below.refl _ _⟩
    case round =>
      obtain ⟨rfl, hB⟩ := hrel
      go_wp2
      go_ret2
      exact .inl ⟨hnone, rfl, hB⟩
  · unfold maxLen at h3
    clear h
    go_enter Try.func10, Try.ntmps10
    go_wp2_with (first | (go_at_call 29; refine (there_ok _ _ _ c2).mono ?_; rintro e w' ⟨rfl, rfl⟩))
    go_loopw [22] (fun s22 wr => ∃ k : Nat, k ≤ s.ids.length ∧ s22 = .int .i64 k ∧ Below w.heap.size w wr ∧ (s.ids.take k).findIdx? (fun i => (s.own i).isNone) = none) (fun s22 _ => s.ids.length - (intOf s22).toNat)
    case atStart => exact ⟨0, by omega, rfl, Below.refl _ _, by simp⟩
    case round =>
      obtain ⟨k, hk, rfl, hB, hno⟩ := hrel
      have hno' := Lib.hid hno; clear hno
      have hh := h'.out.pure hB
      have d2 := hh.c2
      by_cases hlt : k < s.ids.length
      · have c0 := hc k hlt 0 _ rfl
        have hgl := World.block_lt_of_cell? w _ c0
        have d0 := (hB.cell (p := ⟨g, off + k * 1 + 0, none⟩) hgl).trans c0
        clear c0 hc
        simp only [Nat.add_zero, Nat.mul_one] at d0
        have hki := hok'.out _ (List.getElem_mem hlt)
        have hB' := hB.trans (((Below.refl _ wr).alloc (Nat.le_refl _) (.cells #[.int .u64 ((s.own s.ids[k]).getD 0)] 66)).mono hB.size)
        have hm1 := hh.2.2.1.alloc (.cells #[.int .u64 ((s.own s.ids[k]).getD 0)] 66)
        have e2 := (hh.1.alloc (.cells #[.int .u64 ((s.own s.ids[k]).getD 0)] 66)).cell 2
        have hhB := Lib.hid hh
        cases hq : (s.own s.ids[k]).isNone
        · have hsome : (s.own s.ids[k]).isSome = true := by rw [← Option.not_isNone, hq]; rfl
          have hq' := Lib.hid hq; clear hq
          clear e2 hm1
          go_wp2_with (first | (at_lookup; refine wpList_lookG_ok _ heldT rfl _ _ rfl rfl hh.2.2.1 s.ids[k] rfl hki ?_; rw [hsome]))
          go_roundw
          case rel => exact ⟨k + 1, by omega, by go_num, hB', findP_no hlt hno'.out hq'.out⟩
          case measure => simp [intOf]; omega
        · have hsome : (s.own s.ids[k]).isSome = false := by rw [← Option.not_isNone, hq]; rfl
          have hq' := Lib.hid hq; clear hq
          go_wp2_with (first | (at_lookup; refine wpList_lookG_ok _ heldT rfl _ _ rfl rfl hh.2.2.1 s.ids[k] rfl hki ?_; rw [hsome]) | (at_mapUpdate; refine wpList_putG _ heldT rfl _ _ _ rfl rfl hm1 (by unfold maxLen; omega) s.ids[k] o rfl rfl hki ?_; intro w3 hm3 hg3))
          go_ret2
          refine .inr ⟨k, ?_, hlt, rfl, ?_⟩
          · unfold QS.nextAt; exact findP_yes (p := fun i => (s.own i).isNone) hlt hno'.out hq'.out
          · exact (QStep.map (hhB.out.pure ((Below.refl _ _).alloc (Nat.le_refl _) _)) hm3 hg3).of_below hB'
      · go_wp2
        go_ret2
        have : k = s.ids.length := by omega
        subst this
        refine .inl ⟨?_, rfl, hB⟩
        have := hno'.out
        rw [List.take_length] at this
        exact this

end Go.Proofs.Ytnmphchlephpbaa
