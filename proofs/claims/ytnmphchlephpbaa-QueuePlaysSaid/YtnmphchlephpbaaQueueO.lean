/- The document's queue: Next, Of, All. Conditions: as for its memory. -/
import Derived.Test.YtnmphchlephpbaaQueueN
namespace Go.Proofs.Ytnmphchlephpbaa
open Go.RowKit
variable {w w' : World} {p : Nat} {v : Value} {s : QS}

theorem free_iff {s : QS} (ho : QOk s) (x : Int) : ((s.own x).getD 0 == 0) = (s.own x).isNone := by
  cases h : s.own x with
  | none => rfl
  | some o => have := ho.pos x o h; simp; omega

set_option maxHeartbeats 1600000 in
theorem ref_next (w : World) (p : Nat) (v : Value) (s : QS) (o : Int) (h : RefQ w p v s) (ho : QOk s) (hL : s.ids.length ≤ 1000000) (h0 : 0 < o) :
    Calls Try.prog 40 #[.pointer (some ⟨p, 0, none⟩), .int .u64 o] w fun e w' =>
      (s.nextAt = none ∧ e = .returned (.tuple #[.int .u64 0, .bool false]) ∧ w = w') ∨
      ∃ k, s.nextAt = some k ∧ ∃ hk : k < s.ids.length, e = .returned (.tuple #[.int .u64 s.ids[k], .bool true]) ∧ RStep w w' p v (s.setOwn s.ids[k] o) := by
  have c1 := h.c1
  have hs := h.slc
  have h' := Lib.hid h
  have ho' := Lib.hid ho
  rcases h.2.1.cases with ⟨rfl, hnil⟩ | ⟨g, cap, rfl, -, -, -, hmx⟩
  · have hl0 : s.ids.length = 0 := by rw [← msgs_len, hnil]; rfl
    have hnone : s.nextAt = none := by unfold QS.nextAt; rw [List.eq_nil_of_length_eq_zero hl0]; rfl
    have hnone' := Lib.hid hnone; clear hnone
    clear h hs hnil
    go_enter Try.func40, Try.ntmps40
    go_wp2
    go_loop [6] (fun s6 => s6 = .int .i64 0) (fun _ => 0)
    case atStart => exact rfl
    case round =>
      obtain rfl := hrel
      go_wp2
      go_ret2
      exact .inl ⟨hnone'.out, rfl, rfl⟩
  · rw [msgs_len] at *
    unfold maxLen at hmx
    have hfz : ∀ j, w.frozen? ⟨g, j, none⟩ = false := fun j => Own.frozen h.2.1 j
    have hcap : s.ids.length ≤ 1000000 := hL
    have hgp : ¬ g = p := fun e => h.2.2 (by rw [← e]; rfl)
    have hpg : ¬ p = g := fun e => hgp e.symm
    clear h ho
    go_enter Try.func40, Try.ntmps40
    go_wp2
    go_loop [6] (fun s6 => ∃ k : Nat, k ≤ s.ids.length ∧ s6 = .int .i64 k ∧ (s.ids.take k).findIdx? (fun i => (s.own i).isNone) = none) (fun s6 => s.ids.length - (intOf s6).toNat)
    case atStart => exact ⟨0, by omega, rfl, by simp⟩
    case round =>
      obtain ⟨k, hk, rfl, hno⟩ := hrel
      have hno' := Lib.hid hno; clear hno
      by_cases hlt : k < s.ids.length
      · obtain ⟨d0, d1⟩ := msg_cells hs hlt
        simp only [Nat.add_zero, Nat.zero_add] at d0 d1
        have hfi := free_iff ho'.out s.ids[k]
        have f1 := hfz (k * 2 + 1)
        cases hq : (s.own s.ids[k]).isNone
        · rw [hq] at hfi
          have hq' := Lib.hid hq
          clear hq
          go_wp2
          go_round
          case rel => exact ⟨k + 1, by omega, by go_num, findP_no hlt hno'.out hq'.out⟩
          case measure => simp [intOf]; omega
        · rw [hq] at hfi
          have hq' := Lib.hid hq
          clear hq
          go_wp2
          go_ret2
          refine .inr ⟨k, ?_, hlt, rfl, ref_set h'.out ho'.out.rise hlt o⟩
          unfold QS.nextAt
          exact findP_yes (p := fun i => (s.own i).isNone) hlt hno'.out hq'.out
      · go_wp2
        go_ret2
        have : k = s.ids.length := by omega
        subst this
        refine .inl ⟨?_, rfl, rfl⟩
        have := hno'.out
        rw [List.take_length] at this
        exact this

end Go.Proofs.Ytnmphchlephpbaa
