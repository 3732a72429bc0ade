/- The law's tells. Conditions: as for the pair. -/
import Derived.Test.YtnmphchlephpbaaQueueW
namespace Go.Proofs.Ytnmphchlephpbaa
open Go.RowKit
variable {X : Nat → Prop} {w w' : World} {q p : Nat} {s t s' : QS}

theorem below_drew (w : World) : Below w.heap.size w w.drew := ⟨rfl, rfl, rfl, Nat.le_refl _, fun _ _ => rfl⟩

/-- What tells answers. -/
def TellPost (w : World) (e : Ending) (w' : World) : Prop := e = .returned (.bool true) ∧ Below w.heap.size w w'

set_option maxRecDepth 100000 in
set_option maxHeartbeats 4000000 in
theorem tells_any (w : World) (h : PairS X w q p s s) (hL : s.ids.length ≤ 1000) :
    Calls Try.prog 18 #[.pointer (some ⟨q, 0, none⟩), .pointer (some ⟨p, 0, none⟩)] w (TellPost w) := by
  have hok := h.ok
  have hL' : s.ids.length ≤ 1000000 := by omega
  have hz := of0_len hok
  have hzb : ((s.ids.length : Int) - s.cnt != ((s.of 0).length : Int)) = false := by rw [hz]; simp
  clear hz
  have hcl := hok.le
  obtain ⟨u, hr⟩ := h.p1
  have hpl := hr.1.lt
  have kk := hr.c2
  have B0 := below_drew w
  have k0 : w.drew.cell? ⟨p, 2, none⟩ = some (.int .i64 s.kept) := kk
  have P0 := h.drew
  have hok' := Lib.hid hok
  obtain ⟨ua, uc, rfl, hum⟩ := hr.slc.len
  rw [msgs_len] at hr hum
  unfold maxLen at hum
  have hr' := Lib.hid hr; clear hr
  have hP := Lib.hid h; clear h
  go_enter Try.func18, Try.ntmps18
  go_wp2
  go_region_held3 (fun w' => Below w.heap.size w w' ∧ w'.cell? ⟨p, 2, none⟩ = some (.int .i64 s.kept)) (first | exact ⟨B9, k9⟩ | exact ⟨B8, k8⟩ | exact ⟨B7, k7⟩ | exact ⟨B6, k6⟩ | exact ⟨B5, k5⟩ | exact ⟨B4, k4⟩ | exact ⟨B3, k3⟩ | exact ⟨B2, k2⟩ | exact ⟨B1, k1⟩ | exact ⟨B0, k0⟩)
    (first
      | (go_at_call 14; refine (pq_all P0 hL').mono ?_; rintro e w1 ⟨r1, rfl, z1, b1⟩; have P1 := P0.pure b1; have k1 := (b1.cell (p := ⟨p, 2, none⟩) hpl).trans k0; have B1 := B0.trans (b1.mono B0.size); have l1 := Nat.lt_of_lt_of_le hpl B1.size; clear b1)
      | (go_at_call 45; refine (pr_all P1 hL').mono ?_; rintro e w2 ⟨r2, rfl, z2, b2⟩; have P2 := P1.pure b2; have z12 := z1.pure b2; have k2 := (b2.cell (p := ⟨p, 2, none⟩) l1).trans k1; have B2 := B1.trans (b2.mono B1.size); have l2 := Nat.lt_of_lt_of_le hpl B2.size; clear b2 z1)
      | (go_at_call 15; refine (same_any _ _ _ _ _ z12 z2).mono ?_; rw [decide_eq_true rfl]; rintro e w3 ⟨rfl, b3⟩; have P3 := P2.pure b3; have k3 := (b3.cell (p := ⟨p, 2, none⟩) l2).trans k2; have B3 := B2.trans (b3.mono B2.size); have l3 := Nat.lt_of_lt_of_le hpl B3.size; clear b3 z12 z2)
      | (go_at_call 12; refine (pq_ready P3).mono ?_; rintro e w4 ⟨rfl, b4⟩; have P4 := P3.pure b4; have k4 := (b4.cell (p := ⟨p, 2, none⟩) l3).trans k3; have B4 := B3.trans (b4.mono B3.size); have l4 := Nat.lt_of_lt_of_le hpl B4.size; clear b4)
      | (go_at_call 46; refine (pr_of P4 hL').mono ?_; rintro e w5 ⟨r5, rfl, z5, b5⟩; have P5 := P4.pure b5; have k5 := (b5.cell (p := ⟨p, 2, none⟩) l4).trans k4; have B5 := B4.trans (b5.mono B4.size); have l5 := Nat.lt_of_lt_of_le hpl B5.size; clear b5; obtain ⟨ra, rc, rfl, -⟩ := z5.len; clear z5)
      | (go_at_call 27; refine (pq_kept P5).mono ?_; rintro e w6 ⟨rfl, rfl⟩)
      | (go_at_call 28; refine (pq_room P5).mono ?_; rintro e w7 ⟨rfl, b7⟩; have P7 := P5.pure b7; have k7 := (b7.cell (p := ⟨p, 2, none⟩) l5).trans k5; have B7 := B5.trans (b7.mono B5.size); have l7 := Nat.lt_of_lt_of_le hpl B7.size; clear b7)
      | (go_at_call 47; refine (pr_room P7 hok).mono ?_; rintro e w8 ⟨rfl, b8⟩; have P8 := P7.pure b8; have k8 := (b8.cell (p := ⟨p, 2, none⟩) l7).trans k7; have B8 := B7.trans (b8.mono B7.size); have l8 := Nat.lt_of_lt_of_le hpl B8.size; clear b8)
      | (go_at_call 16; refine (pq_of0 P8).mono ?_; rintro e w9 ⟨rfl, rfl⟩))
  clear P0 P1 P2 P3 P4 P5 P7 P8 B0 B1 B2 B3 B4 B5 B7 k0 k1 k2 k3 k4 k5 k7 k8 kk hzb l1 l2 l3 l4 l5 l7 l8
  go_wp2
  go_loopw [5] (fun s5 wr => ∃ k : Nat, k ≤ s.ids.length ∧ s5 = .int .i64 k ∧ Below w.heap.size w wr) (fun s5 _ => s.ids.length - (intOf s5).toNat)
  case atStart => exact ⟨0, by omega, rfl, B8⟩
  case round =>
    clear B8
    obtain ⟨k, hk, rfl, hB⟩ := hrel
    have hh := hr'.out.pure hB
    have d1 := hh.c1
    have PP := hP.out.pure hB
    have hBs := hB.size
    by_cases hlt : k < s.ids.length
    · have hs := hh.slc
      obtain ⟨g, off, rfl⟩ := msgs_addr hs hlt
      obtain ⟨m0, m1⟩ := msg_cells hs hlt
      simp only [Nat.add_zero] at m0
      have hmem : s.ids[k] ∈ s.ids := List.getElem_mem hlt
      have how : s.owner s.ids[k] = ((s.own s.ids[k]).getD 0, 0) := by unfold QS.owner; rw [if_pos hmem]
      have hid : u64ok s.ids[k] := ⟨by have := (hok'.out.ok _ hmem).1; omega, by have := (hok'.out.ok _ hmem).2; have := hok'.out.last.2; omega⟩
      have hc := pq_owner PP hL' hid
      rw [how] at hc
      have hg0 : 0 ≤ (s.own s.ids[k]).getD 0 := by
        cases hoo : s.own s.ids[k] with
        | none => simp
        | some o => have := hok'.out.pos _ _ hoo; simp; omega
      obtain ⟨o, ho⟩ : ∃ o, o = (s.own s.ids[k]).getD 0 := ⟨_, rfl⟩
      rw [← ho] at hc m1 hg0
      have hob : (o != o) = false := by simp
      clear ho how hmem hid hh hs
      by_cases h0 : 0 < o
      · go_wp2_with (first | (go_at_call 11; refine hc.mono ?_; clear hc; rintro e w' ⟨rfl, rfl⟩) | (go_at_call 16; refine (pq_of PP hL' h0).mono ?_; rintro e w1 ⟨r1, rfl, z1, b1⟩; have P1 := PP.pure b1; have B1 := hB.trans (b1.mono hB.size); clear b1) | (go_at_call 46; refine (pr_of P1 hL').mono ?_; rintro e w2 ⟨r2, rfl, z2, b2⟩; have z12 := z1.pure b2; have B2 := B1.trans (b2.mono B1.size); clear b2 z1 B1) | (go_at_call 15; refine (same_any _ _ _ _ _ z12 z2).mono ?_; rw [decide_eq_true rfl]; rintro e w3 ⟨rfl, b3⟩; have B3 := B2.trans (b3.mono B2.size); clear b3 z12 z2))
        go_roundw
        case rel => exact ⟨k + 1, by omega, by go_num, B3⟩
        case measure => simp [intOf]; omega
      · go_wp2_with (first | (go_at_call 11; refine hc.mono ?_; clear hc; rintro e w' ⟨rfl, rfl⟩))
        go_roundw
        case rel => exact ⟨k + 1, by omega, by go_num, hB⟩
        case measure => simp [intOf]; omega
    · go_wp2
      go_ret
      exact ⟨rfl, hB⟩
end Go.Proofs.Ytnmphchlephpbaa
