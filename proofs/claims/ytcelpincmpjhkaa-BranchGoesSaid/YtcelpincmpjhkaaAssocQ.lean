/- Document's side of chapter 18: posthouseref18.Check. Conditions: at most a million. Written by gen_rcheck18.py. -/
import Derived.Test.YtcelpincmpjhkaaGJ
namespace Go.Proofs.Ytcelpincmpjhkaa
set_option linter.unusedSimpArgs false
set_option linter.unusedVariables false
open Go.RowKit

/-- How the round at k goes, by pairs. -/
theorem row_at2 {L : List Asc} {k : Nat} (h : k < L.length) (hr : RowA (L.take k)) : RowA (L.take (k + 1)) ↔ L[k].1 ≠ 0 ∧ XidOk L[k].2.1 ∧ (∀ hk : 0 < k, cmpA (L[k - 1]'(by omega)) L[k] < 0) ∧ ∀ j, (hj : j < k) → (L[j]'(by omega)).1 = L[k].1 → (L[j]'(by omega)).2.2 = true ∨ L[k].2.2 = true := by
  constructor
  · intro h2
    have h3 := (row_at h hr).1 h2
    refine ⟨h3.1, h3.2.1, h3.2.2.1, fun j hj he => ?_⟩
    have h4 := List.pairwise_iff_getElem.1 h2.2 j k (by simp; omega) (by simp; omega) hj
    simp only [List.getElem_take] at h4
    exact h4.2 he
  · rintro ⟨h1, h2, h3, h4⟩
    refine (row_at h hr).2 ⟨h1, h2, h3, ?_⟩
    by_cases hz : L[k].2.2 = true
    · exact .inl hz
    · right
      intro he
      rcases actFrom_cases (L.take k) 0 with hq | ⟨b, hb, hbz, hq⟩
      · exact h1 (he.trans hq)
      · obtain ⟨i, hi, rfl⟩ := List.getElem_of_mem hb
        have hik : i < k := by simp at hi; omega
        simp only [List.getElem_take] at hbz hq
        rcases h4 i hik (hq.symm.trans he.symm) with h5 | h5
        · rw [hbz] at h5; cases h5
        · exact hz h5
theorem slc_drewN {α : Type} {enc : α → List Value} {m : Nat} {w : World} {v : Value} {L : List α} (h : Slc enc m w v L) (n : Nat) : Slc enc m (w.drewN n) v L := h.pure (below_drewN (Below.refl _ _) n)
theorem cmpA_lt {a b : Asc} : cmpA a b < 0 ↔ a.1 < b.1 ∨ (a.1 = b.1 ∧ signX a.2.1 b.2.1 < 0) := by
  unfold cmpA keyC lexC thenC keyA signX
  by_cases h : a.1 = b.1
  · have h0 : cmpI a.1 b.1 = 0 := (cmpI_ok.eq _ _).2 h
    simp only [h0]
    have : cmpI b.1 b.1 = 0 := (cmpI_ok.eq _ _).2 rfl
    simp only [ne_eq, not_true, if_false, h, true_and, Int.lt_irrefl, false_or]
    split
    · rename_i h1; rw [h1]
    · split
      · rename_i h2; simp [h2]
      · rename_i h2; simp [h2]
  · have h0 : cmpI a.1 b.1 ≠ 0 := fun e => h ((cmpI_ok.eq _ _).1 e)
    simp only [ne_eq, h0, not_false_eq_true, if_true, cmpI_neg, h, false_and, or_false]

set_option maxRecDepth 100000 in
set_option maxHeartbeats 4000000 in
theorem rcheck_any (w : World) (v : Value) (L : List Asc) (hs : Slc ascEnc 5 w v L) (hL : L.length ≤ 1000000) :
    Calls Try.prog 75 #[v] w fun e w' => e = .returned (.int .i64 (rowE L)) ∧ Below w.heap.size w w' := by
  obtain ⟨a, cap, rfl, hm⟩ := hs.len
  unfold maxLen at hm
  go_enter Try.func75, Try.ntmps75
  go_wp2
  go_loopw [3] (fun s3 wr => ∃ k : Nat, k ≤ L.length ∧ s3 = .int .i64 k ∧ RowA (L.take k) ∧ Below w.heap.size w wr) (fun s3 _ => L.length - (intOf s3).toNat)
  case atStart => exact ⟨0, by omega, rfl, by simpa using RowA.nil, Below.refl _ _⟩
  case round =>
    obtain ⟨k, hk, rfl, hR, hB⟩ := hrel
    have hBs := hB.size
    by_cases hlt : k < L.length
    · have hra := Lib.hid (row_at2 hlt hR)
      have hR' := Lib.hid hR
      have hbad := Lib.hid (fun h => rowE_no (row_bad hlt h))
      clear hR
      have hsr := hs.pure hB
      obtain ⟨g, off, rfl⟩ := hsr.addr hlt
      obtain ⟨c0, c1, c2, c3, c4⟩ := asc_cells hsr hlt
      obtain ⟨wo, hwo⟩ : ∃ wo : World, wo = wr := ⟨_, rfl⟩
      subst hwo
      by_cases hz0 : L[k].1 = 0
      · have hzb : (L[k].1 == 0) = true := by rw [hz0]; rfl
        have hno := Lib.hid (hbad.out (fun h => (hra.out.1 h).1 hz0))
        clear hz0
        go_wp2
        go_ret
        exact ⟨by rw [hno.out]; rfl, hB⟩
      · have hzb : (L[k].1 == 0) = false := beq_eq_false_iff_ne.2 hz0
        have hz' := Lib.hid hz0; clear hz0
        by_cases hx : XidOk L[k].2.1
        · have hxv := Lib.hid (show (if XidOk L[k].2.1 then (0 : Int) else 40) = 0 from if_pos hx)
          have hxs := hx
          have hx' := Lib.hid hx; clear hx
          obtain ⟨hx1, hx2, hx3⟩ := hxs
          by_cases hk0 : k = 0
          · have hkz : decide (0 < k) = false := decide_eq_false (by omega)
            have hkz2 : decide ((0 : Int) < (k : Int)) = false := decide_eq_false (by omega)
            have hk0' := Lib.hid hk0; clear hk0
            go_wp2_with (go_at_call 73; refine (rcheck4 _ L[k].2.1 _ hxv.out).mono ?_; rintro e w1 ⟨rfl, hB1⟩; have hs1 := hsr.pure hB1; have hT1 := hB.trans (hB1.mono hBs); obtain ⟨d0, d1, d2, d3, d4⟩ := asc_cells hs1 hlt)
            go_quiet (fail)
            go_wp2
            go_loopw [4] (fun s4 wr => ∃ j : Nat, j ≤ k ∧ s4 = .int .i64 j ∧ (∀ i, (hi : i < j) → (hk : i < L.length) → L[i].1 = L[k].1 → L[i].2.2 = true ∨ L[k].2.2 = true) ∧ Below w.heap.size w wr ∧ Slc ascEnc 5 wr (.slice (some ⟨g, off, none⟩) L.length cap) L) (fun s4 _ => k - (intOf s4).toNat)
            case atStart => exact ⟨0, by omega, rfl, fun i hi => absurd hi (by omega), below_drewN hT1 _, slc_drewN hs1 _⟩
            case round =>
              obtain ⟨j, hj, rfl, hP, hT, hsj⟩ := hrel
              have hP' := Lib.hid hP; clear hP
              by_cases hjk : j < k
              · have hjl : j < L.length := by omega
                have ij0 : (0 : Int) ≤ (j : Int) ∧ (j : Int) < (L.length : Int) := by omega
                have ik0 : (0 : Int) ≤ (k : Int) ∧ (k : Int) < (L.length : Int) := by omega
                obtain ⟨x0, x1, x2, x3, x4⟩ := asc_cells hsj hjl
                obtain ⟨y0, y1, y2, y3, y4⟩ := asc_cells hsj hlt
                have hstep := Lib.hid (fun (hq : L[j].1 = L[k].1 → L[j].2.2 = true ∨ L[k].2.2 = true) => show (∀ i, (hi : i < j + 1) → (hk : i < L.length) → L[i].1 = L[k].1 → L[i].2.2 = true ∨ L[k].2.2 = true) from fun i hi hk => by
                  rcases Nat.lt_or_ge i j with h | h
                  · exact hP'.out i h hk
                  · obtain rfl : i = j := by omega
                    exact hq)
                by_cases hse : L[j].1 = L[k].1
                · have hseb : (L[j].1 == L[k].1) = true := by rw [hse]; simp
                  have hse' := Lib.hid hse; clear hse
                  obtain ⟨z1, hz1⟩ : ∃ z, L[j].2.2 = z := ⟨_, rfl⟩
                  cases z1
                  · obtain ⟨z2, hz2⟩ : ∃ z, L[k].2.2 = z := ⟨_, rfl⟩
                    cases z2
                    · have hno := Lib.hid (hbad.out (fun h => by have := (hra.out.1 h).2.2.2 j hjk hse'.out; rw [hz1, hz2] at this; simp at this))
                      rw [hz1] at x4
                      rw [hz2] at y4
                      clear hz1 hz2
                      go_wp2
                      go_quiet (fail)
                      go_wp2
                      go_ret
                      exact ⟨by rw [hno.out]; rfl, below_drewN hT _⟩
                    · have hst := Lib.hid (hstep.out (fun _ => Or.inr hz2))
                      rw [hz1] at x4
                      rw [hz2] at y4
                      clear hz1 hz2
                      go_wp2
                      go_quiet (fail)
                      go_wp2
                      go_roundw
                      case rel => exact ⟨j + 1, by omega, by go_num, hst.out, below_drewN hT _, slc_drewN hsj _⟩
                      case measure => simp [intOf]; omega
                  · have hst := Lib.hid (hstep.out (fun _ => Or.inl hz1))
                    rw [hz1] at x4
                    clear hz1
                    go_wp2
                    go_quiet (fail)
                    go_wp2
                    go_roundw
                    case rel => exact ⟨j + 1, by omega, by go_num, hst.out, below_drewN hT _, slc_drewN hsj _⟩
                    case measure => simp [intOf]; omega
                · have hseb : (L[j].1 == L[k].1) = false := beq_eq_false_iff_ne.2 hse
                  have hst := Lib.hid (hstep.out (fun h => absurd h hse))
                  clear hse
                  go_wp2
                  go_quiet (fail)
                  go_wp2
                  go_roundw
                  case rel => exact ⟨j + 1, by omega, by go_num, hst.out, below_drewN hT _, slc_drewN hsj _⟩
                  case measure => simp [intOf]; omega
              · obtain rfl : j = k := by omega
                have hok := Lib.hid (hra.out.2 ⟨hz'.out, hx'.out, fun hk => absurd hk (by have := hk0'.out; omega), fun i hi => hP'.out i hi (by omega)⟩)
                go_wp2
                go_roundw
                case rel => exact ⟨j + 1, by omega, by go_num, hok.out, hT⟩
                case measure => simp [intOf]; omega
          · have hk1 : k - 1 < L.length := by omega
            have hkp : 0 < k := by omega
            have hkz : decide (0 < k) = true := decide_eq_true (by omega)
            have hk1i : (1 : Int) ≤ (k : Int) := by omega
            have hm0 : (0 : Int) ≤ (k : Int) - 1 := by omega
            have hm1 : (k : Int) - 1 < (L.length : Int) := by omega
            have ik0 : (0 : Int) ≤ (k : Int) ∧ (k : Int) < (L.length : Int) := by omega
            have hmn : ((k : Int) - 1).toNat = k - 1 := by omega
            have hmw : IntKind.i64.wrap ((k : Int) - 1) = (k : Int) - 1 := IntWalk.i64_in _ (by omega)
            have hpx := Lib.hid (hR'.out.1 (L[k - 1]) (by rw [List.mem_take_iff_getElem]; exact ⟨k - 1, by omega, rfl⟩)).2
            by_cases hgt : L[k].1 < (L[k - 1]).1
            · have hno := Lib.hid (hbad.out (fun h => by have := cmpA_lt.1 ((hra.out.1 h).2.2.1 hkp); omega))
              have hgb : decide (L[k].1 < (L[k - 1]).1) = true := decide_eq_true hgt
              go_wp2_with (go_at_call 73; refine (rcheck4 _ L[k].2.1 _ hxv.out).mono ?_; rintro e w1 ⟨rfl, hB1⟩; have hs1 := hsr.pure hB1; have hT1 := hB.trans (hB1.mono hBs); obtain ⟨d0, d1, d2, d3, d4⟩ := asc_cells hs1 hlt; obtain ⟨p0, p1, p2, p3, p4⟩ := asc_cells hs1 hk1)
              go_quiet (fail)
              go_wp2
              go_ret
              exact ⟨by rw [hno.out]; rfl, below_drewN hT1 _⟩
            · have hgb : decide (L[k].1 < (L[k - 1]).1) = false := decide_eq_false hgt
              by_cases heq : (L[k - 1]).1 = L[k].1
              · have heb : ((L[k - 1]).1 == L[k].1) = true := by rw [heq]; simp
                by_cases hcl : signX (L[k - 1]).2.1 L[k].2.1 < 0
                · have hcm := Lib.hid (cmpA_lt.2 (Or.inr ⟨heq, hcl⟩))
                  have hnc : decide ((0 : Int) ≤ signX (L[k - 1]).2.1 L[k].2.1) = false := decide_eq_false (by omega)
                  clear heq hgt hcl
                  go_wp2_with (go_at_call 73; refine (rcheck4 _ L[k].2.1 _ hxv.out).mono ?_; rintro e w1 ⟨rfl, hB1⟩; have hs1 := hsr.pure hB1; have hT1 := hB.trans (hB1.mono hBs); obtain ⟨d0, d1, d2, d3, d4⟩ := asc_cells hs1 hlt; obtain ⟨p0, p1, p2, p3, p4⟩ := asc_cells hs1 hk1)
                  go_region_held3 (fun w' => w'.cell? ⟨g, off + (k - 1) * 5, none⟩ = some (.int .u64 (L[k - 1]).1) ∧ w'.cell? ⟨g, off + (k - 1) * 5 + 1, none⟩ = some (.int .u32 (L[k - 1]).2.1.1) ∧ w'.cell? ⟨g, off + (k - 1) * 5 + 2, none⟩ = some (.string (L[k - 1]).2.1.2.1) ∧ w'.cell? ⟨g, off + (k - 1) * 5 + 3, none⟩ = some (.string (L[k - 1]).2.1.2.2) ∧ w'.cell? ⟨g, off + k * 5, none⟩ = some (.int .u64 L[k].1) ∧ w'.cell? ⟨g, off + k * 5 + 1, none⟩ = some (.int .u32 L[k].2.1.1) ∧ w'.cell? ⟨g, off + k * 5 + 2, none⟩ = some (.string L[k].2.1.2.1) ∧ w'.cell? ⟨g, off + k * 5 + 3, none⟩ = some (.string L[k].2.1.2.2)) (first | exact ⟨p0, p1, p2, p3, d0, d1, d2, d3⟩ | exact ⟨q0, q1, q2, q3, r0, r1, r2, r3⟩) (first | (go_at_call 74; refine (rcompare _ (L[k - 1]).2.1 L[k].2.1 ?_ ?_ ?_ ?_).mono ?_; (exact Nat.le_trans hpx.out.2.1 (by omega)); (exact Nat.le_trans hpx.out.2.2 (by omega)); (omega); (omega); rintro e w2 ⟨rfl, hB2⟩; have hs2 := hs1.drew.pure hB2; have hT2 := (below_dr hT1).trans (hB2.mono hT1.size); obtain ⟨q0, q1, q2, q3, q4⟩ := asc_cells hs2 hk1; obtain ⟨r0, r1, r2, r3, r4⟩ := asc_cells hs2 hlt))
                  go_wp2
                  go_loopw [4] (fun s4 wr => ∃ j : Nat, j ≤ k ∧ s4 = .int .i64 j ∧ (∀ i, (hi : i < j) → (hk : i < L.length) → L[i].1 = L[k].1 → L[i].2.2 = true ∨ L[k].2.2 = true) ∧ Below w.heap.size w wr ∧ Slc ascEnc 5 wr (.slice (some ⟨g, off, none⟩) L.length cap) L) (fun s4 _ => k - (intOf s4).toNat)
                  case atStart => exact ⟨0, by omega, rfl, fun i hi => absurd hi (by omega), hT2, hs2⟩
                  case round =>
                    obtain ⟨j, hj, rfl, hP, hT, hsj⟩ := hrel
                    have hP' := Lib.hid hP; clear hP
                    by_cases hjk : j < k
                    · have hjl : j < L.length := by omega
                      have ij0 : (0 : Int) ≤ (j : Int) ∧ (j : Int) < (L.length : Int) := by omega
                      have ik0 : (0 : Int) ≤ (k : Int) ∧ (k : Int) < (L.length : Int) := by omega
                      obtain ⟨x0, x1, x2, x3, x4⟩ := asc_cells hsj hjl
                      obtain ⟨y0, y1, y2, y3, y4⟩ := asc_cells hsj hlt
                      have hstep := Lib.hid (fun (hq : L[j].1 = L[k].1 → L[j].2.2 = true ∨ L[k].2.2 = true) => show (∀ i, (hi : i < j + 1) → (hk : i < L.length) → L[i].1 = L[k].1 → L[i].2.2 = true ∨ L[k].2.2 = true) from fun i hi hk => by
                        rcases Nat.lt_or_ge i j with h | h
                        · exact hP'.out i h hk
                        · obtain rfl : i = j := by omega
                          exact hq)
                      by_cases hse : L[j].1 = L[k].1
                      · have hseb : (L[j].1 == L[k].1) = true := by rw [hse]; simp
                        have hse' := Lib.hid hse; clear hse
                        obtain ⟨z1, hz1⟩ : ∃ z, L[j].2.2 = z := ⟨_, rfl⟩
                        cases z1
                        · obtain ⟨z2, hz2⟩ : ∃ z, L[k].2.2 = z := ⟨_, rfl⟩
                          cases z2
                          · have hno := Lib.hid (hbad.out (fun h => by have := (hra.out.1 h).2.2.2 j hjk hse'.out; rw [hz1, hz2] at this; simp at this))
                            rw [hz1] at x4
                            rw [hz2] at y4
                            clear hz1 hz2
                            go_wp2
                            go_quiet (fail)
                            go_wp2
                            go_ret
                            exact ⟨by rw [hno.out]; rfl, below_drewN hT _⟩
                          · have hst := Lib.hid (hstep.out (fun _ => Or.inr hz2))
                            rw [hz1] at x4
                            rw [hz2] at y4
                            clear hz1 hz2
                            go_wp2
                            go_quiet (fail)
                            go_wp2
                            go_roundw
                            case rel => exact ⟨j + 1, by omega, by go_num, hst.out, below_drewN hT _, slc_drewN hsj _⟩
                            case measure => simp [intOf]; omega
                        · have hst := Lib.hid (hstep.out (fun _ => Or.inl hz1))
                          rw [hz1] at x4
                          clear hz1
                          go_wp2
                          go_quiet (fail)
                          go_wp2
                          go_roundw
                          case rel => exact ⟨j + 1, by omega, by go_num, hst.out, below_drewN hT _, slc_drewN hsj _⟩
                          case measure => simp [intOf]; omega
                      · have hseb : (L[j].1 == L[k].1) = false := beq_eq_false_iff_ne.2 hse
                        have hst := Lib.hid (hstep.out (fun h => absurd h hse))
                        clear hse
                        go_wp2
                        go_quiet (fail)
                        go_wp2
                        go_roundw
                        case rel => exact ⟨j + 1, by omega, by go_num, hst.out, below_drewN hT _, slc_drewN hsj _⟩
                        case measure => simp [intOf]; omega
                    · obtain rfl : j = k := by omega
                      have hok := Lib.hid (hra.out.2 ⟨hz'.out, hx'.out, fun _ => hcm.out, fun i hi => hP'.out i hi (by omega)⟩)
                      go_wp2
                      go_roundw
                      case rel => exact ⟨j + 1, by omega, by go_num, hok.out, hT⟩
                      case measure => simp [intOf]; omega
                · have hnc : decide ((0 : Int) ≤ signX (L[k - 1]).2.1 L[k].2.1) = true := decide_eq_true (by omega)
                  have hno := Lib.hid (hbad.out (fun h => by have := cmpA_lt.1 ((hra.out.1 h).2.2.1 hkp); omega))
                  clear heq hgt hcl
                  go_wp2_with (go_at_call 73; refine (rcheck4 _ L[k].2.1 _ hxv.out).mono ?_; rintro e w1 ⟨rfl, hB1⟩; have hs1 := hsr.pure hB1; have hT1 := hB.trans (hB1.mono hBs); obtain ⟨d0, d1, d2, d3, d4⟩ := asc_cells hs1 hlt; obtain ⟨p0, p1, p2, p3, p4⟩ := asc_cells hs1 hk1)
                  go_region_held3 (fun w' => w'.cell? ⟨g, off + (k - 1) * 5, none⟩ = some (.int .u64 (L[k - 1]).1) ∧ w'.cell? ⟨g, off + (k - 1) * 5 + 1, none⟩ = some (.int .u32 (L[k - 1]).2.1.1) ∧ w'.cell? ⟨g, off + (k - 1) * 5 + 2, none⟩ = some (.string (L[k - 1]).2.1.2.1) ∧ w'.cell? ⟨g, off + (k - 1) * 5 + 3, none⟩ = some (.string (L[k - 1]).2.1.2.2) ∧ w'.cell? ⟨g, off + k * 5, none⟩ = some (.int .u64 L[k].1) ∧ w'.cell? ⟨g, off + k * 5 + 1, none⟩ = some (.int .u32 L[k].2.1.1) ∧ w'.cell? ⟨g, off + k * 5 + 2, none⟩ = some (.string L[k].2.1.2.1) ∧ w'.cell? ⟨g, off + k * 5 + 3, none⟩ = some (.string L[k].2.1.2.2)) (first | exact ⟨p0, p1, p2, p3, d0, d1, d2, d3⟩ | exact ⟨q0, q1, q2, q3, r0, r1, r2, r3⟩) (first | (go_at_call 74; refine (rcompare _ (L[k - 1]).2.1 L[k].2.1 ?_ ?_ ?_ ?_).mono ?_; (exact Nat.le_trans hpx.out.2.1 (by omega)); (exact Nat.le_trans hpx.out.2.2 (by omega)); (omega); (omega); rintro e w2 ⟨rfl, hB2⟩; have hs2 := hs1.drew.pure hB2; have hT2 := (below_dr hT1).trans (hB2.mono hT1.size); obtain ⟨q0, q1, q2, q3, q4⟩ := asc_cells hs2 hk1; obtain ⟨r0, r1, r2, r3, r4⟩ := asc_cells hs2 hlt))
                  go_wp2
                  go_ret
                  exact ⟨by rw [hno.out]; rfl, hT2⟩
              · have heb : ((L[k - 1]).1 == L[k].1) = false := beq_eq_false_iff_ne.2 heq
                have hcm := Lib.hid (cmpA_lt.2 (Or.inl (show (L[k - 1]).1 < L[k].1 by omega)))
                clear heq hgt
                go_wp2_with (go_at_call 73; refine (rcheck4 _ L[k].2.1 _ hxv.out).mono ?_; rintro e w1 ⟨rfl, hB1⟩; have hs1 := hsr.pure hB1; have hT1 := hB.trans (hB1.mono hBs); obtain ⟨d0, d1, d2, d3, d4⟩ := asc_cells hs1 hlt; obtain ⟨p0, p1, p2, p3, p4⟩ := asc_cells hs1 hk1)
                go_quiet (fail)
                go_wp2
                go_loopw [4] (fun s4 wr => ∃ j : Nat, j ≤ k ∧ s4 = .int .i64 j ∧ (∀ i, (hi : i < j) → (hk : i < L.length) → L[i].1 = L[k].1 → L[i].2.2 = true ∨ L[k].2.2 = true) ∧ Below w.heap.size w wr ∧ Slc ascEnc 5 wr (.slice (some ⟨g, off, none⟩) L.length cap) L) (fun s4 _ => k - (intOf s4).toNat)
                case atStart => exact ⟨0, by omega, rfl, fun i hi => absurd hi (by omega), below_drewN hT1 _, slc_drewN hs1 _⟩
                case round =>
                  obtain ⟨j, hj, rfl, hP, hT, hsj⟩ := hrel
                  have hP' := Lib.hid hP; clear hP
                  by_cases hjk : j < k
                  · have hjl : j < L.length := by omega
                    have ij0 : (0 : Int) ≤ (j : Int) ∧ (j : Int) < (L.length : Int) := by omega
                    have ik0 : (0 : Int) ≤ (k : Int) ∧ (k : Int) < (L.length : Int) := by omega
                    obtain ⟨x0, x1, x2, x3, x4⟩ := asc_cells hsj hjl
                    obtain ⟨y0, y1, y2, y3, y4⟩ := asc_cells hsj hlt
                    have hstep := Lib.hid (fun (hq : L[j].1 = L[k].1 → L[j].2.2 = true ∨ L[k].2.2 = true) => show (∀ i, (hi : i < j + 1) → (hk : i < L.length) → L[i].1 = L[k].1 → L[i].2.2 = true ∨ L[k].2.2 = true) from fun i hi hk => by
                      rcases Nat.lt_or_ge i j with h | h
                      · exact hP'.out i h hk
                      · obtain rfl : i = j := by omega
                        exact hq)
                    by_cases hse : L[j].1 = L[k].1
                    · have hseb : (L[j].1 == L[k].1) = true := by rw [hse]; simp
                      have hse' := Lib.hid hse; clear hse
                      obtain ⟨z1, hz1⟩ : ∃ z, L[j].2.2 = z := ⟨_, rfl⟩
                      cases z1
                      · obtain ⟨z2, hz2⟩ : ∃ z, L[k].2.2 = z := ⟨_, rfl⟩
                        cases z2
                        · have hno := Lib.hid (hbad.out (fun h => by have := (hra.out.1 h).2.2.2 j hjk hse'.out; rw [hz1, hz2] at this; simp at this))
                          rw [hz1] at x4
                          rw [hz2] at y4
                          clear hz1 hz2
                          go_wp2
                          go_quiet (fail)
                          go_wp2
                          go_ret
                          exact ⟨by rw [hno.out]; rfl, below_drewN hT _⟩
                        · have hst := Lib.hid (hstep.out (fun _ => Or.inr hz2))
                          rw [hz1] at x4
                          rw [hz2] at y4
                          clear hz1 hz2
                          go_wp2
                          go_quiet (fail)
                          go_wp2
                          go_roundw
                          case rel => exact ⟨j + 1, by omega, by go_num, hst.out, below_drewN hT _, slc_drewN hsj _⟩
                          case measure => simp [intOf]; omega
                      · have hst := Lib.hid (hstep.out (fun _ => Or.inl hz1))
                        rw [hz1] at x4
                        clear hz1
                        go_wp2
                        go_quiet (fail)
                        go_wp2
                        go_roundw
                        case rel => exact ⟨j + 1, by omega, by go_num, hst.out, below_drewN hT _, slc_drewN hsj _⟩
                        case measure => simp [intOf]; omega
                    · have hseb : (L[j].1 == L[k].1) = false := beq_eq_false_iff_ne.2 hse
                      have hst := Lib.hid (hstep.out (fun h => absurd h hse))
                      clear hse
                      go_wp2
                      go_quiet (fail)
                      go_wp2
                      go_roundw
                      case rel => exact ⟨j + 1, by omega, by go_num, hst.out, below_drewN hT _, slc_drewN hsj _⟩
                      case measure => simp [intOf]; omega
                  · obtain rfl : j = k := by omega
                    have hok := Lib.hid (hra.out.2 ⟨hz'.out, hx'.out, fun _ => hcm.out, fun i hi => hP'.out i hi (by omega)⟩)
                    go_wp2
                    go_roundw
                    case rel => exact ⟨j + 1, by omega, by go_num, hok.out, hT⟩
                    case measure => simp [intOf]; omega
        · have hxv := Lib.hid (show (if XidOk L[k].2.1 then (0 : Int) else 40) = 40 from if_neg hx)
          have hno := Lib.hid (hbad.out (fun h => hx (hra.out.1 h).2.1))
          clear hx
          go_wp2_with (go_at_call 73; refine (rcheck4 _ L[k].2.1 _ hxv.out).mono ?_; rintro e w1 ⟨rfl, hB1⟩; have hs1 := hsr.pure hB1; have hT1 := hB.trans (hB1.mono hBs); obtain ⟨d0, d1, d2, d3, d4⟩ := asc_cells hs1 hlt)
          go_ret
          exact ⟨by rw [hno.out]; rfl, hT1⟩
    · obtain rfl : k = L.length := by omega
      rw [List.take_length] at hR
      have hre := Lib.hid (rowE_yes hR)
      go_wp2
      go_ret
      exact ⟨by rw [hre.out]; rfl, hB⟩
end Go.Proofs.Ytcelpincmpjhkaa
