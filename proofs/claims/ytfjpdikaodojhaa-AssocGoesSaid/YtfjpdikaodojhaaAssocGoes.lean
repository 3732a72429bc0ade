/- The law AssocGoes of chapter 18. Conditions: the row reads as associations. Written by gen_alaws.py. -/
import Derived.Test.YtfjpdikaodojhaaAssocW
import Derived.Test.YtfjpdikaodojhaaAssocX
namespace Go.Proofs.Ytfjpdikaodojhaa
open Go.RowKit
set_option linter.unusedVariables false
theorem if_filter_len (c : Prop) [Decidable c] (p : Asc → Bool) {L : List Asc} : (if c then L.filter p else []).length ≤ L.length := by split; exact List.length_filter_le _ _; simp

set_option maxRecDepth 100000 in
set_option maxHeartbeats 4000000 in
theorem assocGoes_any (w : World) (v : Value) (L : List Asc) (s : Int) (y : Xid) (hs : Slc ascEnc 5 w v L) :
    Calls Try.prog 4 #[v, .int .u64 s, .agg #[.int .u32 y.1, .string y.2.1, .string y.2.2]] w fun e w' => e = .returned (.bool true) ∧ Below w.heap.size w w' := by
  obtain ⟨yf, yg, yb⟩ := y
  simp only
  have hT0 := (Below.refl w.heap.size w).alloc (Nat.le_refl _) (.cells #[.int .u32 yf, .string yg, .string yb] 26)
  have bx0 := Blk.new w [.int .u32 yf, .string yg, .string yb] 26
  have hl0 := hs.pure hT0
  have bx_c0 := bx0.at 0 rfl; have bx_c1 := bx0.at 1 rfl; have bx_c2 := bx0.at 2 rfl
  obtain ⟨a, cap, rfl, hm⟩ := hs.len
  unfold maxLen at hm
  by_cases hbig : 30 < L.length
  · go_enter Try.func4, Try.ntmps4
    go_wp2_with (go_at_call 8; refine (head_any _).mono ?_; rintro e w1 ⟨rfl, hB1⟩)
    go_ret
    exact ⟨rfl, hT0.trans (hB1.mono hT0.size)⟩
  have hL : L.length ≤ 1000000 := by omega
  have hl30 : L.length ≤ 30 := by omega
  obtain ⟨M, hM⟩ : ∃ M, M = (if mayN L s (0, ⟨#[120]⟩, ⟨#[]⟩) = 0 then L.filter (fun a => a.1 != s) else []) := ⟨_, rfl⟩
  obtain ⟨N1, hN1⟩ : ∃ N, N = (if mayN L 1 (yf, yg, yb) = 0 then L.filter (fun a => a.2.1 != (yf, yg, yb)) else []) := ⟨_, rfl⟩
  have hl_m : M.length ≤ 1000000 := by rw [hM]; exact Nat.le_trans (if_filter_len _ _) (by omega)
  have hl_n : N1.length ≤ 1000000 := by rw [hN1]; exact Nat.le_trans (if_filter_len _ _) (by omega)
  have hlv := Lib.hid hM; have hcl := Lib.hid hN1; clear hM hN1
  go_enter Try.func4, Try.ntmps4
  go_wp2_with (first | (go_at_call 17; (with_reducible refine (rcopy _ _ L hl0 hL).mono ?_); rintro e w1 ⟨r0, rfl, hO1, hB1⟩; have hT1 := hT0.trans (hB1.mono hT0.size); have ho1 := hO1.slc ascEnc_len; obtain ⟨ra, rc, rfl⟩ := own_len hO1; have hl1 := hl0.pure hB1; have bx1 := bx0.pure hB1; clear bx_c0 bx_c1 bx_c2; have bx_c0 := bx1.at 0 rfl; have bx_c1 := bx1.at 1 rfl; have bx_c2 := bx1.at 2 rfl) | (go_at_call 18; (with_reducible refine (leave_any _ _ L s ho1 hL).mono ?_); rintro e w2 ⟨r1, rfl, hO2, hB2⟩; have hT2 := hT1.trans (hB2.mono hT1.size); rw [← hlv.out] at hO2; have ha2 := hO2.slc ascEnc_len; have hq2 := hO2; obtain ⟨za, zc, rfl⟩ := own_len hO2; have hl2 := hl1.pure hB2; have ho2 := ho1.pure hB2; have bx2 := bx1.pure hB2; clear bx_c0 bx_c1 bx_c2; have bx_c0 := bx2.at 0 rfl; have bx_c1 := bx2.at 1 rfl; have bx_c2 := bx2.at 2 rfl) | (go_at_call 19; (with_reducible refine (rleave_any _ _ L s hl2 hL).mono ?_); rintro e w3 ⟨r2, rfl, hO3, hB3⟩; have hT3 := hT2.trans (hB3.mono hT2.size); rw [← hlv.out] at hO3; have hb3 := hO3.slc ascEnc_len; have hl3 := hl2.pure hB3; have ho3 := ho2.pure hB3; have ha3 := ha2.pure hB3; have hq3 := hq2.pure hB3; have bx3 := bx2.pure hB3; clear bx_c0 bx_c1 bx_c2; have bx_c0 := bx3.at 0 rfl; have bx_c1 := bx3.at 1 rfl; have bx_c2 := bx3.at 2 rfl) | (go_at_call 20; (with_reducible refine (clear_any _ _ L (yf, yg, yb) ho3 hL).mono ?_); rintro e w4 ⟨r3, rfl, hO4, hB4⟩; have hT4 := hT3.trans (hB4.mono hT3.size); rw [← hcl.out] at hO4; have hc4 := hO4.slc ascEnc_len; have hl4 := hl3.pure hB4; have ho4 := ho3.pure hB4; have ha4 := ha3.pure hB4; have hb4 := hb3.pure hB4; have hq4 := hq3.pure hB4; have bx4 := bx3.pure hB4; clear bx_c0 bx_c1 bx_c2; have bx_c0 := bx4.at 0 rfl; have bx_c1 := bx4.at 1 rfl; have bx_c2 := bx4.at 2 rfl) | (go_at_call 21; (with_reducible refine (rclear_any _ _ L (yf, yg, yb) hl4 hL).mono ?_); rintro e w5 ⟨r4, rfl, hO5, hB5⟩; have hT5 := hT4.trans (hB5.mono hT4.size); rw [← hcl.out] at hO5; have hd5 := hO5.slc ascEnc_len; have hl5 := hl4.pure hB5; have ho5 := ho4.pure hB5; have ha5 := ha4.pure hB5; have hb5 := hb4.pure hB5; have hc5 := hc4.pure hB5; have hq5 := hq4.pure hB5; have bx5 := bx4.pure hB5; clear bx_c0 bx_c1 bx_c2; have bx_c0 := bx5.at 0 rfl; have bx_c1 := bx5.at 1 rfl; have bx_c2 := bx5.at 2 rfl) | (go_at_call 22; (with_reducible refine (same_eq _ _ _ _ ha5 hb5 hl_m).mono ?_); rintro e w6 ⟨rfl, hB6⟩; have hT6 := hT5.trans (hB6.mono hT5.size); have hl6 := hl5.pure hB6; have ho6 := ho5.pure hB6; have ha6 := ha5.pure hB6; have hb6 := hb5.pure hB6; have hc6 := hc5.pure hB6; have hd6 := hd5.pure hB6; have hq6 := hq5.pure hB6; have bx6 := bx5.pure hB6; clear bx_c0 bx_c1 bx_c2; have bx_c0 := bx6.at 0 rfl; have bx_c1 := bx6.at 1 rfl; have bx_c2 := bx6.at 2 rfl) | (go_at_call 22; (with_reducible refine (same_eq _ _ _ _ hc6 hd6 hl_n).mono ?_); rintro e w7 ⟨rfl, hB7⟩; have hT7 := hT6.trans (hB7.mono hT6.size); have hl7 := hl6.pure hB7; have ho7 := ho6.pure hB7; have ha7 := ha6.pure hB7; have hb7 := hb6.pure hB7; have hc7 := hc6.pure hB7; have hd7 := hd6.pure hB7; have hq7 := hq6.pure hB7; have bx7 := bx6.pure hB7; clear bx_c0 bx_c1 bx_c2; have bx_c0 := bx7.at 0 rfl; have bx_c1 := bx7.at 1 rfl; have bx_c2 := bx7.at 2 rfl))
  clear bx_c0 bx_c1 bx_c2
  have hZ2 : w1.heap.size ≤ w2.heap.size := hB2.size
  have hZ3 : w1.heap.size ≤ w3.heap.size := Nat.le_trans hZ2 hB3.size
  have hZ4 : w1.heap.size ≤ w4.heap.size := Nat.le_trans hZ3 hB4.size
  have hZ5 : w1.heap.size ≤ w5.heap.size := Nat.le_trans hZ4 hB5.size
  have hZ6 : w1.heap.size ≤ w6.heap.size := Nat.le_trans hZ5 hB6.size
  have hZ7 : w1.heap.size ≤ w7.heap.size := Nat.le_trans hZ6 hB7.size
  have hBe := (((((hB2.trans (hB3.mono hZ2)).trans (hB4.mono hZ3)).trans (hB5.mono hZ4)).trans (hB6.mono hZ5)).trans (hB7.mono hZ6))
  go_loopw [16] (fun s12 wr => ∃ k : Nat, ∃ N : List Asc, k ≤ M.length ∧ s12 = .int .i64 k ∧ N.length = M.length ∧ Own w1.heap.size 37 5 ascEnc wr (.slice za M.length zc) N ∧ Below w1.heap.size w1 wr) (fun s12 _ => M.length - (intOf s12).toNat)
  case atStart => exact ⟨0, M, by omega, rfl, rfl, hq7, hBe⟩
  case round =>
    obtain ⟨k, N, hk, rfl, hN, hO, hB⟩ := hrel
    have hN' := Lib.hid hN; clear hN
    by_cases hlt : k < M.length
    · have hltN : k < N.length := by rw [hN'.out]; exact hlt
      obtain ⟨g, rfl, hg⟩ := own_at hO hltN
      have c0 := (asc_cells (hO.slc ascEnc_len) hltN).1
      have z0 := hO.frozen (k * 5)
      simp only [Nat.zero_add] at c0
      have hnew := Lib.hid (hO.set ascEnc_len k hltN 0 (.int .u64 99) (99, N[k].2) (by omega) rfl)
      go_wp2
      go_roundw
      case rel => exact ⟨k + 1, N.set k (99, N[k].2), by omega, by go_num, by rw [List.length_set]; exact hN'.out, by have := hnew.out; simpa using this, below_set hB hg _ _⟩
      case measure => simp [intOf]; omega
    · obtain rfl : k = M.length := by omega
      have hlz := hl1.pure hB
      have hoz := ho1.pure hB
      have hTz := hT1.trans (hB.mono hT1.size)
      go_wp2_with (first | (go_at_call 22; refine (same_eq _ _ _ L hoz hlz hL).mono ?_; rintro e w101 ⟨rfl, hB101⟩; have hT101 := hTz.trans (hB101.mono hTz.size)) | (go_at_call 8; refine (head_any _).mono ?_; rintro e w102 ⟨rfl, hB102⟩; have hT102 := hT101.trans (hB102.mono hT101.size)))
      go_ret
      exact ⟨rfl, hT102⟩

end Go.Proofs.Ytfjpdikaodojhaa
