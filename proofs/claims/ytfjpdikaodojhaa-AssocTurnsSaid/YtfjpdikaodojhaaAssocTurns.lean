/- The law AssocTurns of chapter 18. Conditions: the row reads as associations. Written by gen_alaws.py. -/
import Derived.Test.YtfjpdikaodojhaaAssocW
import Derived.Test.YtfjpdikaodojhaaAssocX
namespace Go.Proofs.Ytfjpdikaodojhaa
open Go.RowKit
set_option linter.unusedVariables false

set_option maxRecDepth 100000 in
set_option maxHeartbeats 4000000 in
theorem assocTurns_any (w : World) (v : Value) (L : List Asc) (s : Int) (y : Xid) (hs : Slc ascEnc 5 w v L) :
    Calls Try.prog 5 #[v, .int .u64 s, .agg #[.int .u32 y.1, .string y.2.1, .string y.2.2]] w fun e w' => e = .returned (.bool true) ∧ Below w.heap.size w w' := by
  obtain ⟨yf, yg, yb⟩ := y
  simp only
  have hT0 := (Below.refl w.heap.size w).alloc (Nat.le_refl _) (.cells #[.int .u32 yf, .string yg, .string yb] 26)
  have bx0 := Blk.new w [.int .u32 yf, .string yg, .string yb] 26
  have hl0 := hs.pure hT0
  have bx_c0 := bx0.at 0 rfl; have bx_c1 := bx0.at 1 rfl; have bx_c2 := bx0.at 2 rfl
  obtain ⟨a, cap, rfl, hm⟩ := hs.len
  unfold maxLen at hm
  by_cases hbig : 30 < L.length
  · go_enter Try.func5, Try.ntmps5
    go_wp2_with (go_at_call 8; refine (head_any _).mono ?_; rintro e w1 ⟨rfl, hB1⟩)
    go_ret
    exact ⟨rfl, hT0.trans (hB1.mono hT0.size)⟩
  have hL : L.length ≤ 1000000 := by omega
  have hl_start := turn_len (start_len L s (yf, yg, yb)) hL
  have hl_resume := turn_len (resume_len L s (yf, yg, yb)) hL
  have hl_suspend := turn_len (suspend_len L s (yf, yg, yb)) hL
  have hl_end := turn_len (end_len L s (yf, yg, yb)) hL
  have hl30 : L.length ≤ 30 := by omega
  have hen := end_len L s (yf, yg, yb)
  go_enter Try.func5, Try.ntmps5
  go_wp2_with (first | (go_at_call 17; (with_reducible refine (rcopy _ _ L hl0 hL).mono ?_); rintro e w1 ⟨r0, rfl, hO1, hB1⟩; have hT1 := hT0.trans (hB1.mono hT0.size); have ho1 := hO1.slc ascEnc_len; obtain ⟨ra, rc, rfl⟩ := own_len hO1; have hl1 := hl0.pure hB1; have bx1 := bx0.pure hB1; clear bx_c0 bx_c1 bx_c2; have bx_c0 := bx1.at 0 rfl; have bx_c1 := bx1.at 1 rfl; have bx_c2 := bx1.at 2 rfl) | (go_at_call 23; (with_reducible refine (start_any _ _ L s (yf, yg, yb) ho1 hL).mono ?_); rintro e w2 ⟨rstart, rfl, hO2, hB2⟩; have hT2 := hT1.trans (hB2.mono hT1.size); have ha2 := hO2.slc ascEnc_len; have hl2 := hl1.pure hB2; have ho2 := ho1.pure hB2; have bx2 := bx1.pure hB2; clear bx_c0 bx_c1 bx_c2; have bx_c0 := bx2.at 0 rfl; have bx_c1 := bx2.at 1 rfl; have bx_c2 := bx2.at 2 rfl) | (go_at_call 24; (with_reducible refine (rstart_any _ _ L s (yf, yg, yb) hl2 hL).mono ?_); rintro e w3 ⟨qstart, rfl, hO3, hB3⟩; have hT3 := hT2.trans (hB3.mono hT2.size); have hb3 := hO3.slc ascEnc_len; have hl3 := hl2.pure hB3; have ho3 := ho2.pure hB3; have ha3 := ha2.pure hB3; have bx3 := bx2.pure hB3; clear bx_c0 bx_c1 bx_c2; have bx_c0 := bx3.at 0 rfl; have bx_c1 := bx3.at 1 rfl; have bx_c2 := bx3.at 2 rfl) | (go_at_call 22; (with_reducible refine (same_eq _ _ _ _ ha3 hb3 hl_start).mono ?_); rintro e w4 ⟨rfl, hB4⟩; have hT4 := hT3.trans (hB4.mono hT3.size); have hl4 := hl3.pure hB4; have ho4 := ho3.pure hB4; have ha4 := ha3.pure hB4; have hb4 := hb3.pure hB4; have bx4 := bx3.pure hB4; clear bx_c0 bx_c1 bx_c2; have bx_c0 := bx4.at 0 rfl; have bx_c1 := bx4.at 1 rfl; have bx_c2 := bx4.at 2 rfl) | (go_at_call 25; (with_reducible refine (resume_any _ _ L s (yf, yg, yb) ho4 hL).mono ?_); rintro e w5 ⟨rresume, rfl, hO5, hB5⟩; have hT5 := hT4.trans (hB5.mono hT4.size); have ha5 := hO5.slc ascEnc_len; have hl5 := hl4.pure hB5; have ho5 := ho4.pure hB5; have bx5 := bx4.pure hB5; clear bx_c0 bx_c1 bx_c2; have bx_c0 := bx5.at 0 rfl; have bx_c1 := bx5.at 1 rfl; have bx_c2 := bx5.at 2 rfl) | (go_at_call 26; (with_reducible refine (rresume_any _ _ L s (yf, yg, yb) hl5 hL).mono ?_); rintro e w6 ⟨qresume, rfl, hO6, hB6⟩; have hT6 := hT5.trans (hB6.mono hT5.size); have hb6 := hO6.slc ascEnc_len; have hl6 := hl5.pure hB6; have ho6 := ho5.pure hB6; have ha6 := ha5.pure hB6; have bx6 := bx5.pure hB6; clear bx_c0 bx_c1 bx_c2; have bx_c0 := bx6.at 0 rfl; have bx_c1 := bx6.at 1 rfl; have bx_c2 := bx6.at 2 rfl) | (go_at_call 22; (with_reducible refine (same_eq _ _ _ _ ha6 hb6 hl_resume).mono ?_); rintro e w7 ⟨rfl, hB7⟩; have hT7 := hT6.trans (hB7.mono hT6.size); have hl7 := hl6.pure hB7; have ho7 := ho6.pure hB7; have ha7 := ha6.pure hB7; have hb7 := hb6.pure hB7; have bx7 := bx6.pure hB7; clear bx_c0 bx_c1 bx_c2; have bx_c0 := bx7.at 0 rfl; have bx_c1 := bx7.at 1 rfl; have bx_c2 := bx7.at 2 rfl) | (go_at_call 27; (with_reducible refine (suspend_any _ _ L s (yf, yg, yb) ho7 hL).mono ?_); rintro e w8 ⟨rsuspend, rfl, hO8, hB8⟩; have hT8 := hT7.trans (hB8.mono hT7.size); have ha8 := hO8.slc ascEnc_len; have hl8 := hl7.pure hB8; have ho8 := ho7.pure hB8; have bx8 := bx7.pure hB8; clear bx_c0 bx_c1 bx_c2; have bx_c0 := bx8.at 0 rfl; have bx_c1 := bx8.at 1 rfl; have bx_c2 := bx8.at 2 rfl) | (go_at_call 28; (with_reducible refine (rsuspend_any _ _ L s (yf, yg, yb) hl8 hL).mono ?_); rintro e w9 ⟨qsuspend, rfl, hO9, hB9⟩; have hT9 := hT8.trans (hB9.mono hT8.size); have hb9 := hO9.slc ascEnc_len; have hl9 := hl8.pure hB9; have ho9 := ho8.pure hB9; have ha9 := ha8.pure hB9; have bx9 := bx8.pure hB9; clear bx_c0 bx_c1 bx_c2; have bx_c0 := bx9.at 0 rfl; have bx_c1 := bx9.at 1 rfl; have bx_c2 := bx9.at 2 rfl) | (go_at_call 22; (with_reducible refine (same_eq _ _ _ _ ha9 hb9 hl_suspend).mono ?_); rintro e w10 ⟨rfl, hB10⟩; have hT10 := hT9.trans (hB10.mono hT9.size); have hl10 := hl9.pure hB10; have ho10 := ho9.pure hB10; have ha10 := ha9.pure hB10; have hb10 := hb9.pure hB10; have bx10 := bx9.pure hB10; clear bx_c0 bx_c1 bx_c2; have bx_c0 := bx10.at 0 rfl; have bx_c1 := bx10.at 1 rfl; have bx_c2 := bx10.at 2 rfl) | (go_at_call 29; (with_reducible refine (end_any _ _ L s (yf, yg, yb) ho10 hL).mono ?_); rintro e w11 ⟨rend, rfl, hO11, hB11⟩; have hT11 := hT10.trans (hB11.mono hT10.size); have ha11 := hO11.slc ascEnc_len; have hq11 := hO11; obtain ⟨za, zc, hzz⟩ := own_len hO11; subst hzz; have hl11 := hl10.pure hB11; have ho11 := ho10.pure hB11; have bx11 := bx10.pure hB11; clear bx_c0 bx_c1 bx_c2; have bx_c0 := bx11.at 0 rfl; have bx_c1 := bx11.at 1 rfl; have bx_c2 := bx11.at 2 rfl) | (go_at_call 30; (with_reducible refine (rend_any _ _ L s (yf, yg, yb) hl11 hL).mono ?_); rintro e w12 ⟨qend, rfl, hO12, hB12⟩; have hT12 := hT11.trans (hB12.mono hT11.size); have hb12 := hO12.slc ascEnc_len; have hl12 := hl11.pure hB12; have ho12 := ho11.pure hB12; have ha12 := ha11.pure hB12; have hq12 := hq11.pure hB12; have bx12 := bx11.pure hB12; clear bx_c0 bx_c1 bx_c2; have bx_c0 := bx12.at 0 rfl; have bx_c1 := bx12.at 1 rfl; have bx_c2 := bx12.at 2 rfl) | (go_at_call 22; (with_reducible refine (same_eq _ _ _ _ ha12 hb12 hl_end).mono ?_); rintro e w13 ⟨rfl, hB13⟩; have hT13 := hT12.trans (hB13.mono hT12.size); have hl13 := hl12.pure hB13; have ho13 := ho12.pure hB13; have ha13 := ha12.pure hB13; have hb13 := hb12.pure hB13; have hq13 := hq12.pure hB13; have bx13 := bx12.pure hB13; clear bx_c0 bx_c1 bx_c2; have bx_c0 := bx13.at 0 rfl; have bx_c1 := bx13.at 1 rfl; have bx_c2 := bx13.at 2 rfl))
  clear bx_c0 bx_c1 bx_c2
  have hBe := (hB11.trans (hB12.mono hB11.size)).trans (hB13.mono (Nat.le_trans hB11.size hB12.size))
  obtain ⟨M, hM⟩ : ∃ M, M = (endF L s (yf, yg, yb)).1 := ⟨_, rfl⟩
  rw [← hM] at hen hq13 ⊢
  clear hM
  go_loopw [12] (fun s12 wr => ∃ k : Nat, ∃ N : List Asc, k ≤ M.length ∧ s12 = .int .i64 k ∧ N.length = M.length ∧ Own w10.heap.size 37 5 ascEnc wr (.slice za M.length zc) N ∧ Below w10.heap.size w10 wr) (fun s12 _ => M.length - (intOf s12).toNat)
  case atStart => exact ⟨0, M, by omega, rfl, rfl, hq13, hBe⟩
  case round =>
    obtain ⟨k, N, hk, rfl, hN, hO, hB⟩ := hrel
    have hN' := Lib.hid hN; clear hN
    by_cases hlt : k < M.length
    · have hltN : k < N.length := by rw [hN'.out]; exact hlt
      obtain ⟨g, rfl, hg⟩ := own_at hO hltN
      have c0 := (asc_cells (hO.slc ascEnc_len) hltN).1
      have z0 := hO.frozen (k * 5)
      simp only [Nat.zero_add] at c0
      have hnew := Lib.hid (hO.set ascEnc_len k hltN 0 (.int .u64 99) (99, N[k].2) (by omega) rfl)
      go_wp2
      go_roundw
      case rel => exact ⟨k + 1, N.set k (99, N[k].2), by omega, by go_num, by rw [List.length_set]; exact hN'.out, by have := hnew.out; simpa using this, below_set hB hg _ _⟩
      case measure => simp [intOf]; omega
    · obtain rfl : k = M.length := by omega
      have hlz := hl10.pure hB
      have hoz := ho10.pure hB
      have hTz := hT10.trans (hB.mono hT10.size)
      go_wp2_with (first | (go_at_call 22; refine (same_eq _ _ _ L hoz hlz hL).mono ?_; rintro e w101 ⟨rfl, hB101⟩; have hT101 := hTz.trans (hB101.mono hTz.size)) | (go_at_call 8; refine (head_any _).mono ?_; rintro e w102 ⟨rfl, hB102⟩; have hT102 := hT101.trans (hB102.mono hT101.size)))
      go_ret
      exact ⟨rfl, hT102⟩

end Go.Proofs.Ytfjpdikaodojhaa
