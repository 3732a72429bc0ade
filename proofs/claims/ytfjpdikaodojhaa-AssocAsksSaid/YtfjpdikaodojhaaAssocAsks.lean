/- The law AssocAsks of chapter 18. Conditions: the row reads as associations. Written by gen_alaws.py. -/
import Derived.Test.YtfjpdikaodojhaaAssocW
import Derived.Test.YtfjpdikaodojhaaAssocX
import Derived.Test.YtfjpdikaodojhaaRegH
namespace Go.Proofs.Ytfjpdikaodojhaa
open Go.RowKit
set_option linter.unusedVariables false
theorem has_yes (w : World) (v : Value) (L : List Asc) (s : Int) (y : Xid) (k : Nat) (hs : Slc ascEnc 5 w v L) (hL : L.length ≤ 1000000) (hr : RowA L) (hk : k < L.length) (he : keyA L[k] = (s, y)) :
    Calls Try.prog 11 #[v, .int .u64 s, .agg #[.int .u32 y.1, .string y.2.1, .string y.2.2]] w fun e w' => e = .returned (.tuple #[.bool true, .bool L[k].2.2]) ∧ Below w.heap.size w w' := by
  refine (has_any w v L s y hs hL).mono ?_
  rintro e w' ⟨⟨b, z, rfl, hh⟩, hB⟩
  rcases hh with ⟨h, _⟩ | ⟨_, h, _⟩ | ⟨_, j, hj, hje, rfl, rfl⟩
  · exact absurd (rowE_yes hr) h
  · exact absurd ⟨k, hk, he⟩ h
  · have := same_idx hr.rises hj hk (hje.trans he.symm); subst this; exact ⟨rfl, hB⟩
theorem has_no (w : World) (v : Value) (L : List Asc) (s : Int) (y : Xid) (hs : Slc ascEnc 5 w v L) (hL : L.length ≤ 1000000) (hn : RowA L → ¬ Mem L s y) :
    Calls Try.prog 11 #[v, .int .u64 s, .agg #[.int .u32 y.1, .string y.2.1, .string y.2.2]] w fun e w' => e = .returned (.tuple #[.bool false, .bool false]) ∧ Below w.heap.size w w' := by
  refine (has_any w v L s y hs hL).mono ?_
  rintro e w' ⟨⟨b, z, rfl, hh⟩, hB⟩
  rcases hh with ⟨_, rfl, rfl⟩ | ⟨_, _, rfl, rfl⟩ | ⟨h, j, hj, hje, _⟩
  · exact ⟨rfl, hB⟩
  · exact ⟨rfl, hB⟩
  · exact absurd ⟨j, hj, hje⟩ (hn h)

set_option maxRecDepth 100000 in
set_option maxHeartbeats 4000000 in
theorem assocAsks_any (w : World) (v : Value) (L : List Asc) (s : Int) (y : Xid) (hs : Slc ascEnc 5 w v L) :
    Calls Try.prog 3 #[v, .int .u64 s, .agg #[.int .u32 y.1, .string y.2.1, .string y.2.2]] w fun e w' => e = .returned (.bool true) ∧ Below w.heap.size w w' := by
  obtain ⟨yf, yg, yb⟩ := y
  simp only
  have hT0 := (Below.refl w.heap.size w).alloc (Nat.le_refl _) (.cells #[.int .u32 yf, .string yg, .string yb] 26)
  have bx0 := Blk.new w [.int .u32 yf, .string yg, .string yb] 26
  have hl0 := hs.pure hT0
  have bx_c0 := bx0.at 0 rfl; have bx_c1 := bx0.at 1 rfl; have bx_c2 := bx0.at 2 rfl
  obtain ⟨a, cap, rfl, hm⟩ := hs.len
  unfold maxLen at hm
  by_cases hbig : 30 < L.length
  · go_enter Try.func3, Try.ntmps3
    go_wp2_with (go_at_call 8; refine (head_any _).mono ?_; rintro e w1 ⟨rfl, hB1⟩)
    go_ret
    exact ⟨rfl, hT0.trans (hB1.mono hT0.size)⟩
  have hL : L.length ≤ 1000000 := by omega
  have hpc := Lib.hid (fun (w1 : World) (h : Slc ascEnc 5 w1 (.slice a L.length cap) L) => check_any w1 _ L h hL)
  have hrc := Lib.hid (fun (w1 : World) (h : Slc ascEnc 5 w1 (.slice a L.length cap) L) => rcheck_any w1 _ L h hL)
  have hac := Lib.hid (fun (w1 : World) (h : Slc ascEnc 5 w1 (.slice a L.length cap) L) => active_any w1 _ L s h hL)
  have hra := Lib.hid (fun (w1 : World) (h : Slc ascEnc 5 w1 (.slice a L.length cap) L) => ractive_any w1 _ L s h hL)
  have hpn := Lib.hid (fun (w1 : World) (h : Slc ascEnc 5 w1 (.slice a L.length cap) L) => count_any w1 _ L (yf, yg, yb) h hL)
  have hrn := Lib.hid (fun (w1 : World) (h : Slc ascEnc 5 w1 (.slice a L.length cap) L) => rcount_any w1 _ L (yf, yg, yb) h hL)
  obtain ⟨c, hc⟩ : ∃ c, c = cntA L (yf, yg, yb) := ⟨_, rfl⟩
  rw [← hc] at hpn hrn
  clear hc
  obtain ⟨⟨xf, xg, xb⟩, hxx⟩ : ∃ x, x = optX (actA L s) := ⟨_, rfl⟩
  rw [← hxx] at hac hra
  clear hxx
  obtain ⟨is, his⟩ : ∃ is, is = (actA L s).isSome := ⟨_, rfl⟩
  rw [← his] at hac hra
  clear his
  have qE := fun (u : World) => xid_eql u xf xf xg xb xg xb
  simp only [bytes_self, beq_self_eq_true, Bool.and_self] at qE
  have hisb : (is == is) = true := by simp
  have hcb : (c == c) = true := by simp
  rcases rowE_cases L with ⟨h1, h2⟩ | ⟨h1, h2⟩
  · have hrow := Lib.hid h1
    rw [h2] at hpc hrc
    clear h1 h2
    rcases Classical.em (Mem L s (yf, yg, yb)) with hmm | hmm
    · obtain ⟨k, hk, he0⟩ := hmm
      have he := Lib.hid he0; clear he0
      obtain ⟨g, off, rfl⟩ := hs.addr hk
      have hk0 : (0 : Int) ≤ (k : Int) ∧ (k : Int) < (L.length : Int) := by omega
      have hzz : (L[k].2.2 == L[k].2.2) = true := by simp
      clear hs
      go_enter Try.func3, Try.ntmps3
      go_wp2_with (first | (go_at_call 9; (with_reducible refine (hac.out _ hl0).mono ?_); rintro e w1 ⟨rfl, hB1⟩; have hT1 := hT0.trans (hB1.mono hT0.size); have hl1 := hl0.pure hB1; have bx1 := bx0.pure hB1; clear bx_c0 bx_c1 bx_c2; have hS_1 := hT1.size; have hT1 := hT1.alloc hS_1 (.cells #[.int .u32 xf, .string xg, .string xb] 26); have hl1 := hl1.pure ((Below.refl _ _).alloc (Nat.le_refl _) (.cells #[.int .u32 xf, .string xg, .string xb] 26)); have bx1 := bx1.alloc (.cells #[.int .u32 xf, .string xg, .string xb] 26); have by1 := Blk.new w1 [.int .u32 xf, .string xg, .string xb] 26; have bx_c0 := bx1.at 0 rfl; have bx_c1 := bx1.at 1 rfl; have bx_c2 := bx1.at 2 rfl; have by_c0 := by1.at 0 rfl; have by_c1 := by1.at 1 rfl; have by_c2 := by1.at 2 rfl) | (go_at_call 10; (with_reducible refine (hra.out _ hl1).mono ?_); rintro e w2 ⟨rfl, hB2⟩; have hT2 := hT1.trans (hB2.mono hT1.size); have hl2 := hl1.pure hB2; have bx2 := bx1.pure hB2; have by2 := by1.pure hB2; clear bx_c0 bx_c1 bx_c2 by_c0 by_c1 by_c2; have hS_2 := hT2.size; have hT2 := hT2.alloc hS_2 (.cells #[.int .u32 xf, .string xg, .string xb] 26); have hl2 := hl2.pure ((Below.refl _ _).alloc (Nat.le_refl _) (.cells #[.int .u32 xf, .string xg, .string xb] 26)); have bx2 := bx2.alloc (.cells #[.int .u32 xf, .string xg, .string xb] 26); have by2 := by2.alloc (.cells #[.int .u32 xf, .string xg, .string xb] 26); have bz2 := Blk.new w2 [.int .u32 xf, .string xg, .string xb] 26; have bx_c0 := bx2.at 0 rfl; have bx_c1 := bx2.at 1 rfl; have bx_c2 := bx2.at 2 rfl; have by_c0 := by2.at 0 rfl; have by_c1 := by2.at 1 rfl; have by_c2 := by2.at 2 rfl; have bz_c0 := bz2.at 0 rfl; have bz_c1 := bz2.at 1 rfl; have bz_c2 := bz2.at 2 rfl) | (go_at_call 11; (with_reducible refine (has_yes _ _ L s (yf, yg, yb) k hl2 hL hrow.out hk he.out).mono ?_); rintro e w3 ⟨rfl, hB3⟩; have hT3 := hT2.trans (hB3.mono hT2.size); have hl3 := hl2.pure hB3; have bx3 := bx2.pure hB3; have by3 := by2.pure hB3; have bz3 := bz2.pure hB3; clear bx_c0 bx_c1 bx_c2 by_c0 by_c1 by_c2 bz_c0 bz_c1 bz_c2; have bx_c0 := bx3.at 0 rfl; have bx_c1 := bx3.at 1 rfl; have bx_c2 := bx3.at 2 rfl; have by_c0 := by3.at 0 rfl; have by_c1 := by3.at 1 rfl; have by_c2 := by3.at 2 rfl; have bz_c0 := bz3.at 0 rfl; have bz_c1 := bz3.at 1 rfl; have bz_c2 := bz3.at 2 rfl) | (go_at_call 12; (with_reducible refine (rfind_yes _ _ L s (yf, yg, yb) k hl3 hrow.out.rises hL hk he.out).mono ?_); rintro e w4 ⟨rfl, hB4⟩; have hT4 := hT3.trans (hB4.mono hT3.size); have hl4 := hl3.pure hB4; have bx4 := bx3.pure hB4; have by4 := by3.pure hB4; have bz4 := bz3.pure hB4; clear bx_c0 bx_c1 bx_c2 by_c0 by_c1 by_c2 bz_c0 bz_c1 bz_c2; have bx_c0 := bx4.at 0 rfl; have bx_c1 := bx4.at 1 rfl; have bx_c2 := bx4.at 2 rfl; have by_c0 := by4.at 0 rfl; have by_c1 := by4.at 1 rfl; have by_c2 := by4.at 2 rfl; have bz_c0 := bz4.at 0 rfl; have bz_c1 := bz4.at 1 rfl; have bz_c2 := bz4.at 2 rfl) | (go_at_call 13; (with_reducible refine (hrc.out _ hl4).mono ?_); rintro e w5 ⟨rfl, hB5⟩; have hT5 := hT4.trans (hB5.mono hT4.size); have hl5 := hl4.pure hB5; have bx5 := bx4.pure hB5; have by5 := by4.pure hB5; have bz5 := bz4.pure hB5; clear bx_c0 bx_c1 bx_c2 by_c0 by_c1 by_c2 bz_c0 bz_c1 bz_c2; have bx_c0 := bx5.at 0 rfl; have bx_c1 := bx5.at 1 rfl; have bx_c2 := bx5.at 2 rfl; have by_c0 := by5.at 0 rfl; have by_c1 := by5.at 1 rfl; have by_c2 := by5.at 2 rfl; have bz_c0 := bz5.at 0 rfl; have bz_c1 := bz5.at 1 rfl; have bz_c2 := bz5.at 2 rfl))
      obtain ⟨lc0, lc1, lc2, lc3, lc4⟩ := asc_cells hl5 hk
      go_region_held3 (fun w' => w'.cell? ⟨w.heap.size, 0, none⟩ = some (.int .u32 yf) ∧ w'.cell? ⟨w.heap.size, 1, none⟩ = some (.string yg) ∧ w'.cell? ⟨w.heap.size, 2, none⟩ = some (.string yb) ∧ w'.cell? ⟨w1.heap.size, 0, none⟩ = some (.int .u32 xf) ∧ w'.cell? ⟨w1.heap.size, 1, none⟩ = some (.string xg) ∧ w'.cell? ⟨w1.heap.size, 2, none⟩ = some (.string xb) ∧ w'.cell? ⟨w2.heap.size, 0, none⟩ = some (.int .u32 xf) ∧ w'.cell? ⟨w2.heap.size, 1, none⟩ = some (.string xg) ∧ w'.cell? ⟨w2.heap.size, 2, none⟩ = some (.string xb) ∧ w'.cell? ⟨g, off + k * 5 + 4, none⟩ = some (.bool L[k].2.2)) (exact ⟨bx_c0, bx_c1, bx_c2, by_c0, by_c1, by_c2, bz_c0, bz_c1, bz_c2, lc4⟩) (first | (go_at_call 14; (with_reducible refine (hpc.out _ hl5.drew).mono ?_); rintro e w6 ⟨rfl, hB6⟩; have hT6 := (below_dr hT5).trans (hB6.mono hT5.size); have hl6 := hl5.drew.pure hB6; have bx6 := bx5.drew.pure hB6; have by6 := by5.drew.pure hB6; have bz6 := bz5.drew.pure hB6; clear bx_c0 bx_c1 bx_c2 by_c0 by_c1 by_c2 bz_c0 bz_c1 bz_c2; have bx_c0 := bx6.at 0 rfl; have bx_c1 := bx6.at 1 rfl; have bx_c2 := bx6.at 2 rfl; have by_c0 := by6.at 0 rfl; have by_c1 := by6.at 1 rfl; have by_c2 := by6.at 2 rfl; have bz_c0 := bz6.at 0 rfl; have bz_c1 := bz6.at 1 rfl; have bz_c2 := bz6.at 2 rfl; obtain ⟨lc0, lc1, lc2, lc3, lc4⟩ := asc_cells hl6 hk) | (go_at_call 13; (with_reducible refine (hrc.out _ hl6).mono ?_); rintro e w7 ⟨rfl, hB7⟩; have hT7 := hT6.trans (hB7.mono hT6.size); have hl7 := hl6.pure hB7; have bx7 := bx6.pure hB7; have by7 := by6.pure hB7; have bz7 := bz6.pure hB7; clear bx_c0 bx_c1 bx_c2 by_c0 by_c1 by_c2 bz_c0 bz_c1 bz_c2; have bx_c0 := bx7.at 0 rfl; have bx_c1 := bx7.at 1 rfl; have bx_c2 := bx7.at 2 rfl; have by_c0 := by7.at 0 rfl; have by_c1 := by7.at 1 rfl; have by_c2 := by7.at 2 rfl; have bz_c0 := bz7.at 0 rfl; have bz_c1 := bz7.at 1 rfl; have bz_c2 := bz7.at 2 rfl; obtain ⟨lc0, lc1, lc2, lc3, lc4⟩ := asc_cells hl7 hk) | (go_at_call 15; (with_reducible refine (hpn.out _ hl7).mono ?_); rintro e w8 ⟨rfl, hB8⟩; have hT8 := hT7.trans (hB8.mono hT7.size); have hl8 := hl7.pure hB8; have bx8 := bx7.pure hB8; have by8 := by7.pure hB8; have bz8 := bz7.pure hB8; clear bx_c0 bx_c1 bx_c2 by_c0 by_c1 by_c2 bz_c0 bz_c1 bz_c2; have bx_c0 := bx8.at 0 rfl; have bx_c1 := bx8.at 1 rfl; have bx_c2 := bx8.at 2 rfl; have by_c0 := by8.at 0 rfl; have by_c1 := by8.at 1 rfl; have by_c2 := by8.at 2 rfl; have bz_c0 := bz8.at 0 rfl; have bz_c1 := bz8.at 1 rfl; have bz_c2 := bz8.at 2 rfl; obtain ⟨lc0, lc1, lc2, lc3, lc4⟩ := asc_cells hl8 hk) | (go_at_call 16; (with_reducible refine (hrn.out _ hl8).mono ?_); rintro e w9 ⟨rfl, hB9⟩; have hT9 := hT8.trans (hB9.mono hT8.size); have hl9 := hl8.pure hB9; have bx9 := bx8.pure hB9; have by9 := by8.pure hB9; have bz9 := bz8.pure hB9; clear bx_c0 bx_c1 bx_c2 by_c0 by_c1 by_c2 bz_c0 bz_c1 bz_c2; have bx_c0 := bx9.at 0 rfl; have bx_c1 := bx9.at 1 rfl; have bx_c2 := bx9.at 2 rfl; have by_c0 := by9.at 0 rfl; have by_c1 := by9.at 1 rfl; have by_c2 := by9.at 2 rfl; have bz_c0 := bz9.at 0 rfl; have bz_c1 := bz9.at 1 rfl; have bz_c2 := bz9.at 2 rfl; obtain ⟨lc0, lc1, lc2, lc3, lc4⟩ := asc_cells hl9 hk) | (go_at_call 8; (with_reducible refine (head_any _).mono ?_); rintro e w10 ⟨rfl, hB10⟩; have hT10 := hT9.trans (hB10.mono hT9.size); have hl10 := hl9.pure hB10; have bx10 := bx9.pure hB10; have by10 := by9.pure hB10; have bz10 := bz9.pure hB10; clear bx_c0 bx_c1 bx_c2 by_c0 by_c1 by_c2 bz_c0 bz_c1 bz_c2; have bx_c0 := bx10.at 0 rfl; have bx_c1 := bx10.at 1 rfl; have bx_c2 := bx10.at 2 rfl; have by_c0 := by10.at 0 rfl; have by_c1 := by10.at 1 rfl; have by_c2 := by10.at 2 rfl; have bz_c0 := bz10.at 0 rfl; have bz_c1 := bz10.at 1 rfl; have bz_c2 := bz10.at 2 rfl; obtain ⟨lc0, lc1, lc2, lc3, lc4⟩ := asc_cells hl10 hk))
      go_wp2
      go_ret
      exact ⟨rfl, hT10⟩
    · have hno := Lib.hid (fun (_ : RowA L) => hmm)
      have hnm := Lib.hid hmm; clear hmm hs
      go_enter Try.func3, Try.ntmps3
      go_wp2_with (first | (go_at_call 9; (with_reducible refine (hac.out _ hl0).mono ?_); rintro e w1 ⟨rfl, hB1⟩; have hT1 := hT0.trans (hB1.mono hT0.size); have hl1 := hl0.pure hB1; have bx1 := bx0.pure hB1; clear bx_c0 bx_c1 bx_c2; have hS_1 := hT1.size; have hT1 := hT1.alloc hS_1 (.cells #[.int .u32 xf, .string xg, .string xb] 26); have hl1 := hl1.pure ((Below.refl _ _).alloc (Nat.le_refl _) (.cells #[.int .u32 xf, .string xg, .string xb] 26)); have bx1 := bx1.alloc (.cells #[.int .u32 xf, .string xg, .string xb] 26); have by1 := Blk.new w1 [.int .u32 xf, .string xg, .string xb] 26; have bx_c0 := bx1.at 0 rfl; have bx_c1 := bx1.at 1 rfl; have bx_c2 := bx1.at 2 rfl; have by_c0 := by1.at 0 rfl; have by_c1 := by1.at 1 rfl; have by_c2 := by1.at 2 rfl) | (go_at_call 10; (with_reducible refine (hra.out _ hl1).mono ?_); rintro e w2 ⟨rfl, hB2⟩; have hT2 := hT1.trans (hB2.mono hT1.size); have hl2 := hl1.pure hB2; have bx2 := bx1.pure hB2; have by2 := by1.pure hB2; clear bx_c0 bx_c1 bx_c2 by_c0 by_c1 by_c2; have hS_2 := hT2.size; have hT2 := hT2.alloc hS_2 (.cells #[.int .u32 xf, .string xg, .string xb] 26); have hl2 := hl2.pure ((Below.refl _ _).alloc (Nat.le_refl _) (.cells #[.int .u32 xf, .string xg, .string xb] 26)); have bx2 := bx2.alloc (.cells #[.int .u32 xf, .string xg, .string xb] 26); have by2 := by2.alloc (.cells #[.int .u32 xf, .string xg, .string xb] 26); have bz2 := Blk.new w2 [.int .u32 xf, .string xg, .string xb] 26; have bx_c0 := bx2.at 0 rfl; have bx_c1 := bx2.at 1 rfl; have bx_c2 := bx2.at 2 rfl; have by_c0 := by2.at 0 rfl; have by_c1 := by2.at 1 rfl; have by_c2 := by2.at 2 rfl; have bz_c0 := bz2.at 0 rfl; have bz_c1 := bz2.at 1 rfl; have bz_c2 := bz2.at 2 rfl) | (go_at_call 11; (with_reducible refine (has_no _ _ L s (yf, yg, yb) hl2 hL hno.out).mono ?_); rintro e w3 ⟨rfl, hB3⟩; have hT3 := hT2.trans (hB3.mono hT2.size); have hl3 := hl2.pure hB3; have bx3 := bx2.pure hB3; have by3 := by2.pure hB3; have bz3 := bz2.pure hB3; clear bx_c0 bx_c1 bx_c2 by_c0 by_c1 by_c2 bz_c0 bz_c1 bz_c2; have bx_c0 := bx3.at 0 rfl; have bx_c1 := bx3.at 1 rfl; have bx_c2 := bx3.at 2 rfl; have by_c0 := by3.at 0 rfl; have by_c1 := by3.at 1 rfl; have by_c2 := by3.at 2 rfl; have bz_c0 := bz3.at 0 rfl; have bz_c1 := bz3.at 1 rfl; have bz_c2 := bz3.at 2 rfl) | (go_at_call 12; (with_reducible refine (rfind_no _ _ L s (yf, yg, yb) hl3 hL hnm.out).mono ?_); rintro e w4 ⟨rfl, hB4⟩; have hT4 := hT3.trans (hB4.mono hT3.size); have hl4 := hl3.pure hB4; have bx4 := bx3.pure hB4; have by4 := by3.pure hB4; have bz4 := bz3.pure hB4; clear bx_c0 bx_c1 bx_c2 by_c0 by_c1 by_c2 bz_c0 bz_c1 bz_c2; have bx_c0 := bx4.at 0 rfl; have bx_c1 := bx4.at 1 rfl; have bx_c2 := bx4.at 2 rfl; have by_c0 := by4.at 0 rfl; have by_c1 := by4.at 1 rfl; have by_c2 := by4.at 2 rfl; have bz_c0 := bz4.at 0 rfl; have bz_c1 := bz4.at 1 rfl; have bz_c2 := bz4.at 2 rfl) | (go_at_call 13; (with_reducible refine (hrc.out _ hl4).mono ?_); rintro e w5 ⟨rfl, hB5⟩; have hT5 := hT4.trans (hB5.mono hT4.size); have hl5 := hl4.pure hB5; have bx5 := bx4.pure hB5; have by5 := by4.pure hB5; have bz5 := bz4.pure hB5; clear bx_c0 bx_c1 bx_c2 by_c0 by_c1 by_c2 bz_c0 bz_c1 bz_c2; have bx_c0 := bx5.at 0 rfl; have bx_c1 := bx5.at 1 rfl; have bx_c2 := bx5.at 2 rfl; have by_c0 := by5.at 0 rfl; have by_c1 := by5.at 1 rfl; have by_c2 := by5.at 2 rfl; have bz_c0 := bz5.at 0 rfl; have bz_c1 := bz5.at 1 rfl; have bz_c2 := bz5.at 2 rfl))
      refine wp_region_held_drew (S := (fun w' => w'.cell? ⟨w.heap.size, 0, none⟩ = some (.int .u32 yf) ∧ w'.cell? ⟨w.heap.size, 1, none⟩ = some (.string yg) ∧ w'.cell? ⟨w.heap.size, 2, none⟩ = some (.string yb) ∧ w'.cell? ⟨w1.heap.size, 0, none⟩ = some (.int .u32 xf) ∧ w'.cell? ⟨w1.heap.size, 1, none⟩ = some (.string xg) ∧ w'.cell? ⟨w1.heap.size, 2, none⟩ = some (.string xb) ∧ w'.cell? ⟨w2.heap.size, 0, none⟩ = some (.int .u32 xf) ∧ w'.cell? ⟨w2.heap.size, 1, none⟩ = some (.string xg) ∧ w'.cell? ⟨w2.heap.size, 2, none⟩ = some (.string xb))) (by kernel_rfl) ?_ (fun hHeld => ?_)
      · (exact ⟨bx_c0, bx_c1, bx_c2, by_c0, by_c1, by_c2, bz_c0, bz_c1, bz_c2⟩)
      refine takeH 0 44 (v := ?_) rfl rfl (by kernel_rfl) (by kernel_rfl) (by kernel_rfl) (fun _ _ _ h => h) (Or.inl ⟨by kernel_rfl, ?_⟩) hHeld ?_
      rotate_left 1
      · (intro w hSw; (try dsimp only at hSw); go_simp; (try with_reducible rfl))
      try simp only [Act.put, List.setIfInBounds_toArray, List.set_cons_zero, List.set_cons_succ]
      refine takeH 2 46 (v := ?_) rfl rfl (by kernel_rfl) (by kernel_rfl) (by kernel_rfl) (fun _ _ _ h => h) (Or.inl ⟨by kernel_rfl, ?_⟩) hHeld ?_
      rotate_left 1
      · (intro w hSw; (try dsimp only at hSw); go_simp; (try with_reducible rfl))
      try simp only [Act.put, List.setIfInBounds_toArray, List.set_cons_zero, List.set_cons_succ]
      refine wpAnyH_ready (rs := [1]) (by kernel_rfl) (by simp) ?_
      refine AllReadyH.cons rfl (fun K hK => ?_) AllReadyH.nil
      go_simp
      (go_at_call 14; (with_reducible refine (hpc.out _ hl5.drew).mono ?_); rintro e w6 ⟨rfl, hB6⟩; have hT6 := (below_dr hT5).trans (hB6.mono hT5.size); have hl6 := hl5.drew.pure hB6; have bx6 := bx5.drew.pure hB6; have by6 := by5.drew.pure hB6; have bz6 := bz5.drew.pure hB6; clear bx_c0 bx_c1 bx_c2 by_c0 by_c1 by_c2 bz_c0 bz_c1 bz_c2; have bx_c0 := bx6.at 0 rfl; have bx_c1 := bx6.at 1 rfl; have bx_c2 := bx6.at 2 rfl; have by_c0 := by6.at 0 rfl; have by_c1 := by6.at 1 rfl; have by_c2 := by6.at 2 rfl; have bz_c0 := bz6.at 0 rfl; have bz_c1 := bz6.at 1 rfl; have bz_c2 := bz6.at 2 rfl)
      refine hK.out _ _ ?_ (fun hHeld => ?_)
      · (exact ⟨bx_c0, bx_c1, bx_c2, by_c0, by_c1, by_c2, bz_c0, bz_c1, bz_c2⟩)
      clear hK K
      try simp only [Act.put, List.setIfInBounds_toArray, List.set_cons_zero, List.set_cons_succ]
      refine wpAnyH_ready (rs := [3]) (by kernel_rfl) (by simp) ?_
      refine AllReadyH.cons rfl (fun K hK => ?_) AllReadyH.nil
      go_simp
      (go_at_call 13; (with_reducible refine (hrc.out _ hl6).mono ?_); rintro e w7 ⟨rfl, hB7⟩; have hT7 := hT6.trans (hB7.mono hT6.size); have hl7 := hl6.pure hB7; have bx7 := bx6.pure hB7; have by7 := by6.pure hB7; have bz7 := bz6.pure hB7; clear bx_c0 bx_c1 bx_c2 by_c0 by_c1 by_c2 bz_c0 bz_c1 bz_c2; have bx_c0 := bx7.at 0 rfl; have bx_c1 := bx7.at 1 rfl; have bx_c2 := bx7.at 2 rfl; have by_c0 := by7.at 0 rfl; have by_c1 := by7.at 1 rfl; have by_c2 := by7.at 2 rfl; have bz_c0 := bz7.at 0 rfl; have bz_c1 := bz7.at 1 rfl; have bz_c2 := bz7.at 2 rfl)
      refine hK.out _ _ ?_ (fun hHeld => ?_)
      · (exact ⟨bx_c0, bx_c1, bx_c2, by_c0, by_c1, by_c2, bz_c0, bz_c1, bz_c2⟩)
      clear hK K
      try simp only [Act.put, List.setIfInBounds_toArray, List.set_cons_zero, List.set_cons_succ]
      refine takeH 4 48 (v := ?_) rfl rfl (by kernel_rfl) (by kernel_rfl) (by kernel_rfl) (fun _ _ _ h => h) (Or.inl ⟨by kernel_rfl, ?_⟩) hHeld ?_
      rotate_left 1
      · (intro w hSw; (try dsimp only at hSw); go_simp; (try with_reducible rfl))
      try simp only [Act.put, List.setIfInBounds_toArray, List.set_cons_zero, List.set_cons_succ]
      refine takeH 5 49 (v := ?_) rfl rfl (by kernel_rfl) (by kernel_rfl) (by kernel_rfl) (fun _ _ _ h => h) (Or.inl ⟨by kernel_rfl, ?_⟩) hHeld ?_
      rotate_left 1
      · (intro w hSw; (try dsimp only at hSw); go_simp; (try with_reducible rfl))
      try simp only [Act.put, List.setIfInBounds_toArray, List.set_cons_zero, List.set_cons_succ]
      refine takeH 6 50 (v := ?_) rfl rfl (by kernel_rfl) (by kernel_rfl) (by kernel_rfl) (fun _ _ _ h => h) (Or.inl ⟨by kernel_rfl, ?_⟩) hHeld ?_
      rotate_left 1
      · (intro w hSw; (try dsimp only at hSw); go_simp; (try with_reducible rfl))
      try simp only [Act.put, List.setIfInBounds_toArray, List.set_cons_zero, List.set_cons_succ]
      refine takeH 7 51 (v := ?_) rfl rfl (by kernel_rfl) (by kernel_rfl) (by kernel_rfl) (fun _ _ _ h => h) (Or.inl ⟨by kernel_rfl, ?_⟩) hHeld ?_
      rotate_left 1
      · (intro w hSw; (try dsimp only at hSw); go_simp; (try with_reducible rfl))
      try simp only [Act.put, List.setIfInBounds_toArray, List.set_cons_zero, List.set_cons_succ]
      refine takeH 8 52 (v := ?_) rfl rfl (by kernel_rfl) (by kernel_rfl) (by kernel_rfl) (fun _ _ _ h => h) (Or.inl ⟨by kernel_rfl, ?_⟩) hHeld ?_
      rotate_left 1
      · (intro w hSw; (try dsimp only at hSw); go_simp; (try with_reducible rfl))
      try simp only [Act.put, List.setIfInBounds_toArray, List.set_cons_zero, List.set_cons_succ]
      refine takeH 9 53 (v := ?_) rfl rfl (by kernel_rfl) (by kernel_rfl) (by kernel_rfl) (fun _ _ _ h => h) (Or.inl ⟨by kernel_rfl, ?_⟩) hHeld ?_
      rotate_left 1
      · (intro w hSw; (try dsimp only at hSw); go_simp; (try with_reducible rfl))
      try simp only [Act.put, List.setIfInBounds_toArray, List.set_cons_zero, List.set_cons_succ]
      refine takeH 10 54 (v := ?_) rfl rfl (by kernel_rfl) (by kernel_rfl) (by kernel_rfl) (fun _ _ _ h => h) (Or.inl ⟨by kernel_rfl, ?_⟩) hHeld ?_
      rotate_left 1
      · (intro w hSw; (try dsimp only at hSw); go_simp; (try with_reducible rfl))
      try simp only [Act.put, List.setIfInBounds_toArray, List.set_cons_zero, List.set_cons_succ]
      refine takeH 11 55 (v := ?_) rfl rfl (by kernel_rfl) (by kernel_rfl) (by kernel_rfl) (fun _ _ _ h => h) (Or.inl ⟨by kernel_rfl, ?_⟩) hHeld ?_
      rotate_left 1
      · (intro w hSw; (try dsimp only at hSw); go_simp; (try with_reducible rfl))
      try simp only [Act.put, List.setIfInBounds_toArray, List.set_cons_zero, List.set_cons_succ]
      refine takeH 12 56 (v := ?_) rfl rfl (by kernel_rfl) (by kernel_rfl) (by kernel_rfl) (fun _ _ _ h => h) (Or.inl ⟨by kernel_rfl, ?_⟩) hHeld ?_
      rotate_left 1
      · (intro w hSw; (try dsimp only at hSw); go_simp; (try with_reducible rfl))
      try simp only [Act.put, List.setIfInBounds_toArray, List.set_cons_zero, List.set_cons_succ]
      refine takeH 13 57 (v := ?_) rfl rfl (by kernel_rfl) (by kernel_rfl) (by kernel_rfl) (fun _ _ _ h => h) (Or.inl ⟨by kernel_rfl, ?_⟩) hHeld ?_
      rotate_left 1
      · (intro w hSw; (try dsimp only at hSw); go_simp; (try with_reducible rfl))
      try simp only [Act.put, List.setIfInBounds_toArray, List.set_cons_zero, List.set_cons_succ]
      refine takeH 14 58 (v := ?_) rfl rfl (by kernel_rfl) (by kernel_rfl) (by kernel_rfl) (fun _ _ _ h => h) (Or.inl ⟨by kernel_rfl, ?_⟩) hHeld ?_
      rotate_left 1
      · (intro w hSw; (try dsimp only at hSw); go_simp; (try with_reducible rfl))
      try simp only [Act.put, List.setIfInBounds_toArray, List.set_cons_zero, List.set_cons_succ]
      refine takeH 15 59 (v := ?_) rfl rfl (by kernel_rfl) (by kernel_rfl) (by kernel_rfl) (fun _ _ _ h => h) (Or.inl ⟨by kernel_rfl, ?_⟩) hHeld ?_
      rotate_left 1
      · (intro w hSw; (try dsimp only at hSw); go_simp; (try with_reducible rfl))
      try simp only [Act.put, List.setIfInBounds_toArray, List.set_cons_zero, List.set_cons_succ]
      refine takeH 16 60 (v := ?_) rfl rfl (by kernel_rfl) (by kernel_rfl) (by kernel_rfl) (fun _ _ _ h => h) (Or.inl ⟨by kernel_rfl, ?_⟩) hHeld ?_
      rotate_left 1
      · (intro w hSw; (try dsimp only at hSw); go_simp; (try with_reducible rfl))
      try simp only [Act.put, List.setIfInBounds_toArray, List.set_cons_zero, List.set_cons_succ]
      refine takeH 17 61 (v := ?_) rfl rfl (by kernel_rfl) (by kernel_rfl) (by kernel_rfl) (fun _ _ _ h => h) (Or.inl ⟨by kernel_rfl, ?_⟩) hHeld ?_
      rotate_left 1
      · (intro w hSw; (try dsimp only at hSw); go_simp; (try with_reducible rfl))
      try simp only [Act.put, List.setIfInBounds_toArray, List.set_cons_zero, List.set_cons_succ]
      refine takeH 18 62 (v := ?_) rfl rfl (by kernel_rfl) (by kernel_rfl) (by kernel_rfl) (fun _ _ _ h => h) (Or.inl ⟨by kernel_rfl, ?_⟩) hHeld ?_
      rotate_left 1
      · (intro w hSw; (try dsimp only at hSw); go_simp; (try with_reducible rfl))
      try simp only [Act.put, List.setIfInBounds_toArray, List.set_cons_zero, List.set_cons_succ]
      refine takeH 19 63 (v := ?_) rfl rfl (by kernel_rfl) (by kernel_rfl) (by kernel_rfl) (fun _ _ _ h => h) (Or.inl ⟨by kernel_rfl, ?_⟩) hHeld ?_
      rotate_left 1
      · (intro w hSw; (try dsimp only at hSw); go_simp; (try with_reducible rfl))
      try simp only [Act.put, List.setIfInBounds_toArray, List.set_cons_zero, List.set_cons_succ]
      refine takeH 20 64 (v := ?_) rfl rfl (by kernel_rfl) (by kernel_rfl) (by kernel_rfl) (fun _ _ _ h => h) (Or.inl ⟨by kernel_rfl, ?_⟩) hHeld ?_
      rotate_left 1
      · (intro w hSw; (try dsimp only at hSw); go_simp; (try with_reducible rfl))
      try simp only [Act.put, List.setIfInBounds_toArray, List.set_cons_zero, List.set_cons_succ]
      refine takeH 21 65 (v := ?_) rfl rfl (by kernel_rfl) (by kernel_rfl) (by kernel_rfl) (fun _ _ _ h => h) (Or.inl ⟨by kernel_rfl, ?_⟩) hHeld ?_
      rotate_left 1
      · (intro w hSw; (try dsimp only at hSw); go_simp; (try with_reducible rfl))
      try simp only [Act.put, List.setIfInBounds_toArray, List.set_cons_zero, List.set_cons_succ]
      refine takeH 22 66 (v := ?_) rfl rfl (by kernel_rfl) (by kernel_rfl) (by kernel_rfl) (fun _ _ _ h => h) (Or.inl ⟨by kernel_rfl, ?_⟩) hHeld ?_
      rotate_left 1
      · (intro w hSw; (try dsimp only at hSw); go_simp; (try with_reducible rfl))
      try simp only [Act.put, List.setIfInBounds_toArray, List.set_cons_zero, List.set_cons_succ]
      refine takeH 23 67 (v := ?_) rfl rfl (by kernel_rfl) (by kernel_rfl) (by kernel_rfl) (fun _ _ _ h => h) (Or.inl ⟨by kernel_rfl, ?_⟩) hHeld ?_
      rotate_left 1
      · (intro w hSw; (try dsimp only at hSw); go_simp; (try with_reducible rfl))
      try simp only [Act.put, List.setIfInBounds_toArray, List.set_cons_zero, List.set_cons_succ]
      refine takeH 24 68 (v := ?_) rfl rfl (by kernel_rfl) (by kernel_rfl) (by kernel_rfl) (fun _ _ _ h => h) (Or.inl ⟨by kernel_rfl, ?_⟩) hHeld ?_
      rotate_left 1
      · (intro w hSw; (try dsimp only at hSw); go_simp; (try with_reducible rfl))
      try simp only [Act.put, List.setIfInBounds_toArray, List.set_cons_zero, List.set_cons_succ]
      refine takeH 25 69 (v := ?_) rfl rfl (by kernel_rfl) (by kernel_rfl) (by kernel_rfl) (fun _ _ _ h => h) (Or.inl ⟨by kernel_rfl, ?_⟩) hHeld ?_
      rotate_left 1
      · (intro w hSw; (try dsimp only at hSw); go_simp; (try with_reducible rfl))
      try simp only [Act.put, List.setIfInBounds_toArray, List.set_cons_zero, List.set_cons_succ]
      refine takeH 26 70 (v := undef) rfl rfl (by kernel_rfl) (by kernel_rfl) (by kernel_rfl) (fun _ _ _ h => h) (Or.inr ⟨by kernel_rfl, rfl⟩) hHeld ?_
      try simp only [Act.put, List.setIfInBounds_toArray, List.set_cons_zero, List.set_cons_succ]
      refine takeH 27 71 (v := undef) rfl rfl (by kernel_rfl) (by kernel_rfl) (by kernel_rfl) (fun _ _ _ h => h) (Or.inr ⟨by kernel_rfl, rfl⟩) hHeld ?_
      try simp only [Act.put, List.setIfInBounds_toArray, List.set_cons_zero, List.set_cons_succ]
      refine takeH 28 72 (v := undef) rfl rfl (by kernel_rfl) (by kernel_rfl) (by kernel_rfl) (fun _ _ _ h => h) (Or.inr ⟨by kernel_rfl, rfl⟩) hHeld ?_
      try simp only [Act.put, List.setIfInBounds_toArray, List.set_cons_zero, List.set_cons_succ]
      refine takeH 29 73 (v := undef) rfl rfl (by kernel_rfl) (by kernel_rfl) (by kernel_rfl) (fun _ _ _ h => h) (Or.inr ⟨by kernel_rfl, rfl⟩) hHeld ?_
      try simp only [Act.put, List.setIfInBounds_toArray, List.set_cons_zero, List.set_cons_succ]
      refine takeH 30 74 (v := undef) rfl rfl (by kernel_rfl) (by kernel_rfl) (by kernel_rfl) (fun _ _ _ h => h) (Or.inr ⟨by kernel_rfl, rfl⟩) hHeld ?_
      try simp only [Act.put, List.setIfInBounds_toArray, List.set_cons_zero, List.set_cons_succ]
      refine takeH 31 75 (v := ?_) rfl rfl (by kernel_rfl) (by kernel_rfl) (by kernel_rfl) (fun _ _ _ h => h) (Or.inl ⟨by kernel_rfl, ?_⟩) hHeld ?_
      rotate_left 1
      · (intro w hSw; (try dsimp only at hSw); go_simp; (try with_reducible rfl))
      try simp only [Act.put, List.setIfInBounds_toArray, List.set_cons_zero, List.set_cons_succ]
      refine takeH 32 76 (v := ?_) rfl rfl (by kernel_rfl) (by kernel_rfl) (by kernel_rfl) (fun _ _ _ h => h) (Or.inl ⟨by kernel_rfl, ?_⟩) hHeld ?_
      rotate_left 1
      · (intro w hSw; (try dsimp only at hSw); go_simp; (try with_reducible rfl))
      try simp only [Act.put, List.setIfInBounds_toArray, List.set_cons_zero, List.set_cons_succ]
      refine takeH 33 77 (v := ?_) rfl rfl (by kernel_rfl) (by kernel_rfl) (by kernel_rfl) (fun _ _ _ h => h) (Or.inl ⟨by kernel_rfl, ?_⟩) hHeld ?_
      rotate_left 1
      · (intro w hSw; (try dsimp only at hSw); go_simp; (try with_reducible rfl))
      try simp only [Act.put, List.setIfInBounds_toArray, List.set_cons_zero, List.set_cons_succ]
      refine takeH 34 78 (v := ?_) rfl rfl (by kernel_rfl) (by kernel_rfl) (by kernel_rfl) (fun _ _ _ h => h) (Or.inl ⟨by kernel_rfl, ?_⟩) hHeld ?_
      rotate_left 1
      · (intro w hSw; (try dsimp only at hSw); go_simp; (try with_reducible rfl))
      try simp only [Act.put, List.setIfInBounds_toArray, List.set_cons_zero, List.set_cons_succ]
      refine takeH 35 79 (v := ?_) rfl rfl (by kernel_rfl) (by kernel_rfl) (by kernel_rfl) (fun _ _ _ h => h) (Or.inl ⟨by kernel_rfl, ?_⟩) hHeld ?_
      rotate_left 1
      · (intro w hSw; (try dsimp only at hSw); go_simp; (try with_reducible rfl))
      try simp only [Act.put, List.setIfInBounds_toArray, List.set_cons_zero, List.set_cons_succ]
      refine takeH 36 80 (v := ?_) rfl rfl (by kernel_rfl) (by kernel_rfl) (by kernel_rfl) (fun _ _ _ h => h) (Or.inl ⟨by kernel_rfl, ?_⟩) hHeld ?_
      rotate_left 1
      · (intro w hSw; (try dsimp only at hSw); go_simp; (try with_reducible rfl))
      try simp only [Act.put, List.setIfInBounds_toArray, List.set_cons_zero, List.set_cons_succ]
      refine takeH 38 82 (v := ?_) rfl rfl (by kernel_rfl) (by kernel_rfl) (by kernel_rfl) (fun _ _ _ h => h) (Or.inl ⟨by kernel_rfl, ?_⟩) hHeld ?_
      rotate_left 1
      · (intro w hSw; (try dsimp only at hSw); go_simp; (try with_reducible rfl))
      try simp only [Act.put, List.setIfInBounds_toArray, List.set_cons_zero, List.set_cons_succ]
      refine takeH 39 83 (v := ?_) rfl rfl (by kernel_rfl) (by kernel_rfl) (by kernel_rfl) (fun _ _ _ h => h) (Or.inl ⟨by kernel_rfl, ?_⟩) hHeld ?_
      rotate_left 1
      · (intro w hSw; (try dsimp only at hSw); go_simp; (try with_reducible rfl))
      try simp only [Act.put, List.setIfInBounds_toArray, List.set_cons_zero, List.set_cons_succ]
      refine wpAnyH_ready (rs := [37]) (by kernel_rfl) (by simp) ?_
      refine AllReadyH.cons rfl (fun K hK => ?_) AllReadyH.nil
      go_simp
      (go_at_call 15; (with_reducible refine (hpn.out _ hl7).mono ?_); rintro e w8 ⟨rfl, hB8⟩; have hT8 := hT7.trans (hB8.mono hT7.size); have hl8 := hl7.pure hB8; have bx8 := bx7.pure hB8; have by8 := by7.pure hB8; have bz8 := bz7.pure hB8; clear bx_c0 bx_c1 bx_c2 by_c0 by_c1 by_c2 bz_c0 bz_c1 bz_c2; have bx_c0 := bx8.at 0 rfl; have bx_c1 := bx8.at 1 rfl; have bx_c2 := bx8.at 2 rfl; have by_c0 := by8.at 0 rfl; have by_c1 := by8.at 1 rfl; have by_c2 := by8.at 2 rfl; have bz_c0 := bz8.at 0 rfl; have bz_c1 := bz8.at 1 rfl; have bz_c2 := bz8.at 2 rfl)
      refine hK.out _ _ ?_ (fun hHeld => ?_)
      · (exact ⟨bx_c0, bx_c1, bx_c2, by_c0, by_c1, by_c2, bz_c0, bz_c1, bz_c2⟩)
      clear hK K
      try simp only [Act.put, List.setIfInBounds_toArray, List.set_cons_zero, List.set_cons_succ]
      refine wpAnyH_ready (rs := [40]) (by kernel_rfl) (by simp) ?_
      refine AllReadyH.cons rfl (fun K hK => ?_) AllReadyH.nil
      go_simp
      (go_at_call 16; (with_reducible refine (hrn.out _ hl8).mono ?_); rintro e w9 ⟨rfl, hB9⟩; have hT9 := hT8.trans (hB9.mono hT8.size); have hl9 := hl8.pure hB9; have bx9 := bx8.pure hB9; have by9 := by8.pure hB9; have bz9 := bz8.pure hB9; clear bx_c0 bx_c1 bx_c2 by_c0 by_c1 by_c2 bz_c0 bz_c1 bz_c2; have bx_c0 := bx9.at 0 rfl; have bx_c1 := bx9.at 1 rfl; have bx_c2 := bx9.at 2 rfl; have by_c0 := by9.at 0 rfl; have by_c1 := by9.at 1 rfl; have by_c2 := by9.at 2 rfl; have bz_c0 := bz9.at 0 rfl; have bz_c1 := bz9.at 1 rfl; have bz_c2 := bz9.at 2 rfl)
      refine hK.out _ _ ?_ (fun hHeld => ?_)
      · (exact ⟨bx_c0, bx_c1, bx_c2, by_c0, by_c1, by_c2, bz_c0, bz_c1, bz_c2⟩)
      clear hK K
      try simp only [Act.put, List.setIfInBounds_toArray, List.set_cons_zero, List.set_cons_succ]
      refine takeH 41 85 (v := ?_) rfl rfl (by kernel_rfl) (by kernel_rfl) (by kernel_rfl) (fun _ _ _ h => h) (Or.inl ⟨by kernel_rfl, ?_⟩) hHeld ?_
      rotate_left 1
      · (intro w hSw; (try dsimp only at hSw); go_simp; (try with_reducible rfl))
      try simp only [Act.put, List.setIfInBounds_toArray, List.set_cons_zero, List.set_cons_succ]
      refine takeH 42 86 (v := ?_) rfl rfl (by kernel_rfl) (by kernel_rfl) (by kernel_rfl) (fun _ _ _ h => h) (Or.inl ⟨by kernel_rfl, ?_⟩) hHeld ?_
      rotate_left 1
      · (intro w hSw; (try dsimp only at hSw); go_simp; (try with_reducible rfl))
      try simp only [Act.put, List.setIfInBounds_toArray, List.set_cons_zero, List.set_cons_succ]
      refine takeH 43 87 (v := ?_) rfl rfl (by kernel_rfl) (by kernel_rfl) (by kernel_rfl) (fun _ _ _ h => h) (Or.inl ⟨by kernel_rfl, ?_⟩) hHeld ?_
      rotate_left 1
      · (intro w hSw; (try dsimp only at hSw); go_simp; (try with_reducible rfl))
      try simp only [Act.put, List.setIfInBounds_toArray, List.set_cons_zero, List.set_cons_succ]
      refine wpAnyH_ready (rs := [44]) (by kernel_rfl) (by simp) ?_
      refine AllReadyH.cons rfl (fun K hK => ?_) AllReadyH.nil
      go_simp
      (go_at_call 8; (with_reducible refine (head_any _).mono ?_); rintro e w10 ⟨rfl, hB10⟩; have hT10 := hT9.trans (hB10.mono hT9.size); have hl10 := hl9.pure hB10; have bx10 := bx9.pure hB10; have by10 := by9.pure hB10; have bz10 := bz9.pure hB10; clear bx_c0 bx_c1 bx_c2 by_c0 by_c1 by_c2 bz_c0 bz_c1 bz_c2; have bx_c0 := bx10.at 0 rfl; have bx_c1 := bx10.at 1 rfl; have bx_c2 := bx10.at 2 rfl; have by_c0 := by10.at 0 rfl; have by_c1 := by10.at 1 rfl; have by_c2 := by10.at 2 rfl; have bz_c0 := bz10.at 0 rfl; have bz_c1 := bz10.at 1 rfl; have bz_c2 := bz10.at 2 rfl)
      refine hK.out _ _ ?_ (fun hHeld => ?_)
      · (exact ⟨bx_c0, bx_c1, bx_c2, by_c0, by_c1, by_c2, bz_c0, bz_c1, bz_c2⟩)
      clear hK K
      try simp only [Act.put, List.setIfInBounds_toArray, List.set_cons_zero, List.set_cons_succ]
      refine takeH 45 89 (v := ?_) rfl rfl (by kernel_rfl) (by kernel_rfl) (by kernel_rfl) (fun _ _ _ h => h) (Or.inl ⟨by kernel_rfl, ?_⟩) hHeld ?_
      rotate_left 1
      · (intro w hSw; (try dsimp only at hSw); go_simp; (try with_reducible rfl))
      try simp only [Act.put, List.setIfInBounds_toArray, List.set_cons_zero, List.set_cons_succ]
      refine takeH 46 6 (v := ?_) rfl rfl (by kernel_rfl) (by kernel_rfl) (by kernel_rfl) (fun _ _ _ h => h) (Or.inl ⟨by kernel_rfl, ?_⟩) hHeld ?_
      rotate_left 1
      · (intro w hSw; (try dsimp only at hSw); go_simp; (try with_reducible rfl))
      try simp only [Act.put, List.setIfInBounds_toArray, List.set_cons_zero, List.set_cons_succ]
      refine wpAnyH_done (by kernel_rfl) ?_ _
      go_wp2
      go_ret
      exact ⟨rfl, hT10⟩
  · have hno := Lib.hid (fun (h : RowA L) => (absurd h h1 : ¬ Mem L s (yf, yg, yb)))
    rw [h2] at hpc hrc
    clear h1 h2 hs
    go_enter Try.func3, Try.ntmps3
    go_wp2_with (first | (go_at_call 9; (with_reducible refine (hac.out _ hl0).mono ?_); rintro e w1 ⟨rfl, hB1⟩; have hT1 := hT0.trans (hB1.mono hT0.size); have hl1 := hl0.pure hB1; have bx1 := bx0.pure hB1; clear bx_c0 bx_c1 bx_c2; have hS_1 := hT1.size; have hT1 := hT1.alloc hS_1 (.cells #[.int .u32 xf, .string xg, .string xb] 26); have hl1 := hl1.pure ((Below.refl _ _).alloc (Nat.le_refl _) (.cells #[.int .u32 xf, .string xg, .string xb] 26)); have bx1 := bx1.alloc (.cells #[.int .u32 xf, .string xg, .string xb] 26); have by1 := Blk.new w1 [.int .u32 xf, .string xg, .string xb] 26; have bx_c0 := bx1.at 0 rfl; have bx_c1 := bx1.at 1 rfl; have bx_c2 := bx1.at 2 rfl; have by_c0 := by1.at 0 rfl; have by_c1 := by1.at 1 rfl; have by_c2 := by1.at 2 rfl) | (go_at_call 10; (with_reducible refine (hra.out _ hl1).mono ?_); rintro e w2 ⟨rfl, hB2⟩; have hT2 := hT1.trans (hB2.mono hT1.size); have hl2 := hl1.pure hB2; have bx2 := bx1.pure hB2; have by2 := by1.pure hB2; clear bx_c0 bx_c1 bx_c2 by_c0 by_c1 by_c2; have hS_2 := hT2.size; have hT2 := hT2.alloc hS_2 (.cells #[.int .u32 xf, .string xg, .string xb] 26); have hl2 := hl2.pure ((Below.refl _ _).alloc (Nat.le_refl _) (.cells #[.int .u32 xf, .string xg, .string xb] 26)); have bx2 := bx2.alloc (.cells #[.int .u32 xf, .string xg, .string xb] 26); have by2 := by2.alloc (.cells #[.int .u32 xf, .string xg, .string xb] 26); have bz2 := Blk.new w2 [.int .u32 xf, .string xg, .string xb] 26; have bx_c0 := bx2.at 0 rfl; have bx_c1 := bx2.at 1 rfl; have bx_c2 := bx2.at 2 rfl; have by_c0 := by2.at 0 rfl; have by_c1 := by2.at 1 rfl; have by_c2 := by2.at 2 rfl; have bz_c0 := bz2.at 0 rfl; have bz_c1 := bz2.at 1 rfl; have bz_c2 := bz2.at 2 rfl) | (go_at_call 11; (with_reducible refine (has_no _ _ L s (yf, yg, yb) hl2 hL hno.out).mono ?_); rintro e w3 ⟨rfl, hB3⟩; have hT3 := hT2.trans (hB3.mono hT2.size); have hl3 := hl2.pure hB3; have bx3 := bx2.pure hB3; have by3 := by2.pure hB3; have bz3 := bz2.pure hB3; clear bx_c0 bx_c1 bx_c2 by_c0 by_c1 by_c2 bz_c0 bz_c1 bz_c2; have bx_c0 := bx3.at 0 rfl; have bx_c1 := bx3.at 1 rfl; have bx_c2 := bx3.at 2 rfl; have by_c0 := by3.at 0 rfl; have by_c1 := by3.at 1 rfl; have by_c2 := by3.at 2 rfl; have bz_c0 := bz3.at 0 rfl; have bz_c1 := bz3.at 1 rfl; have bz_c2 := bz3.at 2 rfl) | (go_at_call 12; (with_reducible refine (find_any _ _ L s (yf, yg, yb) hl3 hL).mono ?_); rintro e w4 ⟨⟨i, rfl, -⟩, hB4⟩; have hT4 := hT3.trans (hB4.mono hT3.size); have hl4 := hl3.pure hB4; have bx4 := bx3.pure hB4; have by4 := by3.pure hB4; have bz4 := bz3.pure hB4; clear bx_c0 bx_c1 bx_c2 by_c0 by_c1 by_c2 bz_c0 bz_c1 bz_c2; have bx_c0 := bx4.at 0 rfl; have bx_c1 := bx4.at 1 rfl; have bx_c2 := bx4.at 2 rfl; have by_c0 := by4.at 0 rfl; have by_c1 := by4.at 1 rfl; have by_c2 := by4.at 2 rfl; have bz_c0 := bz4.at 0 rfl; have bz_c1 := bz4.at 1 rfl; have bz_c2 := bz4.at 2 rfl) | (go_at_call 13; (with_reducible refine (hrc.out _ hl4).mono ?_); rintro e w5 ⟨rfl, hB5⟩; have hT5 := hT4.trans (hB5.mono hT4.size); have hl5 := hl4.pure hB5; have bx5 := bx4.pure hB5; have by5 := by4.pure hB5; have bz5 := bz4.pure hB5; clear bx_c0 bx_c1 bx_c2 by_c0 by_c1 by_c2 bz_c0 bz_c1 bz_c2; have bx_c0 := bx5.at 0 rfl; have bx_c1 := bx5.at 1 rfl; have bx_c2 := bx5.at 2 rfl; have by_c0 := by5.at 0 rfl; have by_c1 := by5.at 1 rfl; have by_c2 := by5.at 2 rfl; have bz_c0 := bz5.at 0 rfl; have bz_c1 := bz5.at 1 rfl; have bz_c2 := bz5.at 2 rfl))
    refine wp_region_held_drew (S := (fun w' => w'.cell? ⟨w.heap.size, 0, none⟩ = some (.int .u32 yf) ∧ w'.cell? ⟨w.heap.size, 1, none⟩ = some (.string yg) ∧ w'.cell? ⟨w.heap.size, 2, none⟩ = some (.string yb) ∧ w'.cell? ⟨w1.heap.size, 0, none⟩ = some (.int .u32 xf) ∧ w'.cell? ⟨w1.heap.size, 1, none⟩ = some (.string xg) ∧ w'.cell? ⟨w1.heap.size, 2, none⟩ = some (.string xb) ∧ w'.cell? ⟨w2.heap.size, 0, none⟩ = some (.int .u32 xf) ∧ w'.cell? ⟨w2.heap.size, 1, none⟩ = some (.string xg) ∧ w'.cell? ⟨w2.heap.size, 2, none⟩ = some (.string xb))) (by kernel_rfl) ?_ (fun hHeld => ?_)
    · (exact ⟨bx_c0, bx_c1, bx_c2, by_c0, by_c1, by_c2, bz_c0, bz_c1, bz_c2⟩)
    refine takeH 0 44 (v := ?_) rfl rfl (by kernel_rfl) (by kernel_rfl) (by kernel_rfl) (fun _ _ _ h => h) (Or.inl ⟨by kernel_rfl, ?_⟩) hHeld ?_
    rotate_left 1
    · (intro w hSw; (try dsimp only at hSw); go_simp; (try with_reducible rfl))
    try simp only [Act.put, List.setIfInBounds_toArray, List.set_cons_zero, List.set_cons_succ]
    refine takeH 2 46 (v := ?_) rfl rfl (by kernel_rfl) (by kernel_rfl) (by kernel_rfl) (fun _ _ _ h => h) (Or.inl ⟨by kernel_rfl, ?_⟩) hHeld ?_
    rotate_left 1
    · (intro w hSw; (try dsimp only at hSw); go_simp; (try with_reducible rfl))
    try simp only [Act.put, List.setIfInBounds_toArray, List.set_cons_zero, List.set_cons_succ]
    refine wpAnyH_ready (rs := [1]) (by kernel_rfl) (by simp) ?_
    refine AllReadyH.cons rfl (fun K hK => ?_) AllReadyH.nil
    go_simp
    (go_at_call 14; (with_reducible refine (hpc.out _ hl5.drew).mono ?_); rintro e w6 ⟨rfl, hB6⟩; have hT6 := (below_dr hT5).trans (hB6.mono hT5.size); have hl6 := hl5.drew.pure hB6; have bx6 := bx5.drew.pure hB6; have by6 := by5.drew.pure hB6; have bz6 := bz5.drew.pure hB6; clear bx_c0 bx_c1 bx_c2 by_c0 by_c1 by_c2 bz_c0 bz_c1 bz_c2; have bx_c0 := bx6.at 0 rfl; have bx_c1 := bx6.at 1 rfl; have bx_c2 := bx6.at 2 rfl; have by_c0 := by6.at 0 rfl; have by_c1 := by6.at 1 rfl; have by_c2 := by6.at 2 rfl; have bz_c0 := bz6.at 0 rfl; have bz_c1 := bz6.at 1 rfl; have bz_c2 := bz6.at 2 rfl)
    refine hK.out _ _ ?_ (fun hHeld => ?_)
    · (exact ⟨bx_c0, bx_c1, bx_c2, by_c0, by_c1, by_c2, bz_c0, bz_c1, bz_c2⟩)
    clear hK K
    try simp only [Act.put, List.setIfInBounds_toArray, List.set_cons_zero, List.set_cons_succ]
    refine wpAnyH_ready (rs := [3]) (by kernel_rfl) (by simp) ?_
    refine AllReadyH.cons rfl (fun K hK => ?_) AllReadyH.nil
    go_simp
    (go_at_call 13; (with_reducible refine (hrc.out _ hl6).mono ?_); rintro e w7 ⟨rfl, hB7⟩; have hT7 := hT6.trans (hB7.mono hT6.size); have hl7 := hl6.pure hB7; have bx7 := bx6.pure hB7; have by7 := by6.pure hB7; have bz7 := bz6.pure hB7; clear bx_c0 bx_c1 bx_c2 by_c0 by_c1 by_c2 bz_c0 bz_c1 bz_c2; have bx_c0 := bx7.at 0 rfl; have bx_c1 := bx7.at 1 rfl; have bx_c2 := bx7.at 2 rfl; have by_c0 := by7.at 0 rfl; have by_c1 := by7.at 1 rfl; have by_c2 := by7.at 2 rfl; have bz_c0 := bz7.at 0 rfl; have bz_c1 := bz7.at 1 rfl; have bz_c2 := bz7.at 2 rfl)
    refine hK.out _ _ ?_ (fun hHeld => ?_)
    · (exact ⟨bx_c0, bx_c1, bx_c2, by_c0, by_c1, by_c2, bz_c0, bz_c1, bz_c2⟩)
    clear hK K
    try simp only [Act.put, List.setIfInBounds_toArray, List.set_cons_zero, List.set_cons_succ]
    refine takeH 4 48 (v := ?_) rfl rfl (by kernel_rfl) (by kernel_rfl) (by kernel_rfl) (fun _ _ _ h => h) (Or.inl ⟨by kernel_rfl, ?_⟩) hHeld ?_
    rotate_left 1
    · (intro w hSw; (try dsimp only at hSw); go_simp; (try with_reducible rfl))
    try simp only [Act.put, List.setIfInBounds_toArray, List.set_cons_zero, List.set_cons_succ]
    refine takeH 5 49 (v := ?_) rfl rfl (by kernel_rfl) (by kernel_rfl) (by kernel_rfl) (fun _ _ _ h => h) (Or.inl ⟨by kernel_rfl, ?_⟩) hHeld ?_
    rotate_left 1
    · (intro w hSw; (try dsimp only at hSw); go_simp; (try with_reducible rfl))
    try simp only [Act.put, List.setIfInBounds_toArray, List.set_cons_zero, List.set_cons_succ]
    refine takeH 6 50 (v := ?_) rfl rfl (by kernel_rfl) (by kernel_rfl) (by kernel_rfl) (fun _ _ _ h => h) (Or.inl ⟨by kernel_rfl, ?_⟩) hHeld ?_
    rotate_left 1
    · (intro w hSw; (try dsimp only at hSw); go_simp; (try with_reducible rfl))
    try simp only [Act.put, List.setIfInBounds_toArray, List.set_cons_zero, List.set_cons_succ]
    refine takeH 7 51 (v := ?_) rfl rfl (by kernel_rfl) (by kernel_rfl) (by kernel_rfl) (fun _ _ _ h => h) (Or.inl ⟨by kernel_rfl, ?_⟩) hHeld ?_
    rotate_left 1
    · (intro w hSw; (try dsimp only at hSw); go_simp; (try with_reducible rfl))
    try simp only [Act.put, List.setIfInBounds_toArray, List.set_cons_zero, List.set_cons_succ]
    refine takeH 8 52 (v := ?_) rfl rfl (by kernel_rfl) (by kernel_rfl) (by kernel_rfl) (fun _ _ _ h => h) (Or.inl ⟨by kernel_rfl, ?_⟩) hHeld ?_
    rotate_left 1
    · (intro w hSw; (try dsimp only at hSw); go_simp; (try with_reducible rfl))
    try simp only [Act.put, List.setIfInBounds_toArray, List.set_cons_zero, List.set_cons_succ]
    refine takeH 9 53 (v := ?_) rfl rfl (by kernel_rfl) (by kernel_rfl) (by kernel_rfl) (fun _ _ _ h => h) (Or.inl ⟨by kernel_rfl, ?_⟩) hHeld ?_
    rotate_left 1
    · (intro w hSw; (try dsimp only at hSw); go_simp; (try with_reducible rfl))
    try simp only [Act.put, List.setIfInBounds_toArray, List.set_cons_zero, List.set_cons_succ]
    refine takeH 10 54 (v := ?_) rfl rfl (by kernel_rfl) (by kernel_rfl) (by kernel_rfl) (fun _ _ _ h => h) (Or.inl ⟨by kernel_rfl, ?_⟩) hHeld ?_
    rotate_left 1
    · (intro w hSw; (try dsimp only at hSw); go_simp; (try with_reducible rfl))
    try simp only [Act.put, List.setIfInBounds_toArray, List.set_cons_zero, List.set_cons_succ]
    refine takeH 11 55 (v := ?_) rfl rfl (by kernel_rfl) (by kernel_rfl) (by kernel_rfl) (fun _ _ _ h => h) (Or.inl ⟨by kernel_rfl, ?_⟩) hHeld ?_
    rotate_left 1
    · (intro w hSw; (try dsimp only at hSw); go_simp; (try with_reducible rfl))
    try simp only [Act.put, List.setIfInBounds_toArray, List.set_cons_zero, List.set_cons_succ]
    refine takeH 12 56 (v := ?_) rfl rfl (by kernel_rfl) (by kernel_rfl) (by kernel_rfl) (fun _ _ _ h => h) (Or.inl ⟨by kernel_rfl, ?_⟩) hHeld ?_
    rotate_left 1
    · (intro w hSw; (try dsimp only at hSw); go_simp; (try with_reducible rfl))
    try simp only [Act.put, List.setIfInBounds_toArray, List.set_cons_zero, List.set_cons_succ]
    refine takeH 13 57 (v := ?_) rfl rfl (by kernel_rfl) (by kernel_rfl) (by kernel_rfl) (fun _ _ _ h => h) (Or.inl ⟨by kernel_rfl, ?_⟩) hHeld ?_
    rotate_left 1
    · (intro w hSw; (try dsimp only at hSw); go_simp; (try with_reducible rfl))
    try simp only [Act.put, List.setIfInBounds_toArray, List.set_cons_zero, List.set_cons_succ]
    refine takeH 14 58 (v := ?_) rfl rfl (by kernel_rfl) (by kernel_rfl) (by kernel_rfl) (fun _ _ _ h => h) (Or.inl ⟨by kernel_rfl, ?_⟩) hHeld ?_
    rotate_left 1
    · (intro w hSw; (try dsimp only at hSw); go_simp; (try with_reducible rfl))
    try simp only [Act.put, List.setIfInBounds_toArray, List.set_cons_zero, List.set_cons_succ]
    refine takeH 15 59 (v := ?_) rfl rfl (by kernel_rfl) (by kernel_rfl) (by kernel_rfl) (fun _ _ _ h => h) (Or.inl ⟨by kernel_rfl, ?_⟩) hHeld ?_
    rotate_left 1
    · (intro w hSw; (try dsimp only at hSw); go_simp; (try with_reducible rfl))
    try simp only [Act.put, List.setIfInBounds_toArray, List.set_cons_zero, List.set_cons_succ]
    refine takeH 16 60 (v := ?_) rfl rfl (by kernel_rfl) (by kernel_rfl) (by kernel_rfl) (fun _ _ _ h => h) (Or.inl ⟨by kernel_rfl, ?_⟩) hHeld ?_
    rotate_left 1
    · (intro w hSw; (try dsimp only at hSw); go_simp; (try with_reducible rfl))
    try simp only [Act.put, List.setIfInBounds_toArray, List.set_cons_zero, List.set_cons_succ]
    refine takeH 17 61 (v := ?_) rfl rfl (by kernel_rfl) (by kernel_rfl) (by kernel_rfl) (fun _ _ _ h => h) (Or.inl ⟨by kernel_rfl, ?_⟩) hHeld ?_
    rotate_left 1
    · (intro w hSw; (try dsimp only at hSw); go_simp; (try with_reducible rfl))
    try simp only [Act.put, List.setIfInBounds_toArray, List.set_cons_zero, List.set_cons_succ]
    refine takeH 18 62 (v := ?_) rfl rfl (by kernel_rfl) (by kernel_rfl) (by kernel_rfl) (fun _ _ _ h => h) (Or.inl ⟨by kernel_rfl, ?_⟩) hHeld ?_
    rotate_left 1
    · (intro w hSw; (try dsimp only at hSw); go_simp; (try with_reducible rfl))
    try simp only [Act.put, List.setIfInBounds_toArray, List.set_cons_zero, List.set_cons_succ]
    refine takeH 19 63 (v := ?_) rfl rfl (by kernel_rfl) (by kernel_rfl) (by kernel_rfl) (fun _ _ _ h => h) (Or.inl ⟨by kernel_rfl, ?_⟩) hHeld ?_
    rotate_left 1
    · (intro w hSw; (try dsimp only at hSw); go_simp; (try with_reducible rfl))
    try simp only [Act.put, List.setIfInBounds_toArray, List.set_cons_zero, List.set_cons_succ]
    refine takeH 20 64 (v := ?_) rfl rfl (by kernel_rfl) (by kernel_rfl) (by kernel_rfl) (fun _ _ _ h => h) (Or.inl ⟨by kernel_rfl, ?_⟩) hHeld ?_
    rotate_left 1
    · (intro w hSw; (try dsimp only at hSw); go_simp; (try with_reducible rfl))
    try simp only [Act.put, List.setIfInBounds_toArray, List.set_cons_zero, List.set_cons_succ]
    refine takeH 21 65 (v := ?_) rfl rfl (by kernel_rfl) (by kernel_rfl) (by kernel_rfl) (fun _ _ _ h => h) (Or.inl ⟨by kernel_rfl, ?_⟩) hHeld ?_
    rotate_left 1
    · (intro w hSw; (try dsimp only at hSw); go_simp; (try with_reducible rfl))
    try simp only [Act.put, List.setIfInBounds_toArray, List.set_cons_zero, List.set_cons_succ]
    refine takeH 22 66 (v := ?_) rfl rfl (by kernel_rfl) (by kernel_rfl) (by kernel_rfl) (fun _ _ _ h => h) (Or.inl ⟨by kernel_rfl, ?_⟩) hHeld ?_
    rotate_left 1
    · (intro w hSw; (try dsimp only at hSw); go_simp; (try with_reducible rfl))
    try simp only [Act.put, List.setIfInBounds_toArray, List.set_cons_zero, List.set_cons_succ]
    refine takeH 23 67 (v := ?_) rfl rfl (by kernel_rfl) (by kernel_rfl) (by kernel_rfl) (fun _ _ _ h => h) (Or.inl ⟨by kernel_rfl, ?_⟩) hHeld ?_
    rotate_left 1
    · (intro w hSw; (try dsimp only at hSw); go_simp; (try with_reducible rfl))
    try simp only [Act.put, List.setIfInBounds_toArray, List.set_cons_zero, List.set_cons_succ]
    refine takeH 24 68 (v := ?_) rfl rfl (by kernel_rfl) (by kernel_rfl) (by kernel_rfl) (fun _ _ _ h => h) (Or.inl ⟨by kernel_rfl, ?_⟩) hHeld ?_
    rotate_left 1
    · (intro w hSw; (try dsimp only at hSw); go_simp; (try with_reducible rfl))
    try simp only [Act.put, List.setIfInBounds_toArray, List.set_cons_zero, List.set_cons_succ]
    refine takeH 25 69 (v := ?_) rfl rfl (by kernel_rfl) (by kernel_rfl) (by kernel_rfl) (fun _ _ _ h => h) (Or.inl ⟨by kernel_rfl, ?_⟩) hHeld ?_
    rotate_left 1
    · (intro w hSw; (try dsimp only at hSw); go_simp; (try with_reducible rfl))
    try simp only [Act.put, List.setIfInBounds_toArray, List.set_cons_zero, List.set_cons_succ]
    refine takeH 26 70 (v := undef) rfl rfl (by kernel_rfl) (by kernel_rfl) (by kernel_rfl) (fun _ _ _ h => h) (Or.inr ⟨by kernel_rfl, rfl⟩) hHeld ?_
    try simp only [Act.put, List.setIfInBounds_toArray, List.set_cons_zero, List.set_cons_succ]
    refine takeH 27 71 (v := undef) rfl rfl (by kernel_rfl) (by kernel_rfl) (by kernel_rfl) (fun _ _ _ h => h) (Or.inr ⟨by kernel_rfl, rfl⟩) hHeld ?_
    try simp only [Act.put, List.setIfInBounds_toArray, List.set_cons_zero, List.set_cons_succ]
    refine takeH 28 72 (v := undef) rfl rfl (by kernel_rfl) (by kernel_rfl) (by kernel_rfl) (fun _ _ _ h => h) (Or.inr ⟨by kernel_rfl, rfl⟩) hHeld ?_
    try simp only [Act.put, List.setIfInBounds_toArray, List.set_cons_zero, List.set_cons_succ]
    refine takeH 29 73 (v := undef) rfl rfl (by kernel_rfl) (by kernel_rfl) (by kernel_rfl) (fun _ _ _ h => h) (Or.inr ⟨by kernel_rfl, rfl⟩) hHeld ?_
    try simp only [Act.put, List.setIfInBounds_toArray, List.set_cons_zero, List.set_cons_succ]
    refine takeH 30 74 (v := undef) rfl rfl (by kernel_rfl) (by kernel_rfl) (by kernel_rfl) (fun _ _ _ h => h) (Or.inr ⟨by kernel_rfl, rfl⟩) hHeld ?_
    try simp only [Act.put, List.setIfInBounds_toArray, List.set_cons_zero, List.set_cons_succ]
    refine takeH 31 75 (v := ?_) rfl rfl (by kernel_rfl) (by kernel_rfl) (by kernel_rfl) (fun _ _ _ h => h) (Or.inl ⟨by kernel_rfl, ?_⟩) hHeld ?_
    rotate_left 1
    · (intro w hSw; (try dsimp only at hSw); go_simp; (try with_reducible rfl))
    try simp only [Act.put, List.setIfInBounds_toArray, List.set_cons_zero, List.set_cons_succ]
    refine takeH 32 76 (v := ?_) rfl rfl (by kernel_rfl) (by kernel_rfl) (by kernel_rfl) (fun _ _ _ h => h) (Or.inl ⟨by kernel_rfl, ?_⟩) hHeld ?_
    rotate_left 1
    · (intro w hSw; (try dsimp only at hSw); go_simp; (try with_reducible rfl))
    try simp only [Act.put, List.setIfInBounds_toArray, List.set_cons_zero, List.set_cons_succ]
    refine takeH 33 77 (v := ?_) rfl rfl (by kernel_rfl) (by kernel_rfl) (by kernel_rfl) (fun _ _ _ h => h) (Or.inl ⟨by kernel_rfl, ?_⟩) hHeld ?_
    rotate_left 1
    · (intro w hSw; (try dsimp only at hSw); go_simp; (try with_reducible rfl))
    try simp only [Act.put, List.setIfInBounds_toArray, List.set_cons_zero, List.set_cons_succ]
    refine takeH 34 78 (v := ?_) rfl rfl (by kernel_rfl) (by kernel_rfl) (by kernel_rfl) (fun _ _ _ h => h) (Or.inl ⟨by kernel_rfl, ?_⟩) hHeld ?_
    rotate_left 1
    · (intro w hSw; (try dsimp only at hSw); go_simp; (try with_reducible rfl))
    try simp only [Act.put, List.setIfInBounds_toArray, List.set_cons_zero, List.set_cons_succ]
    refine takeH 35 79 (v := ?_) rfl rfl (by kernel_rfl) (by kernel_rfl) (by kernel_rfl) (fun _ _ _ h => h) (Or.inl ⟨by kernel_rfl, ?_⟩) hHeld ?_
    rotate_left 1
    · (intro w hSw; (try dsimp only at hSw); go_simp; (try with_reducible rfl))
    try simp only [Act.put, List.setIfInBounds_toArray, List.set_cons_zero, List.set_cons_succ]
    refine takeH 36 80 (v := ?_) rfl rfl (by kernel_rfl) (by kernel_rfl) (by kernel_rfl) (fun _ _ _ h => h) (Or.inl ⟨by kernel_rfl, ?_⟩) hHeld ?_
    rotate_left 1
    · (intro w hSw; (try dsimp only at hSw); go_simp; (try with_reducible rfl))
    try simp only [Act.put, List.setIfInBounds_toArray, List.set_cons_zero, List.set_cons_succ]
    refine takeH 38 82 (v := ?_) rfl rfl (by kernel_rfl) (by kernel_rfl) (by kernel_rfl) (fun _ _ _ h => h) (Or.inl ⟨by kernel_rfl, ?_⟩) hHeld ?_
    rotate_left 1
    · (intro w hSw; (try dsimp only at hSw); go_simp; (try with_reducible rfl))
    try simp only [Act.put, List.setIfInBounds_toArray, List.set_cons_zero, List.set_cons_succ]
    refine takeH 39 83 (v := ?_) rfl rfl (by kernel_rfl) (by kernel_rfl) (by kernel_rfl) (fun _ _ _ h => h) (Or.inl ⟨by kernel_rfl, ?_⟩) hHeld ?_
    rotate_left 1
    · (intro w hSw; (try dsimp only at hSw); go_simp; (try with_reducible rfl))
    try simp only [Act.put, List.setIfInBounds_toArray, List.set_cons_zero, List.set_cons_succ]
    refine wpAnyH_ready (rs := [37]) (by kernel_rfl) (by simp) ?_
    refine AllReadyH.cons rfl (fun K hK => ?_) AllReadyH.nil
    go_simp
    (go_at_call 15; (with_reducible refine (hpn.out _ hl7).mono ?_); rintro e w8 ⟨rfl, hB8⟩; have hT8 := hT7.trans (hB8.mono hT7.size); have hl8 := hl7.pure hB8; have bx8 := bx7.pure hB8; have by8 := by7.pure hB8; have bz8 := bz7.pure hB8; clear bx_c0 bx_c1 bx_c2 by_c0 by_c1 by_c2 bz_c0 bz_c1 bz_c2; have bx_c0 := bx8.at 0 rfl; have bx_c1 := bx8.at 1 rfl; have bx_c2 := bx8.at 2 rfl; have by_c0 := by8.at 0 rfl; have by_c1 := by8.at 1 rfl; have by_c2 := by8.at 2 rfl; have bz_c0 := bz8.at 0 rfl; have bz_c1 := bz8.at 1 rfl; have bz_c2 := bz8.at 2 rfl)
    refine hK.out _ _ ?_ (fun hHeld => ?_)
    · (exact ⟨bx_c0, bx_c1, bx_c2, by_c0, by_c1, by_c2, bz_c0, bz_c1, bz_c2⟩)
    clear hK K
    try simp only [Act.put, List.setIfInBounds_toArray, List.set_cons_zero, List.set_cons_succ]
    refine wpAnyH_ready (rs := [40]) (by kernel_rfl) (by simp) ?_
    refine AllReadyH.cons rfl (fun K hK => ?_) AllReadyH.nil
    go_simp
    (go_at_call 16; (with_reducible refine (hrn.out _ hl8).mono ?_); rintro e w9 ⟨rfl, hB9⟩; have hT9 := hT8.trans (hB9.mono hT8.size); have hl9 := hl8.pure hB9; have bx9 := bx8.pure hB9; have by9 := by8.pure hB9; have bz9 := bz8.pure hB9; clear bx_c0 bx_c1 bx_c2 by_c0 by_c1 by_c2 bz_c0 bz_c1 bz_c2; have bx_c0 := bx9.at 0 rfl; have bx_c1 := bx9.at 1 rfl; have bx_c2 := bx9.at 2 rfl; have by_c0 := by9.at 0 rfl; have by_c1 := by9.at 1 rfl; have by_c2 := by9.at 2 rfl; have bz_c0 := bz9.at 0 rfl; have bz_c1 := bz9.at 1 rfl; have bz_c2 := bz9.at 2 rfl)
    refine hK.out _ _ ?_ (fun hHeld => ?_)
    · (exact ⟨bx_c0, bx_c1, bx_c2, by_c0, by_c1, by_c2, bz_c0, bz_c1, bz_c2⟩)
    clear hK K
    try simp only [Act.put, List.setIfInBounds_toArray, List.set_cons_zero, List.set_cons_succ]
    refine takeH 41 85 (v := ?_) rfl rfl (by kernel_rfl) (by kernel_rfl) (by kernel_rfl) (fun _ _ _ h => h) (Or.inl ⟨by kernel_rfl, ?_⟩) hHeld ?_
    rotate_left 1
    · (intro w hSw; (try dsimp only at hSw); go_simp; (try with_reducible rfl))
    try simp only [Act.put, List.setIfInBounds_toArray, List.set_cons_zero, List.set_cons_succ]
    refine takeH 42 86 (v := ?_) rfl rfl (by kernel_rfl) (by kernel_rfl) (by kernel_rfl) (fun _ _ _ h => h) (Or.inl ⟨by kernel_rfl, ?_⟩) hHeld ?_
    rotate_left 1
    · (intro w hSw; (try dsimp only at hSw); go_simp; (try with_reducible rfl))
    try simp only [Act.put, List.setIfInBounds_toArray, List.set_cons_zero, List.set_cons_succ]
    refine takeH 43 87 (v := ?_) rfl rfl (by kernel_rfl) (by kernel_rfl) (by kernel_rfl) (fun _ _ _ h => h) (Or.inl ⟨by kernel_rfl, ?_⟩) hHeld ?_
    rotate_left 1
    · (intro w hSw; (try dsimp only at hSw); go_simp; (try with_reducible rfl))
    try simp only [Act.put, List.setIfInBounds_toArray, List.set_cons_zero, List.set_cons_succ]
    refine wpAnyH_ready (rs := [44]) (by kernel_rfl) (by simp) ?_
    refine AllReadyH.cons rfl (fun K hK => ?_) AllReadyH.nil
    go_simp
    (go_at_call 8; (with_reducible refine (head_any _).mono ?_); rintro e w10 ⟨rfl, hB10⟩; have hT10 := hT9.trans (hB10.mono hT9.size); have hl10 := hl9.pure hB10; have bx10 := bx9.pure hB10; have by10 := by9.pure hB10; have bz10 := bz9.pure hB10; clear bx_c0 bx_c1 bx_c2 by_c0 by_c1 by_c2 bz_c0 bz_c1 bz_c2; have bx_c0 := bx10.at 0 rfl; have bx_c1 := bx10.at 1 rfl; have bx_c2 := bx10.at 2 rfl; have by_c0 := by10.at 0 rfl; have by_c1 := by10.at 1 rfl; have by_c2 := by10.at 2 rfl; have bz_c0 := bz10.at 0 rfl; have bz_c1 := bz10.at 1 rfl; have bz_c2 := bz10.at 2 rfl)
    refine hK.out _ _ ?_ (fun hHeld => ?_)
    · (exact ⟨bx_c0, bx_c1, bx_c2, by_c0, by_c1, by_c2, bz_c0, bz_c1, bz_c2⟩)
    clear hK K
    try simp only [Act.put, List.setIfInBounds_toArray, List.set_cons_zero, List.set_cons_succ]
    refine takeH 45 89 (v := ?_) rfl rfl (by kernel_rfl) (by kernel_rfl) (by kernel_rfl) (fun _ _ _ h => h) (Or.inl ⟨by kernel_rfl, ?_⟩) hHeld ?_
    rotate_left 1
    · (intro w hSw; (try dsimp only at hSw); go_simp; (try with_reducible rfl))
    try simp only [Act.put, List.setIfInBounds_toArray, List.set_cons_zero, List.set_cons_succ]
    refine takeH 46 6 (v := ?_) rfl rfl (by kernel_rfl) (by kernel_rfl) (by kernel_rfl) (fun _ _ _ h => h) (Or.inl ⟨by kernel_rfl, ?_⟩) hHeld ?_
    rotate_left 1
    · (intro w hSw; (try dsimp only at hSw); go_simp; (try with_reducible rfl))
    try simp only [Act.put, List.setIfInBounds_toArray, List.set_cons_zero, List.set_cons_succ]
    refine wpAnyH_done (by kernel_rfl) ?_ _
    go_wp2
    go_ret
    exact ⟨rfl, hT10⟩
end Go.Proofs.Ytfjpdikaodojhaa
