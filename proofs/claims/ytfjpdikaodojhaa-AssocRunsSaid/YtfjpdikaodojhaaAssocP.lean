/- Document's side of chapter 18: posthouseref04.Compare. Conditions: texts of at most a million bytes. Written by gen_acompare.py. -/
import Derived.Test.YtfjpdikaodojhaaAssocO
import Derived.Test.YtfjpdikaodojhaaCmpXL
namespace Go.Proofs.Ytfjpdikaodojhaa
open Go.RowKit
set_option linter.unusedVariables false

theorem Blk.at {w : World} {b : Nat} {cs : List Value} (h : Blk w b cs) (i : Nat) {u : Value} (hu : cs[i]? = some u) : w.cell? ⟨b, i, none⟩ = some u := (h.cell i).trans hu
/-- The sign of the order of two names. -/
def signX (x y : Xid) : Int := if cmpX x y = 0 then 0 else if cmpX x y < 0 then -1 else 1
theorem bytes_ne {a b : ByteArray} (h : a ≠ b) : (a == b) = false := by rw [bytes_beq_eq]; exact decide_eq_false h
theorem cmpI_neg {x y : Int} : cmpI x y < 0 ↔ x < y := by unfold cmpI; split <;> (try split) <;> omega
theorem signX_of {x y : Xid} {c : Int} (h : cmpX x y = c) (h0 : c ≠ 0) : signX x y = if c < 0 then -1 else 1 := by unfold signX; rw [h, if_neg h0]

set_option maxRecDepth 100000 in
set_option maxHeartbeats 3200000 in
theorem rcompare (w : World) (x y : Xid) (hxg : x.2.1.size ≤ 1000000) (hxb : x.2.2.size ≤ 1000000) (hyg : y.2.1.size ≤ 1000000) (hyb : y.2.2.size ≤ 1000000) :
    Calls Try.prog 33 #[.agg #[.int .u32 x.1, .string x.2.1, .string x.2.2], .agg #[.int .u32 y.1, .string y.2.1, .string y.2.2]] w fun e w' => e = .returned (.int .i64 (signX x y)) ∧ Below w.heap.size w w' := by
  obtain ⟨xf, xg, xb⟩ := x
  obtain ⟨yf, yg, yb⟩ := y
  simp only at hxg hxb hyg hyb ⊢
  have hB0 : Below w.heap.size w ((w.alloc (.cells #[.int .u32 xf, .string xg, .string xb] 26)).alloc (.cells #[.int .u32 yf, .string yg, .string yb] 26)) := ((Below.refl w.heap.size w).alloc (Nat.le_refl _) _).alloc (by simp) _
  have x0 : Blk ((w.alloc (.cells #[.int .u32 xf, .string xg, .string xb] 26)).alloc (.cells #[.int .u32 yf, .string yg, .string yb] 26)) w.heap.size [.int .u32 xf, .string xg, .string xb] := (Blk.new w [.int .u32 xf, .string xg, .string xb] 26).alloc _
  have y0 : Blk ((w.alloc (.cells #[.int .u32 xf, .string xg, .string xb] 26)).alloc (.cells #[.int .u32 yf, .string yg, .string yb] 26)) (w.heap.size + 1) [.int .u32 yf, .string yg, .string yb] := by have := Blk.new (w.alloc (.cells #[.int .u32 xf, .string xg, .string xb] 26)) [.int .u32 yf, .string yg, .string yb] 26; simpa using this
  have qE := fun (u : World) => xid_eql u xf yf xg xb yg yb
  by_cases hf : xf = yf
  · subst hf
    have hff : (xf == xf) = true := by simp
    have hfn : (xf != xf) = false := by simp
    by_cases hg : xg = yg
    · subst hg
      have hg1 := bytes_self xg
      have hg2 : (xg.toList == xg.toList) = true := by simp
      by_cases hb : xb = yb
      · subst hb
        have hX := Lib.hid (show signX (xf, xg, xb) (xf, xg, xb) = 0 by unfold signX; rw [if_pos (cmpX_ok.refl _)])
        simp only [hff, hg1, bytes_self, Bool.true_and] at qE
        clear hff hfn hg1 hg2
        go_enter Try.func33, Try.ntmps33
        go_wp2_with (first | (go_at_call 47; (refine (less_any _ _ _ ?_ ?_).mono ?_; assumption; assumption; rintro e w1 ⟨rfl, hB1⟩; have x1 := x0.pure hB1; have y1 := y0.pure hB1; have hT1 := hB0.trans (hB1.mono hB0.size); have e0 := x1.at 0 rfl; have e1 := x1.at 1 rfl; have e2 := x1.at 2 rfl; have e3 := y1.at 0 rfl; have e4 := y1.at 1 rfl; have e5 := y1.at 2 rfl)) | (go_at_call 47; (refine (less_any _ _ _ ?_ ?_).mono ?_; assumption; assumption; rintro e w2 ⟨rfl, hB2⟩; have x2 := x1.pure hB2; have y2 := y1.pure hB2; have hT2 := hT1.trans (hB2.mono hT1.size); have f0 := x2.at 0 rfl; have f1 := x2.at 1 rfl; have f2 := x2.at 2 rfl; have f3 := y2.at 0 rfl; have f4 := y2.at 1 rfl; have f5 := y2.at 2 rfl)))
        go_ret
        exact ⟨by rw [hX.out]; rfl, hB0⟩
      · have hb1 := bytes_ne hb
        have hc0 : cmpB xb yb ≠ 0 := fun e => hb ((cmpB_ok.eq _ _).1 e)
        have hX := Lib.hid (signX_of (cmpX_b (xf := xf) (xg := xg) (xb := xb) (yb := yb)) hc0)
        simp only [hff, hg1, hb1, Bool.true_and] at qE
        clear hb hc0 hff hg1 hb1
        by_cases hlt : cmpB xb yb < 0
        · rw [if_pos hlt] at hX
          go_enter Try.func33, Try.ntmps33
          go_wp2_with (first | (go_at_call 47; (refine (less_any _ _ _ ?_ ?_).mono ?_; assumption; assumption; rintro e w1 ⟨rfl, hB1⟩; have x1 := x0.pure hB1; have y1 := y0.pure hB1; have hT1 := hB0.trans (hB1.mono hB0.size); have e0 := x1.at 0 rfl; have e1 := x1.at 1 rfl; have e2 := x1.at 2 rfl; have e3 := y1.at 0 rfl; have e4 := y1.at 1 rfl; have e5 := y1.at 2 rfl)) | (go_at_call 47; (refine (less_any _ _ _ ?_ ?_).mono ?_; assumption; assumption; rintro e w2 ⟨rfl, hB2⟩; have x2 := x1.pure hB2; have y2 := y1.pure hB2; have hT2 := hT1.trans (hB2.mono hT1.size); have f0 := x2.at 0 rfl; have f1 := x2.at 1 rfl; have f2 := x2.at 2 rfl; have f3 := y2.at 0 rfl; have f4 := y2.at 1 rfl; have f5 := y2.at 2 rfl)))
          go_ret
          exact ⟨by rw [hX.out]; rfl, hT1⟩
        · rw [if_neg hlt] at hX
          go_enter Try.func33, Try.ntmps33
          go_wp2_with (first | (go_at_call 47; (refine (less_any _ _ _ ?_ ?_).mono ?_; assumption; assumption; rintro e w1 ⟨rfl, hB1⟩; have x1 := x0.pure hB1; have y1 := y0.pure hB1; have hT1 := hB0.trans (hB1.mono hB0.size); have e0 := x1.at 0 rfl; have e1 := x1.at 1 rfl; have e2 := x1.at 2 rfl; have e3 := y1.at 0 rfl; have e4 := y1.at 1 rfl; have e5 := y1.at 2 rfl)) | (go_at_call 47; (refine (less_any _ _ _ ?_ ?_).mono ?_; assumption; assumption; rintro e w2 ⟨rfl, hB2⟩; have x2 := x1.pure hB2; have y2 := y1.pure hB2; have hT2 := hT1.trans (hB2.mono hT1.size); have f0 := x2.at 0 rfl; have f1 := x2.at 1 rfl; have f2 := x2.at 2 rfl; have f3 := y2.at 0 rfl; have f4 := y2.at 1 rfl; have f5 := y2.at 2 rfl)))
          go_ret
          exact ⟨by rw [hX.out]; rfl, hT1⟩
    · have hg1 := bytes_ne hg
      have hg2 : (xg.toList == yg.toList) = false := by rw [← beq_toListBytes]; exact hg1
      have hc0 : cmpB xg yg ≠ 0 := fun e => hg ((cmpB_ok.eq _ _).1 e)
      have hX := Lib.hid (signX_of (cmpX_g (xf := xf) (xb := xb) (yb := yb) hg) hc0)
      simp only [hff, hg1, Bool.true_and, Bool.false_and] at qE
      clear hg hc0 hff hg1
      by_cases hlt : cmpB xg yg < 0
      · rw [if_pos hlt] at hX
        go_enter Try.func33, Try.ntmps33
        go_wp2_with (first | (go_at_call 47; (refine (less_any _ _ _ ?_ ?_).mono ?_; assumption; assumption; rintro e w1 ⟨rfl, hB1⟩; have x1 := x0.pure hB1; have y1 := y0.pure hB1; have hT1 := hB0.trans (hB1.mono hB0.size); have e0 := x1.at 0 rfl; have e1 := x1.at 1 rfl; have e2 := x1.at 2 rfl; have e3 := y1.at 0 rfl; have e4 := y1.at 1 rfl; have e5 := y1.at 2 rfl)) | (go_at_call 47; (refine (less_any _ _ _ ?_ ?_).mono ?_; assumption; assumption; rintro e w2 ⟨rfl, hB2⟩; have x2 := x1.pure hB2; have y2 := y1.pure hB2; have hT2 := hT1.trans (hB2.mono hT1.size); have f0 := x2.at 0 rfl; have f1 := x2.at 1 rfl; have f2 := x2.at 2 rfl; have f3 := y2.at 0 rfl; have f4 := y2.at 1 rfl; have f5 := y2.at 2 rfl)))
        go_ret
        exact ⟨by rw [hX.out]; rfl, hT2⟩
      · rw [if_neg hlt] at hX
        go_enter Try.func33, Try.ntmps33
        go_wp2_with (first | (go_at_call 47; (refine (less_any _ _ _ ?_ ?_).mono ?_; assumption; assumption; rintro e w1 ⟨rfl, hB1⟩; have x1 := x0.pure hB1; have y1 := y0.pure hB1; have hT1 := hB0.trans (hB1.mono hB0.size); have e0 := x1.at 0 rfl; have e1 := x1.at 1 rfl; have e2 := x1.at 2 rfl; have e3 := y1.at 0 rfl; have e4 := y1.at 1 rfl; have e5 := y1.at 2 rfl)) | (go_at_call 47; (refine (less_any _ _ _ ?_ ?_).mono ?_; assumption; assumption; rintro e w2 ⟨rfl, hB2⟩; have x2 := x1.pure hB2; have y2 := y1.pure hB2; have hT2 := hT1.trans (hB2.mono hT1.size); have f0 := x2.at 0 rfl; have f1 := x2.at 1 rfl; have f2 := x2.at 2 rfl; have f3 := y2.at 0 rfl; have f4 := y2.at 1 rfl; have f5 := y2.at 2 rfl)))
        go_ret
        exact ⟨by rw [hX.out]; rfl, hT2⟩
  · have hc0 : cmpI xf yf ≠ 0 := fun e => hf ((cmpI_ok.eq _ _).1 e)
    have hX := Lib.hid (signX_of (cmpX_f (xg := xg) (xb := xb) (yg := yg) (yb := yb) hf) hc0)
    simp only [cmpI_neg] at hX
    have hff : (xf == yf) = false := beq_eq_false_iff_ne.2 hf
    have hfn : (xf != yf) = true := by simp [bne, hff]
    simp only [hff, Bool.false_and] at qE
    clear hc0 hf hff
    by_cases hg : xg = yg
    · subst hg
      have hg2 : (xg.toList == xg.toList) = true := by simp
      by_cases hlt : xf < yf
      · rw [if_pos hlt] at hX
        go_enter Try.func33, Try.ntmps33
        go_wp2_with (first | (go_at_call 47; (refine (less_any _ _ _ ?_ ?_).mono ?_; assumption; assumption; rintro e w1 ⟨rfl, hB1⟩; have x1 := x0.pure hB1; have y1 := y0.pure hB1; have hT1 := hB0.trans (hB1.mono hB0.size); have e0 := x1.at 0 rfl; have e1 := x1.at 1 rfl; have e2 := x1.at 2 rfl; have e3 := y1.at 0 rfl; have e4 := y1.at 1 rfl; have e5 := y1.at 2 rfl)) | (go_at_call 47; (refine (less_any _ _ _ ?_ ?_).mono ?_; assumption; assumption; rintro e w2 ⟨rfl, hB2⟩; have x2 := x1.pure hB2; have y2 := y1.pure hB2; have hT2 := hT1.trans (hB2.mono hT1.size); have f0 := x2.at 0 rfl; have f1 := x2.at 1 rfl; have f2 := x2.at 2 rfl; have f3 := y2.at 0 rfl; have f4 := y2.at 1 rfl; have f5 := y2.at 2 rfl)))
        go_ret
        exact ⟨by rw [hX.out]; rfl, hT1⟩
      · rw [if_neg hlt] at hX
        go_enter Try.func33, Try.ntmps33
        go_wp2_with (first | (go_at_call 47; (refine (less_any _ _ _ ?_ ?_).mono ?_; assumption; assumption; rintro e w1 ⟨rfl, hB1⟩; have x1 := x0.pure hB1; have y1 := y0.pure hB1; have hT1 := hB0.trans (hB1.mono hB0.size); have e0 := x1.at 0 rfl; have e1 := x1.at 1 rfl; have e2 := x1.at 2 rfl; have e3 := y1.at 0 rfl; have e4 := y1.at 1 rfl; have e5 := y1.at 2 rfl)) | (go_at_call 47; (refine (less_any _ _ _ ?_ ?_).mono ?_; assumption; assumption; rintro e w2 ⟨rfl, hB2⟩; have x2 := x1.pure hB2; have y2 := y1.pure hB2; have hT2 := hT1.trans (hB2.mono hT1.size); have f0 := x2.at 0 rfl; have f1 := x2.at 1 rfl; have f2 := x2.at 2 rfl; have f3 := y2.at 0 rfl; have f4 := y2.at 1 rfl; have f5 := y2.at 2 rfl)))
        go_ret
        exact ⟨by rw [hX.out]; rfl, hT1⟩
    · have hg2 : (xg.toList == yg.toList) = false := by rw [← beq_toListBytes]; exact bytes_ne hg
      clear hg
      by_cases hlt : xf < yf
      · rw [if_pos hlt] at hX
        go_enter Try.func33, Try.ntmps33
        go_wp2_with (first | (go_at_call 47; (refine (less_any _ _ _ ?_ ?_).mono ?_; assumption; assumption; rintro e w1 ⟨rfl, hB1⟩; have x1 := x0.pure hB1; have y1 := y0.pure hB1; have hT1 := hB0.trans (hB1.mono hB0.size); have e0 := x1.at 0 rfl; have e1 := x1.at 1 rfl; have e2 := x1.at 2 rfl; have e3 := y1.at 0 rfl; have e4 := y1.at 1 rfl; have e5 := y1.at 2 rfl)) | (go_at_call 47; (refine (less_any _ _ _ ?_ ?_).mono ?_; assumption; assumption; rintro e w2 ⟨rfl, hB2⟩; have x2 := x1.pure hB2; have y2 := y1.pure hB2; have hT2 := hT1.trans (hB2.mono hT1.size); have f0 := x2.at 0 rfl; have f1 := x2.at 1 rfl; have f2 := x2.at 2 rfl; have f3 := y2.at 0 rfl; have f4 := y2.at 1 rfl; have f5 := y2.at 2 rfl)))
        go_ret
        exact ⟨by rw [hX.out]; rfl, hT2⟩
      · rw [if_neg hlt] at hX
        go_enter Try.func33, Try.ntmps33
        go_wp2_with (first | (go_at_call 47; (refine (less_any _ _ _ ?_ ?_).mono ?_; assumption; assumption; rintro e w1 ⟨rfl, hB1⟩; have x1 := x0.pure hB1; have y1 := y0.pure hB1; have hT1 := hB0.trans (hB1.mono hB0.size); have e0 := x1.at 0 rfl; have e1 := x1.at 1 rfl; have e2 := x1.at 2 rfl; have e3 := y1.at 0 rfl; have e4 := y1.at 1 rfl; have e5 := y1.at 2 rfl)) | (go_at_call 47; (refine (less_any _ _ _ ?_ ?_).mono ?_; assumption; assumption; rintro e w2 ⟨rfl, hB2⟩; have x2 := x1.pure hB2; have y2 := y1.pure hB2; have hT2 := hT1.trans (hB2.mono hT1.size); have f0 := x2.at 0 rfl; have f1 := x2.at 1 rfl; have f2 := x2.at 2 rfl; have f3 := y2.at 0 rfl; have f4 := y2.at 1 rfl; have f5 := y2.at 2 rfl)))
        go_ret
        exact ⟨by rw [hX.out]; rfl, hT2⟩
end Go.Proofs.Ytfjpdikaodojhaa
