/- Package branch: row, at. Conditions: the table reads as rows; at most a million. Written by gen_brC.py. -/
import Derived.Test.YtcelpincmpjhkaaBrB
namespace Go.Proofs.Ytcelpincmpjhkaa
open Go.RowKit
set_option linter.unusedVariables false
abbrev brVal (b : Brn) : Value := .agg #[.int .u32 b.x.1, .string b.x.2.1, .string b.x.2.2, .int .u8 b.st, .int .u8 b.why, .int .u32 b.tm, .int .u32 b.lf]

set_option maxRecDepth 100000 in
set_option maxHeartbeats 1600000 in
theorem row_any (w : World) (b : Brn) (v : Bool) (hv : decide (RowOk b) = v) :
    Calls Try.prog 76 #[.agg #[.int .u32 b.x.1, .string b.x.2.1, .string b.x.2.2, .int .u8 b.st, .int .u8 b.why, .int .u32 b.tm, .int .u32 b.lf]] w fun e w' => e = .returned (.bool v) ∧ Below w.heap.size w w' := by
  obtain ⟨⟨xf, xg, xb⟩, st, why, tm, lf⟩ := b
  simp only at *
  have hB0 := (Below.refl w.heap.size w).alloc (Nat.le_refl _) (.cells #[.int .u32 xf, .string xg, .string xb, .int .u8 st, .int .u8 why, .int .u32 tm, .int .u32 lf] 44)
  have b0 := Blk.new w [.int .u32 xf, .string xg, .string xb, .int .u8 st, .int .u8 why, .int .u32 tm, .int .u32 lf] 44
  have c0 := b0.at 0 rfl; have c1 := b0.at 1 rfl; have c2 := b0.at 2 rfl
  subst hv
  by_cases hx : XidOk (xf, xg, xb)
  rotate_left 1
  · have hxv := Lib.hid (show (if XidOk (xf, xg, xb) then (0 : Int) else 40) = 40 from if_neg hx)
    have hres := Lib.hid (show decide (RowOk ⟨(xf, xg, xb), st, why, tm, lf⟩) = false from decide_eq_false (fun h => hx h.1))
    clear hx
    go_enter Try.func76, Try.ntmps76
    go_wp2_with (go_at_call 99; refine (xid_chk _ (xf, xg, xb) _ hxv.out).mono ?_; rintro e w1 ⟨rfl, hB1⟩; have hT1 := hB0.trans (hB1.mono hB0.size); have b1 := b0.pure hB1; have d3 := b1.at 3 rfl; have d4 := b1.at 4 rfl; have d5 := b1.at 5 rfl; have d6 := b1.at 6 rfl)
    go_ret
    exact ⟨by rw [hres.out]; first | rfl | (simp; omega), hT1⟩
  have hxv := Lib.hid (show (if XidOk (xf, xg, xb) then (0 : Int) else 40) = 0 from if_pos hx)
  by_cases h1 : st < 1
  · have hdum := True.intro
    have hres := Lib.hid (show decide (RowOk ⟨(xf, xg, xb), st, why, tm, lf⟩) = false from decide_eq_false (fun h => by have := h.2.1; simp only at this; omega))
    clear hx
    go_enter Try.func76, Try.ntmps76
    go_wp2_with (go_at_call 99; refine (xid_chk _ (xf, xg, xb) _ hxv.out).mono ?_; rintro e w1 ⟨rfl, hB1⟩; have hT1 := hB0.trans (hB1.mono hB0.size); have b1 := b0.pure hB1; have d3 := b1.at 3 rfl; have d4 := b1.at 4 rfl; have d5 := b1.at 5 rfl; have d6 := b1.at 6 rfl)
    go_ret
    exact ⟨by rw [hres.out]; first | rfl | (simp; omega), hT1⟩
  by_cases h2 : 4 < st
  · have hdum := True.intro
    have hres := Lib.hid (show decide (RowOk ⟨(xf, xg, xb), st, why, tm, lf⟩) = false from decide_eq_false (fun h => by have := h.2.2.1; simp only at this; omega))
    clear hx
    go_enter Try.func76, Try.ntmps76
    go_wp2_with (go_at_call 99; refine (xid_chk _ (xf, xg, xb) _ hxv.out).mono ?_; rintro e w1 ⟨rfl, hB1⟩; have hT1 := hB0.trans (hB1.mono hB0.size); have b1 := b0.pure hB1; have d3 := b1.at 3 rfl; have d4 := b1.at 4 rfl; have d5 := b1.at 5 rfl; have d6 := b1.at 6 rfl)
    go_ret
    exact ⟨by rw [hres.out]; first | rfl | (simp; omega), hT1⟩
  by_cases h3 : 2 < why
  · have hdum := True.intro
    have hres := Lib.hid (show decide (RowOk ⟨(xf, xg, xb), st, why, tm, lf⟩) = false from decide_eq_false (fun h => by have := h.2.2.2.1; simp only at this; omega))
    clear hx
    go_enter Try.func76, Try.ntmps76
    go_wp2_with (go_at_call 99; refine (xid_chk _ (xf, xg, xb) _ hxv.out).mono ?_; rintro e w1 ⟨rfl, hB1⟩; have hT1 := hB0.trans (hB1.mono hB0.size); have b1 := b0.pure hB1; have d3 := b1.at 3 rfl; have d4 := b1.at 4 rfl; have d5 := b1.at 5 rfl; have d6 := b1.at 6 rfl)
    go_ret
    exact ⟨by rw [hres.out]; first | rfl | (simp; omega), hT1⟩
  have hq : RowOk ⟨(xf, xg, xb), st, why, tm, lf⟩ ↔ (if st ≠ 1 ∨ why ≠ 0 ∨ tm = 0 then lf = 0 ∧ (st = 1 ∨ why = 0) else 1 ≤ lf ∧ lf ≤ tm) := ⟨fun h => h.2.2.2.2, fun h => ⟨hx, by simp only; omega, by simp only; omega, by simp only; omega, h⟩⟩
  clear hx
  by_cases est : st = 1
  · have esta : (st == 1) = true := by rw [est]; rfl
    have estb : (st != 1) = false := by rw [est]; rfl
    by_cases ewhy : why = 0
    · have ewhya : (why == 0) = true := by rw [ewhy]; rfl
      have ewhyb : (why != 0) = false := by rw [ewhy]; rfl
      by_cases etm : tm = 0
      · have etma : (tm == 0) = true := by rw [etm]; rfl
        have etmb : (tm != 0) = false := by rw [etm]; rfl
        by_cases elf : lf = 0
        · have elfa : (lf == 0) = true := by rw [elf]; rfl
          have elfb : (lf != 0) = false := by rw [elf]; rfl
          have hres := Lib.hid (show decide (RowOk ⟨(xf, xg, xb), st, why, tm, lf⟩) = true from by rw [decide_eq_true_iff, hq]; simp [est, ewhy, etm, elf])
          clear hq est ewhy etm elf
          go_enter Try.func76, Try.ntmps76
          go_wp2_with (go_at_call 99; refine (xid_chk _ (xf, xg, xb) _ hxv.out).mono ?_; rintro e w1 ⟨rfl, hB1⟩; have hT1 := hB0.trans (hB1.mono hB0.size); have b1 := b0.pure hB1; have d3 := b1.at 3 rfl; have d4 := b1.at 4 rfl; have d5 := b1.at 5 rfl; have d6 := b1.at 6 rfl)
          go_ret
          exact ⟨by rw [hres.out]; first | rfl | (simp; omega), hT1⟩
        · have elfa : (lf == 0) = false := beq_eq_false_iff_ne.2 elf
          have elfb : (lf != 0) = true := bne_iff_ne.2 elf
          have hres := Lib.hid (show decide (RowOk ⟨(xf, xg, xb), st, why, tm, lf⟩) = false from by rw [decide_eq_false_iff_not, hq]; simp [est, ewhy, etm, elf])
          clear hq est ewhy etm elf
          go_enter Try.func76, Try.ntmps76
          go_wp2_with (go_at_call 99; refine (xid_chk _ (xf, xg, xb) _ hxv.out).mono ?_; rintro e w1 ⟨rfl, hB1⟩; have hT1 := hB0.trans (hB1.mono hB0.size); have b1 := b0.pure hB1; have d3 := b1.at 3 rfl; have d4 := b1.at 4 rfl; have d5 := b1.at 5 rfl; have d6 := b1.at 6 rfl)
          go_ret
          exact ⟨by rw [hres.out]; first | rfl | (simp; omega), hT1⟩
      · have etma : (tm == 0) = false := beq_eq_false_iff_ne.2 etm
        have etmb : (tm != 0) = true := bne_iff_ne.2 etm
        by_cases l1 : 1 ≤ lf
        · have hdum := True.intro
          by_cases l2 : lf ≤ tm
          · have hdum := True.intro
            have hres := Lib.hid (show decide (RowOk ⟨(xf, xg, xb), st, why, tm, lf⟩) = true from by rw [decide_eq_true_iff, hq]; simp [est, ewhy, etm, l1, l2])
            clear hq est ewhy etm
            go_enter Try.func76, Try.ntmps76
            go_wp2_with (go_at_call 99; refine (xid_chk _ (xf, xg, xb) _ hxv.out).mono ?_; rintro e w1 ⟨rfl, hB1⟩; have hT1 := hB0.trans (hB1.mono hB0.size); have b1 := b0.pure hB1; have d3 := b1.at 3 rfl; have d4 := b1.at 4 rfl; have d5 := b1.at 5 rfl; have d6 := b1.at 6 rfl)
            go_ret
            exact ⟨by rw [hres.out]; first | rfl | (simp; omega), hT1⟩
          · have hdum := True.intro
            have hres := Lib.hid (show decide (RowOk ⟨(xf, xg, xb), st, why, tm, lf⟩) = false from by rw [decide_eq_false_iff_not, hq]; simp [est, ewhy, etm, l1, l2])
            clear hq est ewhy etm
            go_enter Try.func76, Try.ntmps76
            go_wp2_with (go_at_call 99; refine (xid_chk _ (xf, xg, xb) _ hxv.out).mono ?_; rintro e w1 ⟨rfl, hB1⟩; have hT1 := hB0.trans (hB1.mono hB0.size); have b1 := b0.pure hB1; have d3 := b1.at 3 rfl; have d4 := b1.at 4 rfl; have d5 := b1.at 5 rfl; have d6 := b1.at 6 rfl)
            go_ret
            exact ⟨by rw [hres.out]; first | rfl | (simp; omega), hT1⟩
        · have hdum := True.intro
          have hres := Lib.hid (show decide (RowOk ⟨(xf, xg, xb), st, why, tm, lf⟩) = false from by rw [decide_eq_false_iff_not, hq]; simp [est, ewhy, etm, l1])
          clear hq est ewhy etm
          go_enter Try.func76, Try.ntmps76
          go_wp2_with (go_at_call 99; refine (xid_chk _ (xf, xg, xb) _ hxv.out).mono ?_; rintro e w1 ⟨rfl, hB1⟩; have hT1 := hB0.trans (hB1.mono hB0.size); have b1 := b0.pure hB1; have d3 := b1.at 3 rfl; have d4 := b1.at 4 rfl; have d5 := b1.at 5 rfl; have d6 := b1.at 6 rfl)
          go_ret
          exact ⟨by rw [hres.out]; first | rfl | (simp; omega), hT1⟩
    · have ewhya : (why == 0) = false := beq_eq_false_iff_ne.2 ewhy
      have ewhyb : (why != 0) = true := bne_iff_ne.2 ewhy
      by_cases elf : lf = 0
      · have elfa : (lf == 0) = true := by rw [elf]; rfl
        have elfb : (lf != 0) = false := by rw [elf]; rfl
        have hres := Lib.hid (show decide (RowOk ⟨(xf, xg, xb), st, why, tm, lf⟩) = true from by rw [decide_eq_true_iff, hq]; simp [est, ewhy, elf])
        clear hq est ewhy elf
        go_enter Try.func76, Try.ntmps76
        go_wp2_with (go_at_call 99; refine (xid_chk _ (xf, xg, xb) _ hxv.out).mono ?_; rintro e w1 ⟨rfl, hB1⟩; have hT1 := hB0.trans (hB1.mono hB0.size); have b1 := b0.pure hB1; have d3 := b1.at 3 rfl; have d4 := b1.at 4 rfl; have d5 := b1.at 5 rfl; have d6 := b1.at 6 rfl)
        go_ret
        exact ⟨by rw [hres.out]; first | rfl | (simp; omega), hT1⟩
      · have elfa : (lf == 0) = false := beq_eq_false_iff_ne.2 elf
        have elfb : (lf != 0) = true := bne_iff_ne.2 elf
        have hres := Lib.hid (show decide (RowOk ⟨(xf, xg, xb), st, why, tm, lf⟩) = false from by rw [decide_eq_false_iff_not, hq]; simp [est, ewhy, elf])
        clear hq est ewhy elf
        go_enter Try.func76, Try.ntmps76
        go_wp2_with (go_at_call 99; refine (xid_chk _ (xf, xg, xb) _ hxv.out).mono ?_; rintro e w1 ⟨rfl, hB1⟩; have hT1 := hB0.trans (hB1.mono hB0.size); have b1 := b0.pure hB1; have d3 := b1.at 3 rfl; have d4 := b1.at 4 rfl; have d5 := b1.at 5 rfl; have d6 := b1.at 6 rfl)
        go_ret
        exact ⟨by rw [hres.out]; first | rfl | (simp; omega), hT1⟩
  · have esta : (st == 1) = false := beq_eq_false_iff_ne.2 est
    have estb : (st != 1) = true := bne_iff_ne.2 est
    by_cases ewhy : why = 0
    · have ewhya : (why == 0) = true := by rw [ewhy]; rfl
      have ewhyb : (why != 0) = false := by rw [ewhy]; rfl
      by_cases elf : lf = 0
      · have elfa : (lf == 0) = true := by rw [elf]; rfl
        have elfb : (lf != 0) = false := by rw [elf]; rfl
        have hres := Lib.hid (show decide (RowOk ⟨(xf, xg, xb), st, why, tm, lf⟩) = true from by rw [decide_eq_true_iff, hq]; simp [est, ewhy, elf])
        clear hq est ewhy elf
        go_enter Try.func76, Try.ntmps76
        go_wp2_with (go_at_call 99; refine (xid_chk _ (xf, xg, xb) _ hxv.out).mono ?_; rintro e w1 ⟨rfl, hB1⟩; have hT1 := hB0.trans (hB1.mono hB0.size); have b1 := b0.pure hB1; have d3 := b1.at 3 rfl; have d4 := b1.at 4 rfl; have d5 := b1.at 5 rfl; have d6 := b1.at 6 rfl)
        go_ret
        exact ⟨by rw [hres.out]; first | rfl | (simp; omega), hT1⟩
      · have elfa : (lf == 0) = false := beq_eq_false_iff_ne.2 elf
        have elfb : (lf != 0) = true := bne_iff_ne.2 elf
        have hres := Lib.hid (show decide (RowOk ⟨(xf, xg, xb), st, why, tm, lf⟩) = false from by rw [decide_eq_false_iff_not, hq]; simp [est, ewhy, elf])
        clear hq est ewhy elf
        go_enter Try.func76, Try.ntmps76
        go_wp2_with (go_at_call 99; refine (xid_chk _ (xf, xg, xb) _ hxv.out).mono ?_; rintro e w1 ⟨rfl, hB1⟩; have hT1 := hB0.trans (hB1.mono hB0.size); have b1 := b0.pure hB1; have d3 := b1.at 3 rfl; have d4 := b1.at 4 rfl; have d5 := b1.at 5 rfl; have d6 := b1.at 6 rfl)
        go_ret
        exact ⟨by rw [hres.out]; first | rfl | (simp; omega), hT1⟩
    · have ewhya : (why == 0) = false := beq_eq_false_iff_ne.2 ewhy
      have ewhyb : (why != 0) = true := bne_iff_ne.2 ewhy
      by_cases elf : lf = 0
      · have elfa : (lf == 0) = true := by rw [elf]; rfl
        have elfb : (lf != 0) = false := by rw [elf]; rfl
        have hres := Lib.hid (show decide (RowOk ⟨(xf, xg, xb), st, why, tm, lf⟩) = false from by rw [decide_eq_false_iff_not, hq]; simp [est, ewhy, elf])
        clear hq est ewhy elf
        go_enter Try.func76, Try.ntmps76
        go_wp2_with (go_at_call 99; refine (xid_chk _ (xf, xg, xb) _ hxv.out).mono ?_; rintro e w1 ⟨rfl, hB1⟩; have hT1 := hB0.trans (hB1.mono hB0.size); have b1 := b0.pure hB1; have d3 := b1.at 3 rfl; have d4 := b1.at 4 rfl; have d5 := b1.at 5 rfl; have d6 := b1.at 6 rfl)
        go_ret
        exact ⟨by rw [hres.out]; first | rfl | (simp; omega), hT1⟩
      · have elfa : (lf == 0) = false := beq_eq_false_iff_ne.2 elf
        have elfb : (lf != 0) = true := bne_iff_ne.2 elf
        have hres := Lib.hid (show decide (RowOk ⟨(xf, xg, xb), st, why, tm, lf⟩) = false from by rw [decide_eq_false_iff_not, hq]; simp [est, ewhy, elf])
        clear hq est ewhy elf
        go_enter Try.func76, Try.ntmps76
        go_wp2_with (go_at_call 99; refine (xid_chk _ (xf, xg, xb) _ hxv.out).mono ?_; rintro e w1 ⟨rfl, hB1⟩; have hT1 := hB0.trans (hB1.mono hB0.size); have b1 := b0.pure hB1; have d3 := b1.at 3 rfl; have d4 := b1.at 4 rfl; have d5 := b1.at 5 rfl; have d6 := b1.at 6 rfl)
        go_ret
        exact ⟨by rw [hres.out]; first | rfl | (simp; omega), hT1⟩

theorem at1_any (w : World) (b : Brn) (x : Xid) :
    Calls Try.prog 110 #[.agg #[.int .u32 b.x.1, .string b.x.2.1, .string b.x.2.2, .int .u8 b.st, .int .u8 b.why, .int .u32 b.tm, .int .u32 b.lf], .agg #[.int .u32 x.1, .string x.2.1, .string x.2.2]] w fun e w' => e = .returned (.int .i64 (cmpX b.x x)) ∧ Below w.heap.size w w' := by
  obtain ⟨⟨xf, xg, xb⟩, st, why, tm, lf⟩ := b
  obtain ⟨yf, yg, yb⟩ := x
  simp only
  have hB0 : Below w.heap.size w ((w.alloc (.cells #[.int .u32 xf, .string xg, .string xb, .int .u8 st, .int .u8 why, .int .u32 tm, .int .u32 lf] 44)).alloc (.cells #[.int .u32 yf, .string yg, .string yb] 28)) := ((Below.refl w.heap.size w).alloc (Nat.le_refl _) _).alloc (by simp) _
  have b0 : Blk ((w.alloc (.cells #[.int .u32 xf, .string xg, .string xb, .int .u8 st, .int .u8 why, .int .u32 tm, .int .u32 lf] 44)).alloc (.cells #[.int .u32 yf, .string yg, .string yb] 28)) w.heap.size [.int .u32 xf, .string xg, .string xb, .int .u8 st, .int .u8 why, .int .u32 tm, .int .u32 lf] := (Blk.new w [.int .u32 xf, .string xg, .string xb, .int .u8 st, .int .u8 why, .int .u32 tm, .int .u32 lf] 44).alloc _
  have e0 : Blk ((w.alloc (.cells #[.int .u32 xf, .string xg, .string xb, .int .u8 st, .int .u8 why, .int .u32 tm, .int .u32 lf] 44)).alloc (.cells #[.int .u32 yf, .string yg, .string yb] 28)) (w.heap.size + 1) [.int .u32 yf, .string yg, .string yb] := by have := Blk.new (w.alloc (.cells #[.int .u32 xf, .string xg, .string xb, .int .u8 st, .int .u8 why, .int .u32 tm, .int .u32 lf] 44)) [.int .u32 yf, .string yg, .string yb] 28; simpa using this
  have c0 := b0.at 0 rfl; have c1 := b0.at 1 rfl; have c2 := b0.at 2 rfl; have c3 := e0.at 0 rfl; have c4 := e0.at 1 rfl; have c5 := e0.at 2 rfl
  go_enter Try.func110, Try.ntmps110
  go_wp2_with (go_at_call 77; refine (xid_compare _ (xf, xg, xb) (yf, yg, yb)).mono ?_; rintro e w1 ⟨rfl, hB1⟩)
  go_ret
  exact ⟨rfl, hB0.trans (hB1.mono hB0.size)⟩
end Go.Proofs.Ytcelpincmpjhkaa
