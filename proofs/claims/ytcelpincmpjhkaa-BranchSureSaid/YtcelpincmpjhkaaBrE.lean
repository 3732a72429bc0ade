/- Package branch: row, busy, link of a table; spoil, decided. Conditions: the table's rows rise; at most a million. -/
import Derived.Test.YtcelpincmpjhkaaBrD
namespace Go.Proofs.Ytcelpincmpjhkaa
open Go.RowKit
set_option linter.unusedVariables false

set_option maxRecDepth 100000 in
set_option maxHeartbeats 1600000 in
theorem trow_yes (w : World) (tb g n c : Nat) (av : Value) (R : List Brn) (x : Xid) (k : Nat) (hT : Blk w tb [.slice (some ⟨g, 0, none⟩) n c, av]) (hR : Slc brEnc 7 w (.slice (some ⟨g, 0, none⟩) n c) R) (hr : RisesB R) (hL : R.length ≤ 1000000) (hk : k < R.length) (he : R[k].x = x) :
    Calls Try.prog 54 #[.pointer (some ⟨tb, 0, none⟩), .agg #[.int .u32 x.1, .string x.2.1, .string x.2.2]] w fun e w' => e = .returned (.pointer (some ⟨g, k * 7, none⟩)) ∧ Below w.heap.size w w' := by
  obtain ⟨xf, xg, xb⟩ := x
  simp only
  have hB0 := (Below.refl w.heap.size w).alloc (Nat.le_refl _) (.cells #[.int .u32 xf, .string xg, .string xb] 28)
  have hat := Lib.hid (fun (u : World) (h : Below w.heap.size w u) => atB_yes u _ R (xf, xg, xb) k (hR.pure h) hr hL hk he)
  have b0 := Blk.new w [.int .u32 xf, .string xg, .string xb] 28
  have t0 := hT.alloc (.cells #[.int .u32 xf, .string xg, .string xb] 28)
  have hn : R.length = n := by
    obtain ⟨a, cap, hv, _⟩ := hR.len
    simp only [Value.slice.injEq] at hv; exact hv.2.1.symm
  subst hn
  have hk0 : (0 : Int) ≤ (k : Int) ∧ (k : Int) < (R.length : Int) := by omega
  clear hr he hR hT
  have c0 := b0.at 0 rfl; have c1 := b0.at 1 rfl; have c2 := b0.at 2 rfl; have c3 := t0.at 0 rfl; have c4 := t0.at 1 rfl
  go_enter Try.func54, Try.ntmps54
  go_wp2
  go_region_held3 (fun w' => w'.cell? ⟨w.heap.size, 0, none⟩ = some (.int .u32 xf) ∧ w'.cell? ⟨w.heap.size, 1, none⟩ = some (.string xg) ∧ w'.cell? ⟨w.heap.size, 2, none⟩ = some (.string xb) ∧ w'.cell? ⟨tb, 0, none⟩ = some (.slice (some ⟨g, 0, none⟩) R.length c) ∧ w'.cell? ⟨tb, 1, none⟩ = some av) (first | exact ⟨c0, c1, c2, c3, c4⟩ | exact ⟨f0, f1, f2, f3, f4⟩) (first | (go_at_call 72; refine (hat.out _ (below_dr hB0)).mono ?_; rintro e w1 ⟨rfl, hB1⟩; have b1 := b0.drew.pure hB1; have t1 := t0.drew.pure hB1; have f0 := b1.at 0 rfl; have f1 := b1.at 1 rfl; have f2 := b1.at 2 rfl; have f3 := t1.at 0 rfl; have f4 := t1.at 1 rfl; have hT1 := (below_dr hB0).trans (hB1.mono hB0.size)))
  go_wp2_with (go_at_call 50; refine (must_ok _ _).mono ?_; rintro e w2 ⟨rfl, rfl⟩)
  go_ret
  exact ⟨rfl, hT1⟩

set_option maxRecDepth 100000 in
set_option maxHeartbeats 1600000 in
theorem trow_no (w : World) (tb : Nat) (rv av : Value) (R : List Brn) (x : Xid) (hT : Blk w tb [rv, av]) (hR : Slc brEnc 7 w rv R) (hr : RisesB R) (hL : R.length ≤ 1000000) (hn : ¬ MemB R x) :
    Calls Try.prog 54 #[.pointer (some ⟨tb, 0, none⟩), .agg #[.int .u32 x.1, .string x.2.1, .string x.2.2]] w fun e w' => e = .panicked [{ v := .iface 36 (.int .i64 7), recovered := false }] ∧ Below w.heap.size w w' := by
  obtain ⟨xf, xg, xb⟩ := x
  simp only
  have hB0 := (Below.refl w.heap.size w).alloc (Nat.le_refl _) (.cells #[.int .u32 xf, .string xg, .string xb] 28)
  have hat := Lib.hid (fun (u : World) (h : Below w.heap.size w u) => atB_no u _ R (xf, xg, xb) (hR.pure h) hr hL hn)
  have b0 := Blk.new w [.int .u32 xf, .string xg, .string xb] 28
  have t0 := hT.alloc (.cells #[.int .u32 xf, .string xg, .string xb] 28)
  obtain ⟨a, cap, rfl, _⟩ := hR.len
  clear hr hR hT hn
  have c0 := b0.at 0 rfl; have c1 := b0.at 1 rfl; have c2 := b0.at 2 rfl; have c3 := t0.at 0 rfl; have c4 := t0.at 1 rfl
  go_enter Try.func54, Try.ntmps54
  go_wp2
  go_region_held3 (fun w' => w'.cell? ⟨w.heap.size, 0, none⟩ = some (.int .u32 xf) ∧ w'.cell? ⟨w.heap.size, 1, none⟩ = some (.string xg) ∧ w'.cell? ⟨w.heap.size, 2, none⟩ = some (.string xb) ∧ w'.cell? ⟨tb, 0, none⟩ = some (.slice a R.length cap) ∧ w'.cell? ⟨tb, 1, none⟩ = some av) (first | exact ⟨c0, c1, c2, c3, c4⟩ | exact ⟨f0, f1, f2, f3, f4⟩) (first | (go_at_call 72; refine (hat.out _ (below_dr hB0)).mono ?_; rintro e w1 ⟨i, hi, rfl, hB1⟩; have b1 := b0.drew.pure hB1; have t1 := t0.drew.pure hB1; have f0 := b1.at 0 rfl; have f1 := b1.at 1 rfl; have f2 := b1.at 2 rfl; have f3 := t1.at 0 rfl; have f4 := t1.at 1 rfl; have hT1 := (below_dr hB0).trans (hB1.mono hB0.size)))
  go_wp2_with (go_at_call 50; refine (must_no _ _).mono ?_; rintro e w2 ⟨rfl, rfl⟩)
  exact ⟨rfl, rfl, hT1⟩

set_option maxRecDepth 100000 in
set_option maxHeartbeats 1600000 in
theorem tbusy (w : World) (tb : Nat) (rv av : Value) (A : List Asc) (x : Xid) (hT : Blk w tb [rv, av]) (hA : Slc ascEnc 5 w av A) (hL : A.length ≤ 1000000) :
    Calls Try.prog 81 #[.pointer (some ⟨tb, 0, none⟩), .agg #[.int .u32 x.1, .string x.2.1, .string x.2.2]] w fun e w' => e = .returned (.bool (decide (0 < cntA A x))) ∧ Below w.heap.size w w' := by
  obtain ⟨xf, xg, xb⟩ := x
  simp only
  have hB0 := (Below.refl w.heap.size w).alloc (Nat.le_refl _) (.cells #[.int .u32 xf, .string xg, .string xb] 28)
  have hat := Lib.hid (fun (u : World) (h : Below w.heap.size w u) => count_any u _ A (xf, xg, xb) (hA.pure h) hL)
  have b0 := Blk.new w [.int .u32 xf, .string xg, .string xb] 28
  have t0 := hT.alloc (.cells #[.int .u32 xf, .string xg, .string xb] 28)
  obtain ⟨a, cap, rfl, _⟩ := hA.len
  clear hA hT
  have c0 := b0.at 0 rfl; have c1 := b0.at 1 rfl; have c2 := b0.at 2 rfl; have c3 := t0.at 0 rfl; have c4 := t0.at 1 rfl
  go_enter Try.func81, Try.ntmps81
  go_wp2
  go_region_held3 (fun w' => w'.cell? ⟨w.heap.size, 0, none⟩ = some (.int .u32 xf) ∧ w'.cell? ⟨w.heap.size, 1, none⟩ = some (.string xg) ∧ w'.cell? ⟨w.heap.size, 2, none⟩ = some (.string xb) ∧ w'.cell? ⟨tb, 0, none⟩ = some rv ∧ w'.cell? ⟨tb, 1, none⟩ = some (.slice a A.length cap)) (first | exact ⟨c0, c1, c2, c3, c4⟩ | exact ⟨f0, f1, f2, f3, f4⟩) (first | (go_at_call 116; refine (hat.out _ (below_dr hB0)).mono ?_; rintro e w1 ⟨rfl, hB1⟩; have b1 := b0.drew.pure hB1; have t1 := t0.drew.pure hB1; have f0 := b1.at 0 rfl; have f1 := b1.at 1 rfl; have f2 := b1.at 2 rfl; have f3 := t1.at 0 rfl; have f4 := t1.at 1 rfl; have hT1 := (below_dr hB0).trans (hB1.mono hB0.size)))
  go_wp2
  go_ret
  exact ⟨rfl, hT1⟩

theorem tlink_ok0 (w : World) (tb : Nat) (rv av : Value) (a : Option Addr) (n c : Nat) (hT : Blk w tb [rv, av]) :
    Calls Try.prog 52 #[.pointer (some ⟨tb, 0, none⟩), .slice a n c, .int .i64 0] w fun e w' => e = .returned (.tuple #[]) ∧ Blk w' tb [rv, .slice a n c] ∧ Upd (· = tb) w w' := by
  have hT' := Lib.hid hT
  have c1 := hT.at 1 rfl
  have z1 := hT.frozen 1
  clear hT
  go_enter Try.func52, Try.ntmps52
  go_wp2_with (go_at_call 50; refine (must_ok _ _).mono ?_; rintro e w2 ⟨rfl, rfl⟩)
  go_end0
  exact ⟨rfl, hT'.out.set 1 (.slice a n c), Upd.set (S := (· = tb)) rfl _⟩
theorem tlink_ok {α : Type} {enc : α → List Value} {m base : Nat} {e : TypeId} {L : List α} (w : World) (tb : Nat) (rv av v : Value) (hT : Blk w tb [rv, av]) (hv : Own base e m enc w v L) :
    Calls Try.prog 52 #[.pointer (some ⟨tb, 0, none⟩), v, .int .i64 0] w fun e w' => e = .returned (.tuple #[]) ∧ Blk w' tb [rv, v] ∧ Upd (· = tb) w w' := by
  obtain ⟨a, c, rfl⟩ := own_len hv
  exact tlink_ok0 w tb rv av a _ c hT
theorem tlink_no (w : World) (tb : Nat) (v : Value) (c : Int) (hc : c ≠ 0) :
    Calls Try.prog 52 #[.pointer (some ⟨tb, 0, none⟩), v, .int .i64 c] w fun e w' => e = .panicked [{ v := .iface 36 (.int .i64 9), recovered := false }] ∧ w = w' := by
  have hcb : (c == 0) = false := beq_eq_false_iff_ne.2 hc
  clear hc
  go_enter Try.func52, Try.ntmps52
  go_wp2_with (go_at_call 50; refine (must_no _ _).mono ?_; rintro e w2 ⟨rfl, rfl⟩)
  exact ⟨rfl, rfl, rfl⟩

set_option maxRecDepth 100000 in
theorem spoil_any {base : Nat} (w : World) (g n c k : Nat) (R : List Brn) (y : Int) (hO : Own base 44 7 brEnc w (.slice (some ⟨g, 0, none⟩) n c) R) (hk : k < R.length) :
    Calls Try.prog 68 #[.pointer (some ⟨g, k * 7, none⟩), .int .u8 y] w fun e w' => e = .returned (.tuple #[]) ∧ Own base 44 7 brEnc w' (.slice (some ⟨g, 0, none⟩) n c) (R.set k (R[k].spoil y)) ∧ Upd (· = g) w w' := by
  obtain ⟨c0, c1, c2, c3, c4, c5, c6⟩ := br_cells (hO.slc brEnc_len) hk
  have z4 := hO.frozen (k * 7 + 4)
  have z6 := hO.frozen (k * 7 + 6)
  simp only [Nat.zero_add] at c0 c1 c2 c3 c4 c5 c6
  by_cases hw : R[k].why = 0
  · have hwb : (R[k].why == 0) = true := by rw [hw]; rfl
    have h1 := hO.set brEnc_len k hk 4 (.int .u8 y) { R[k] with why := y } (by omega) rfl
    have h2 := h1.set brEnc_len k (by simpa using hk) 6 (.int .u32 0) { R[k] with why := y, lf := 0 } (by omega) (by rw [List.getElem_set_self]; rfl)
    rw [List.set_set] at h2
    have h3 := Lib.hid h2
    have hs := Lib.hid (show R[k].spoil y = { R[k] with why := y, lf := 0 } by unfold Brn.spoil; rw [if_pos hw])
    clear h1 h2 hO hw c0 c1 c2 c3 c5
    go_enter Try.func68, Try.ntmps68
    go_wp2
    go_end0
    exact ⟨rfl, by rw [hs.out]; exact h3.out, (Upd.set (S := (· = g)) rfl _).trans (Upd.set (S := (· = g)) rfl _) (fun _ h _ => h)⟩
  · have hwb : (R[k].why == 0) = false := beq_eq_false_iff_ne.2 hw
    have h2 := hO.set brEnc_len k hk 6 (.int .u32 0) { R[k] with lf := 0 } (by omega) rfl
    have h3 := Lib.hid h2
    have hs := Lib.hid (show R[k].spoil y = { R[k] with lf := 0 } by unfold Brn.spoil; rw [if_neg hw])
    clear h2 hO hw c0 c1 c2 c3 c5
    go_enter Try.func68, Try.ntmps68
    go_wp2
    go_end0
    exact ⟨rfl, by rw [hs.out]; exact h3.out, Upd.set (S := (· = g)) rfl _⟩

theorem decided_any (w : World) (b : Brn) :
    Calls Try.prog 80 #[.agg #[.int .u32 b.x.1, .string b.x.2.1, .string b.x.2.2, .int .u8 b.st, .int .u8 b.why, .int .u32 b.tm, .int .u32 b.lf]] w fun e w' => e = .returned (.tuple #[.int .u8 (answerD b.st), .bool (decide (answerD b.st ≠ 0))]) ∧ Below w.heap.size w w' := by
  have hB0 := (Below.refl w.heap.size w).alloc (Nat.le_refl _) (.cells (brEnc b).toArray 44)
  unfold answerD
  by_cases h3 : b.st = 3
  · have h3b : (b.st == 3) = true := by rw [h3]; rfl
    rw [if_pos h3]
    clear h3
    go_enter Try.func80, Try.ntmps80
    go_wp2
    go_ret2
    exact ⟨rfl, hB0⟩
  · have h3b : (b.st == 3) = false := beq_eq_false_iff_ne.2 h3
    rw [if_neg h3]
    by_cases h4 : b.st = 4
    · have h4b : (b.st == 4) = true := by rw [h4]; rfl
      rw [if_pos h4]
      clear h3 h4
      go_enter Try.func80, Try.ntmps80
      go_wp2
      go_ret2
      exact ⟨rfl, hB0⟩
    · have h4b : (b.st == 4) = false := beq_eq_false_iff_ne.2 h4
      rw [if_neg h4]
      clear h3 h4
      go_enter Try.func80, Try.ntmps80
      go_wp2
      go_ret2
      exact ⟨rfl, hB0⟩
end Go.Proofs.Ytcelpincmpjhkaa
