/- Package branch: slices.DeleteFunc at the rows of a table; gone. Conditions: the rows rise; at most a million. (Texts joined; the heads of the others stand below.) -/
import Derived.Test.YtcelpincmpjhkaaBrD
import Derived.Test.YtcelpincmpjhkaaGA

/- Package branch: row, busy, link of a table; spoil, decided. Conditions: the table's rows rise; at most a million. -/
namespace Go.Proofs.Ytcelpincmpjhkaa
set_option linter.unusedSimpArgs false
set_option linter.unusedVariables false
open Go.RowKit

set_option maxRecDepth 100000 in
set_option maxHeartbeats 1600000 in
theorem trow_yes (w : World) (tb g n c : Nat) (av : Value) (R : List Brn) (x : Xid) (k : Nat) (hT : Blk w tb [.slice (some ⟨g, 0, none⟩) n c, av]) (hR : Slc brEnc 7 w (.slice (some ⟨g, 0, none⟩) n c) R) (hr : RisesB R) (hL : R.length ≤ 1000000) (hk : k < R.length) (he : R[k].x = x) :
    Calls Try.prog 54 #[.pointer (some ⟨tb, 0, none⟩), .agg #[.int .u32 x.1, .string x.2.1, .string x.2.2]] w fun e w' => e = .returned (.pointer (some ⟨g, k * 7, none⟩)) ∧ Below w.heap.size w w' := by
  obtain ⟨xf, xg, xb⟩ := x
  simp only
  have hB0 := (Below.refl w.heap.size w).alloc (Nat.le_refl _) (.cells #[.int .u32 xf, .string xg, .string xb] 28)
  have hat := Lib.hid (fun (u : World) (h : Below w.heap.size w u) => atB_yes u _ R (xf, xg, xb) k (hR.pure h) hr hL hk he)
  have b0 := Blk.new w [.int .u32 xf, .string xg, .string xb] 28
  have t0 := hT.alloc (.cells #[.int .u32 xf, .string xg, .string xb] 28)
  have hn : R.length = n := by
    obtain ⟨a, cap, hv, _⟩ := hR.len
    simp only [Value.slice.injEq] at hv; exact hv.2.1.symm
  subst hn
  have hk0 : (0 : Int) ≤ (k : Int) ∧ (k : Int) < (R.length : Int) := by omega
  clear hr he hR hT
  have c0 := b0.at 0 rfl; have c1 := b0.at 1 rfl; have c2 := b0.at 2 rfl; have c3 := t0.at 0 rfl; have c4 := t0.at 1 rfl
  go_enter Try.func54, Try.ntmps54
  go_wp2
  go_region_held3 (fun w' => w'.cell? ⟨w.heap.size, 0, none⟩ = some (.int .u32 xf) ∧ w'.cell? ⟨w.heap.size, 1, none⟩ = some (.string xg) ∧ w'.cell? ⟨w.heap.size, 2, none⟩ = some (.string xb) ∧ w'.cell? ⟨tb, 0, none⟩ = some (.slice (some ⟨g, 0, none⟩) R.length c) ∧ w'.cell? ⟨tb, 1, none⟩ = some av) (first | exact ⟨c0, c1, c2, c3, c4⟩ | exact ⟨f0, f1, f2, f3, f4⟩) (first | (go_at_call 72; refine (hat.out _ (below_dr hB0)).mono ?_; rintro e w1 ⟨rfl, hB1⟩; have b1 := b0.drew.pure hB1; have t1 := t0.drew.pure hB1; have f0 := b1.at 0 rfl; have f1 := b1.at 1 rfl; have f2 := b1.at 2 rfl; have f3 := t1.at 0 rfl; have f4 := t1.at 1 rfl; have hT1 := (below_dr hB0).trans (hB1.mono hB0.size)))
  go_wp2_with (go_at_call 50; refine (must_ok _ _).mono ?_; rintro e w2 ⟨rfl, rfl⟩)
  go_ret
  exact ⟨rfl, hT1⟩

set_option maxRecDepth 100000 in
set_option maxHeartbeats 1600000 in
theorem trow_no (w : World) (tb : Nat) (rv av : Value) (R : List Brn) (x : Xid) (hT : Blk w tb [rv, av]) (hR : Slc brEnc 7 w rv R) (hr : RisesB R) (hL : R.length ≤ 1000000) (hn : ¬ MemB R x) :
    Calls Try.prog 54 #[.pointer (some ⟨tb, 0, none⟩), .agg #[.int .u32 x.1, .string x.2.1, .string x.2.2]] w fun e w' => e = .panicked [{ v := .iface 36 (.int .i64 7), recovered := false }] ∧ Below w.heap.size w w' := by
  obtain ⟨xf, xg, xb⟩ := x
  simp only
  have hB0 := (Below.refl w.heap.size w).alloc (Nat.le_refl _) (.cells #[.int .u32 xf, .string xg, .string xb] 28)
  have hat := Lib.hid (fun (u : World) (h : Below w.heap.size w u) => atB_no u _ R (xf, xg, xb) (hR.pure h) hr hL hn)
  have b0 := Blk.new w [.int .u32 xf, .string xg, .string xb] 28
  have t0 := hT.alloc (.cells #[.int .u32 xf, .string xg, .string xb] 28)
  obtain ⟨a, cap, rfl, _⟩ := hR.len
  clear hr hR hT hn
  have c0 := b0.at 0 rfl; have c1 := b0.at 1 rfl; have c2 := b0.at 2 rfl; have c3 := t0.at 0 rfl; have c4 := t0.at 1 rfl
  go_enter Try.func54, Try.ntmps54
  go_wp2
  go_region_held3 (fun w' => w'.cell? ⟨w.heap.size, 0, none⟩ = some (.int .u32 xf) ∧ w'.cell? ⟨w.heap.size, 1, none⟩ = some (.string xg) ∧ w'.cell? ⟨w.heap.size, 2, none⟩ = some (.string xb) ∧ w'.cell? ⟨tb, 0, none⟩ = some (.slice a R.length cap) ∧ w'.cell? ⟨tb, 1, none⟩ = some av) (first | exact ⟨c0, c1, c2, c3, c4⟩ | exact ⟨f0, f1, f2, f3, f4⟩) (first | (go_at_call 72; refine (hat.out _ (below_dr hB0)).mono ?_; rintro e w1 ⟨i, hi, rfl, hB1⟩; have b1 := b0.drew.pure hB1; have t1 := t0.drew.pure hB1; have f0 := b1.at 0 rfl; have f1 := b1.at 1 rfl; have f2 := b1.at 2 rfl; have f3 := t1.at 0 rfl; have f4 := t1.at 1 rfl; have hT1 := (below_dr hB0).trans (hB1.mono hB0.size)))
  go_wp2_with (go_at_call 50; refine (must_no _ _).mono ?_; rintro e w2 ⟨rfl, rfl⟩)
  exact ⟨rfl, rfl, hT1⟩

set_option maxRecDepth 100000 in
set_option maxHeartbeats 1600000 in
theorem tbusy (w : World) (tb : Nat) (rv av : Value) (A : List Asc) (x : Xid) (hT : Blk w tb [rv, av]) (hA : Slc ascEnc 5 w av A) (hL : A.length ≤ 1000000) :
    Calls Try.prog 81 #[.pointer (some ⟨tb, 0, none⟩), .agg #[.int .u32 x.1, .string x.2.1, .string x.2.2]] w fun e w' => e = .returned (.bool (decide (0 < cntA A x))) ∧ Below w.heap.size w w' := by
  obtain ⟨xf, xg, xb⟩ := x
  simp only
  have hB0 := (Below.refl w.heap.size w).alloc (Nat.le_refl _) (.cells #[.int .u32 xf, .string xg, .string xb] 28)
  have hat := Lib.hid (fun (u : World) (h : Below w.heap.size w u) => count_any u _ A (xf, xg, xb) (hA.pure h) hL)
  have b0 := Blk.new w [.int .u32 xf, .string xg, .string xb] 28
  have t0 := hT.alloc (.cells #[.int .u32 xf, .string xg, .string xb] 28)
  obtain ⟨a, cap, rfl, _⟩ := hA.len
  clear hA hT
  have c0 := b0.at 0 rfl; have c1 := b0.at 1 rfl; have c2 := b0.at 2 rfl; have c3 := t0.at 0 rfl; have c4 := t0.at 1 rfl
  go_enter Try.func81, Try.ntmps81
  go_wp2
  go_region_held3 (fun w' => w'.cell? ⟨w.heap.size, 0, none⟩ = some (.int .u32 xf) ∧ w'.cell? ⟨w.heap.size, 1, none⟩ = some (.string xg) ∧ w'.cell? ⟨w.heap.size, 2, none⟩ = some (.string xb) ∧ w'.cell? ⟨tb, 0, none⟩ = some rv ∧ w'.cell? ⟨tb, 1, none⟩ = some (.slice a A.length cap)) (first | exact ⟨c0, c1, c2, c3, c4⟩ | exact ⟨f0, f1, f2, f3, f4⟩) (first | (go_at_call 116; refine (hat.out _ (below_dr hB0)).mono ?_; rintro e w1 ⟨rfl, hB1⟩; have b1 := b0.drew.pure hB1; have t1 := t0.drew.pure hB1; have f0 := b1.at 0 rfl; have f1 := b1.at 1 rfl; have f2 := b1.at 2 rfl; have f3 := t1.at 0 rfl; have f4 := t1.at 1 rfl; have hT1 := (below_dr hB0).trans (hB1.mono hB0.size)))
  go_wp2
  go_ret
  exact ⟨rfl, hT1⟩

theorem tlink_ok0 (w : World) (tb : Nat) (rv av : Value) (a : Option Addr) (n c : Nat) (hT : Blk w tb [rv, av]) :
    Calls Try.prog 52 #[.pointer (some ⟨tb, 0, none⟩), .slice a n c, .int .i64 0] w fun e w' => e = .returned (.tuple #[]) ∧ Blk w' tb [rv, .slice a n c] ∧ Upd (· = tb) w w' := by
  have hT' := Lib.hid hT
  have c1 := hT.at 1 rfl
  have z1 := hT.frozen 1
  clear hT
  go_enter Try.func52, Try.ntmps52
  go_wp2_with (go_at_call 50; refine (must_ok _ _).mono ?_; rintro e w2 ⟨rfl, rfl⟩)
  go_end0
  exact ⟨rfl, hT'.out.set 1 (.slice a n c), Upd.set (S := (· = tb)) rfl _⟩
theorem tlink_ok {α : Type} {enc : α → List Value} {m base : Nat} {e : TypeId} {L : List α} (w : World) (tb : Nat) (rv av v : Value) (hT : Blk w tb [rv, av]) (hv : Own base e m enc w v L) :
    Calls Try.prog 52 #[.pointer (some ⟨tb, 0, none⟩), v, .int .i64 0] w fun e w' => e = .returned (.tuple #[]) ∧ Blk w' tb [rv, v] ∧ Upd (· = tb) w w' := by
  obtain ⟨a, c, rfl⟩ := own_len hv
  exact tlink_ok0 w tb rv av a _ c hT
theorem tlink_no (w : World) (tb : Nat) (v : Value) (c : Int) (hc : c ≠ 0) :
    Calls Try.prog 52 #[.pointer (some ⟨tb, 0, none⟩), v, .int .i64 c] w fun e w' => e = .panicked [{ v := .iface 36 (.int .i64 9), recovered := false }] ∧ w = w' := by
  have hcb : (c == 0) = false := beq_eq_false_iff_ne.2 hc
  clear hc
  go_enter Try.func52, Try.ntmps52
  go_wp2_with (go_at_call 50; refine (must_no _ _).mono ?_; rintro e w2 ⟨rfl, rfl⟩)
  exact ⟨rfl, rfl, rfl⟩

set_option maxRecDepth 100000 in
theorem spoil_any {base : Nat} (w : World) (g n c k : Nat) (R : List Brn) (y : Int) (hO : Own base 44 7 brEnc w (.slice (some ⟨g, 0, none⟩) n c) R) (hk : k < R.length) :
    Calls Try.prog 68 #[.pointer (some ⟨g, k * 7, none⟩), .int .u8 y] w fun e w' => e = .returned (.tuple #[]) ∧ Own base 44 7 brEnc w' (.slice (some ⟨g, 0, none⟩) n c) (R.set k (R[k].spoil y)) ∧ Upd (· = g) w w' := by
  obtain ⟨c0, c1, c2, c3, c4, c5, c6⟩ := br_cells (hO.slc brEnc_len) hk
  have z4 := hO.frozen (k * 7 + 4)
  have z6 := hO.frozen (k * 7 + 6)
  simp only [Nat.zero_add] at c0 c1 c2 c3 c4 c5 c6
  by_cases hw : R[k].why = 0
  · have hwb : (R[k].why == 0) = true := by rw [hw]; rfl
    have h1 := hO.set brEnc_len k hk 4 (.int .u8 y) { R[k] with why := y } (by omega) rfl
    have h2 := h1.set brEnc_len k (by simpa using hk) 6 (.int .u32 0) { R[k] with why := y, lf := 0 } (by omega) (by rw [List.getElem_set_self]; rfl)
    rw [List.set_set] at h2
    have h3 := Lib.hid h2
    have hs := Lib.hid (show R[k].spoil y = { R[k] with why := y, lf := 0 } by unfold Brn.spoil; rw [if_pos hw])
    clear h1 h2 hO hw c0 c1 c2 c3 c5
    go_enter Try.func68, Try.ntmps68
    go_wp2
    go_end0
    exact ⟨rfl, by rw [hs.out]; exact h3.out, (Upd.set (S := (· = g)) rfl _).trans (Upd.set (S := (· = g)) rfl _) (fun _ h _ => h)⟩
  · have hwb : (R[k].why == 0) = false := beq_eq_false_iff_ne.2 hw
    have h2 := hO.set brEnc_len k hk 6 (.int .u32 0) { R[k] with lf := 0 } (by omega) rfl
    have h3 := Lib.hid h2
    have hs := Lib.hid (show R[k].spoil y = { R[k] with lf := 0 } by unfold Brn.spoil; rw [if_neg hw])
    clear h2 hO hw c0 c1 c2 c3 c5
    go_enter Try.func68, Try.ntmps68
    go_wp2
    go_end0
    exact ⟨rfl, by rw [hs.out]; exact h3.out, Upd.set (S := (· = g)) rfl _⟩

theorem decided_any (w : World) (b : Brn) :
    Calls Try.prog 80 #[.agg #[.int .u32 b.x.1, .string b.x.2.1, .string b.x.2.2, .int .u8 b.st, .int .u8 b.why, .int .u32 b.tm, .int .u32 b.lf]] w fun e w' => e = .returned (.tuple #[.int .u8 (answerD b.st), .bool (decide (answerD b.st ≠ 0))]) ∧ Below w.heap.size w w' := by
  have hB0 := (Below.refl w.heap.size w).alloc (Nat.le_refl _) (.cells (brEnc b).toArray 44)
  unfold answerD
  by_cases h3 : b.st = 3
  · have h3b : (b.st == 3) = true := by rw [h3]; rfl
    rw [if_pos h3]
    clear h3
    go_enter Try.func80, Try.ntmps80
    go_wp2
    go_ret2
    exact ⟨rfl, hB0⟩
  · have h3b : (b.st == 3) = false := beq_eq_false_iff_ne.2 h3
    rw [if_neg h3]
    by_cases h4 : b.st = 4
    · have h4b : (b.st == 4) = true := by rw [h4]; rfl
      rw [if_pos h4]
      clear h3 h4
      go_enter Try.func80, Try.ntmps80
      go_wp2
      go_ret2
      exact ⟨rfl, hB0⟩
    · have h4b : (b.st == 4) = false := beq_eq_false_iff_ne.2 h4
      rw [if_neg h4]
      clear h3 h4
      go_enter Try.func80, Try.ntmps80
      go_wp2
      go_ret2
      exact ⟨rfl, hB0⟩
end Go.Proofs.Ytcelpincmpjhkaa

/- Package branch: gone: slices.IndexFunc, slices.DeleteFunc at the rows of a table. Conditions: the rows rise; at most a million. -/
namespace Go.Proofs.Ytcelpincmpjhkaa
set_option linter.unusedSimpArgs false
set_option linter.unusedVariables false
open Go.RowKit

abbrev goneV (q : Nat) : Value := .func (.func 118) #[] #[.pointer (some ⟨q, 0, none⟩)]
abbrev xidC (x : Xid) : List Value := [.int .u32 x.1, .string x.2.1, .string x.2.2]

theorem gone1_any (w : World) (b : Brn) (q : Nat) (x : Xid) (hq : Blk w q (xidC x)) (v : Bool) (hv : decide (b.x = x) = v) :
    Calls Try.prog 118 #[.agg #[.int .u32 b.x.1, .string b.x.2.1, .string b.x.2.2, .int .u8 b.st, .int .u8 b.why, .int .u32 b.tm, .int .u32 b.lf], .pointer (some ⟨q, 0, none⟩)] w fun e w' => e = .returned (.bool v) ∧ Below w.heap.size w w' := by
  obtain ⟨⟨xf, xg, xb⟩, st, why, tm, lf⟩ := b
  obtain ⟨yf, yg, yb⟩ := x
  simp only at *
  have hB0 := (Below.refl w.heap.size w).alloc (Nat.le_refl _) (.cells #[.int .u32 xf, .string xg, .string xb, .int .u8 st, .int .u8 why, .int .u32 tm, .int .u32 lf] 44)
  have b0 := Blk.new w [.int .u32 xf, .string xg, .string xb, .int .u8 st, .int .u8 why, .int .u32 tm, .int .u32 lf] 44
  have q0 := hq.alloc (.cells #[.int .u32 xf, .string xg, .string xb, .int .u8 st, .int .u8 why, .int .u32 tm, .int .u32 lf] 44)
  have c0 := b0.at 0 rfl; have c1 := b0.at 1 rfl; have c2 := b0.at 2 rfl
  have c3 := q0.at 0 rfl; have c4 := q0.at 1 rfl; have c5 := q0.at 2 rfl
  have hd := neX_decide (xf, xg, xb) (yf, yg, yb)
  have hE : (xf == yf && (xg == yg && xb == yb)) = v := by
    have h2 : ((xf, xg, xb) != (yf, yg, yb)) = !(xf == yf && (xg == yg && xb == yb)) := rfl
    rw [h2, decide_not, hv] at hd
    exact Bool.not_inj hd
  have qE := fun (u : World) => xid_eql u xf yf xg xb yg yb
  simp only [hE] at qE
  clear hd hE hv hq
  go_enter Try.func118, Try.ntmps118
  go_wp2
  go_ret
  exact ⟨rfl, hB0⟩

theorem idx_find {R : List Brn} {x : Xid} (hn : ¬ MemB R x) : ∀ j, (h : j < R.length) → R[j].x ≠ x := fun j h e => hn ⟨j, h, e⟩

set_option maxRecDepth 100000 in
set_option maxHeartbeats 1600000 in
theorem findx_yes (w : World) (v : Value) (R : List Brn) (q : Nat) (x : Xid) (k : Nat) (hs : Slc brEnc 7 w v R) (hL : R.length ≤ 1000000) (hq : Blk w q (xidC x)) (hk : k < R.length) (he : R[k].x = x) (hb : ∀ j, (h : j < k) → (R[j]'(by omega)).x ≠ x) :
    Calls Try.prog 131 #[v, goneV q] w fun e w' => e = .returned (.int .i64 k) ∧ Below w.heap.size w w' := by
  obtain ⟨a, cap, rfl, hm⟩ := hs.len
  unfold maxLen at hm
  have hb' := Lib.hid hb
  have he' := Lib.hid he
  clear hb he
  go_enter Try.func131, Try.ntmps131
  go_wp2
  go_loopw [8] (fun s8 wr => ∃ j : Nat, j ≤ k ∧ s8 = .int .i64 j ∧ Below w.heap.size w wr) (fun s8 _ => R.length - (intOf s8).toNat)
  case atStart => exact ⟨0, by omega, rfl, Below.refl _ _⟩
  case round =>
    obtain ⟨j, hj, rfl, hB⟩ := hrel
    have hBs := hB.size
    have hsr := hs.pure hB
    have hjl : j < R.length := by omega
    obtain ⟨g, off, rfl⟩ := hsr.addr hjl
    obtain ⟨c0, c1, c2, c3, c4, c5, c6⟩ := br_cells hsr hjl
    have hqr := hq.pure hB
    by_cases hjk : j = k
    · subst hjk
      have hg := Lib.hid (gone1_any wr R[j] q x hqr true (decide_eq_true he'.out))
      go_wp2_with (go_at_call 118; refine hg.out.mono ?_; rintro e w1 ⟨rfl, hB1⟩)
      go_ret
      exact ⟨rfl, hB.trans (hB1.mono hBs)⟩
    · have hg := Lib.hid (gone1_any wr R[j] q x hqr false (decide_eq_false (hb'.out j (by omega))))
      go_wp2_with (go_at_call 118; refine hg.out.mono ?_; rintro e w1 ⟨rfl, hB1⟩)
      go_roundw
      case rel => exact ⟨j + 1, by omega, by go_num, hB.trans (hB1.mono hBs)⟩
      case measure => simp [intOf]; omega

set_option maxRecDepth 100000 in
set_option maxHeartbeats 1600000 in
theorem findx_no (w : World) (v : Value) (R : List Brn) (q : Nat) (x : Xid) (hs : Slc brEnc 7 w v R) (hL : R.length ≤ 1000000) (hq : Blk w q (xidC x)) (hn : ¬ MemB R x) :
    Calls Try.prog 131 #[v, goneV q] w fun e w' => e = .returned (.int .i64 (-1)) ∧ Below w.heap.size w w' := by
  obtain ⟨a, cap, rfl, hm⟩ := hs.len
  unfold maxLen at hm
  have hb' := Lib.hid (idx_find hn)
  clear hn
  go_enter Try.func131, Try.ntmps131
  go_wp2
  go_loopw [8] (fun s8 wr => ∃ j : Nat, j ≤ R.length ∧ s8 = .int .i64 j ∧ Below w.heap.size w wr) (fun s8 _ => R.length - (intOf s8).toNat)
  case atStart => exact ⟨0, by omega, rfl, Below.refl _ _⟩
  case round =>
    obtain ⟨j, hj, rfl, hB⟩ := hrel
    have hBs := hB.size
    have hsr := hs.pure hB
    by_cases hjl : j < R.length
    · obtain ⟨g, off, rfl⟩ := hsr.addr hjl
      obtain ⟨c0, c1, c2, c3, c4, c5, c6⟩ := br_cells hsr hjl
      have hqr := hq.pure hB
      have hg := Lib.hid (gone1_any wr R[j] q x hqr false (decide_eq_false (hb'.out j hjl)))
      go_wp2_with (go_at_call 118; refine hg.out.mono ?_; rintro e w1 ⟨rfl, hB1⟩)
      go_roundw
      case rel => exact ⟨j + 1, by omega, by go_num, hB.trans (hB1.mono hBs)⟩
      case measure => simp [intOf]; omega
    · obtain rfl : j = R.length := by omega
      go_wp2
      go_ret
      exact ⟨rfl, hB⟩
end Go.Proofs.Ytcelpincmpjhkaa

/- Package branch: slices.DeleteFunc at the rows of a table; gone. Conditions: the rows rise; at most a million. -/
namespace Go.Proofs.Ytcelpincmpjhkaa
set_option linter.unusedSimpArgs false
set_option linter.unusedVariables false
open Go.RowKit

/-- A whole row stored. -/
theorem brow_set {base : Nat} {w : World} {g n cap : Nat} {L : List Brn} (h : Own base 44 7 brEnc w (.slice (some ⟨g, 0, none⟩) n cap) L) (i : Nat) (hi : i < L.length) (x : Brn) :
    Own base 44 7 brEnc (((((((w.setCell ⟨g, i * 7, none⟩ (.int .u32 x.x.1)).setCell ⟨g, i * 7 + 1, none⟩ (.string x.x.2.1)).setCell ⟨g, i * 7 + 2, none⟩ (.string x.x.2.2)).setCell ⟨g, i * 7 + 3, none⟩ (.int .u8 x.st)).setCell ⟨g, i * 7 + 4, none⟩ (.int .u8 x.why)).setCell ⟨g, i * 7 + 5, none⟩ (.int .u32 x.tm)).setCell ⟨g, i * 7 + 6, none⟩ (.int .u32 x.lf)) (.slice (some ⟨g, 0, none⟩) n cap) (L.set i x) := by
  obtain ⟨⟨xf, xg, xb⟩, st, why, tm, lf⟩ := x
  have e : L[i] = ⟨(L[i].x.1, L[i].x.2.1, L[i].x.2.2), L[i].st, L[i].why, L[i].tm, L[i].lf⟩ := rfl
  have h0 := h.set brEnc_len i hi 0 (.int .u32 xf) ⟨(xf, L[i].x.2.1, L[i].x.2.2), L[i].st, L[i].why, L[i].tm, L[i].lf⟩ (by omega) rfl
  have h1 := h0.set brEnc_len i (by simpa using hi) 1 (.string xg) ⟨(xf, xg, L[i].x.2.2), L[i].st, L[i].why, L[i].tm, L[i].lf⟩ (by omega) (by rw [List.getElem_set_self]; rfl)
  rw [List.set_set] at h1
  have h2 := h1.set brEnc_len i (by simpa using hi) 2 (.string xb) ⟨(xf, xg, xb), L[i].st, L[i].why, L[i].tm, L[i].lf⟩ (by omega) (by rw [List.getElem_set_self]; rfl)
  rw [List.set_set] at h2
  have h3 := h2.set brEnc_len i (by simpa using hi) 3 (.int .u8 st) ⟨(xf, xg, xb), st, L[i].why, L[i].tm, L[i].lf⟩ (by omega) (by rw [List.getElem_set_self]; rfl)
  rw [List.set_set] at h3
  have h4 := h3.set brEnc_len i (by simpa using hi) 4 (.int .u8 why) ⟨(xf, xg, xb), st, why, L[i].tm, L[i].lf⟩ (by omega) (by rw [List.getElem_set_self]; rfl)
  rw [List.set_set] at h4
  have h5 := h4.set brEnc_len i (by simpa using hi) 5 (.int .u32 tm) ⟨(xf, xg, xb), st, why, tm, L[i].lf⟩ (by omega) (by rw [List.getElem_set_self]; rfl)
  rw [List.set_set] at h5
  have h6 := h5.set brEnc_len i (by simpa using hi) 6 (.int .u32 lf) ⟨(xf, xg, xb), st, why, tm, lf⟩ (by omega) (by rw [List.getElem_set_self]; rfl)
  rw [List.set_set] at h6
  exact h6
theorem brow_upd (w : World) (g i : Nat) (a b c d e f h : Value) : Upd (· = g) w (((((((w.setCell ⟨g, i * 7, none⟩ a).setCell ⟨g, i * 7 + 1, none⟩ b).setCell ⟨g, i * 7 + 2, none⟩ c).setCell ⟨g, i * 7 + 3, none⟩ d).setCell ⟨g, i * 7 + 4, none⟩ e).setCell ⟨g, i * 7 + 5, none⟩ f).setCell ⟨g, i * 7 + 6, none⟩ h) := by
  refine Upd.trans ?_ (Upd.set (S := (· = g)) rfl _) (fun _ h _ => h)
  refine Upd.trans ?_ (Upd.set (S := (· = g)) rfl _) (fun _ h _ => h)
  refine Upd.trans ?_ (Upd.set (S := (· = g)) rfl _) (fun _ h _ => h)
  refine Upd.trans ?_ (Upd.set (S := (· = g)) rfl _) (fun _ h _ => h)
  refine Upd.trans ?_ (Upd.set (S := (· = g)) rfl _) (fun _ h _ => h)
  refine Upd.trans ?_ (Upd.set (S := (· = g)) rfl _) (fun _ h _ => h)
  exact Upd.set (S := (· = g)) rfl _

/-- The row k left out, the rows up to i + 1 moved. -/
def shB (R : List Brn) (k i : Nat) : List Brn := R.take k ++ ((R.drop (k + 1)).take (i - k) ++ R.drop i)
theorem shB_start (R : List Brn) (k : Nat) : shB R k k = R := by unfold shB; simp
theorem shB_len {R : List Brn} {k i : Nat} (hk : k ≤ i) (hi : i < R.length) : (shB R k i).length = R.length := by unfold shB; simp; omega
theorem shB_get {R : List Brn} {k i : Nat} (hk : k ≤ i) (hi : i + 1 < R.length) : (shB R k i)[i + 1]? = R[i + 1]? := by
  unfold shB
  rw [List.getElem?_append_right (by simp; omega), List.getElem?_append_right (by simp; omega)]
  simp only [List.length_take, List.length_drop, List.getElem?_drop]
  congr 1
  omega
theorem shB_set {R : List Brn} {k i : Nat} (hk : k ≤ i) (hi : i + 1 < R.length) : (shB R k i).set i R[i + 1] = shB R k (i + 1) := by
  unfold shB
  have e1 : (R.drop (k + 1)).take (i + 1 - k) = (R.drop (k + 1)).take (i - k) ++ [R[i + 1]] := by
    rw [show i + 1 - k = (i - k) + 1 by omega, List.take_succ_eq_append_getElem (by simp; omega)]
    congr 2
    rw [List.getElem_drop]
    congr 1
    omega
  rw [List.set_append_right _ _ (by simp; omega), List.set_append_right _ _ (by simp; omega), e1, List.append_assoc]
  congr 2
  simp only [List.length_take, List.length_drop]
  rw [show i - min k R.length - min (i - k) (R.length - (k + 1)) = 0 by omega, List.drop_eq_getElem_cons (by omega : i < R.length), List.set_cons_zero]
  rfl
theorem shB_end {R : List Brn} {k i : Nat} (hk : k < R.length) (hi : i + 1 = R.length) (hki : k ≤ i) : (shB R k i).take i = R.eraseIdx k := by
  unfold shB
  rw [List.eraseIdx_eq_take_drop_succ, List.take_append, List.take_of_length_le (by simp; omega)]
  congr 1
  rw [List.length_take, Nat.min_eq_left (by omega), List.take_append_of_le_length (by simp; omega), List.take_take, Nat.min_self]
  rw [List.take_of_length_le (by simp; omega)]
theorem splice_take (vs xs : List Value) (o : Nat) (h : o + vs.length ≤ xs.length) : (splice xs o vs).take o = xs.take o := by
  rw [splice_eq vs xs o h, List.append_assoc, List.take_append_of_le_length (by simp; omega), List.take_take, Nat.min_self]
theorem without_erase {R : List Brn} {k : Nat} (hr : RisesB R) (hk : k < R.length) : withoutB R R[k].x = R.eraseIdx k := by
  unfold withoutB
  rw [List.eraseIdx_eq_take_drop_succ]
  have e : R = R.take k ++ R[k] :: R.drop (k + 1) := by rw [← List.drop_eq_getElem_cons hk, List.take_append_drop]
  have hne : ∀ b, b ∈ R.take k ∨ b ∈ R.drop (k + 1) → (b.x != R[k].x) = true := by
    intro b hb
    rw [neX_decide]
    refine decide_eq_true (fun he => ?_)
    rcases hb with hb | hb
    · obtain ⟨j, hj, rfl⟩ := List.getElem_of_mem hb
      have hj' : j < k := by simp at hj; omega
      rw [List.getElem_take] at he
      have := sameB_idx hr (by omega) hk he
      omega
    · obtain ⟨j, hj, rfl⟩ := List.getElem_of_mem hb
      rw [List.length_drop] at hj
      rw [List.getElem_drop] at he
      have := sameB_idx hr (by omega) hk he
      omega
  have h1 : (R.take k ++ R[k] :: R.drop (k + 1)).filter (fun b => b.x != R[k].x) = R.take k ++ R.drop (k + 1) := by
    rw [List.filter_append, List.filter_cons, List.filter_eq_self.2 (fun b hb => hne b (.inl hb)), List.filter_eq_self.2 (fun b hb => hne b (.inr hb))]
    rw [show (R[k].x != R[k].x) = false by rw [neX_decide]; simp]
    rfl
  rw [← e] at h1
  exact h1

set_option maxRecDepth 100000 in
set_option maxHeartbeats 4000000 in
theorem delB_yes {base : Nat} (w : World) (g n cap q : Nat) (R : List Brn) (x : Xid) (k : Nat) (hO : Own base 44 7 brEnc w (.slice (some ⟨g, 0, none⟩) n cap) R) (hr : RisesB R) (hL : R.length ≤ 1000000) (hq : Blk w q (xidC x)) (hqg : q ≠ g) (hk : k < R.length) (he : R[k].x = x) :
    Calls Try.prog 117 #[.slice (some ⟨g, 0, none⟩) n cap, goneV q] w fun e w' => e = .returned (.slice (some ⟨g, 0, none⟩) (n - 1) cap) ∧ Own base 44 7 brEnc w' (.slice (some ⟨g, 0, none⟩) (n - 1) cap) (withoutB R x) ∧ Upd (· = g) w w' := by
  have hcap : n ≤ cap ∧ cap ≤ 9223372036854775807 := by
    rcases hO.cases with ⟨h', _⟩ | ⟨g', cap', h', _, _, k1, k2⟩
    · simp at h'
    · simp only [Value.slice.injEq] at h'; unfold maxLen at k2; omega
  have hn0 : n = R.length := by
    obtain ⟨a', c', hv', _⟩ := (hO.slc brEnc_len).len
    simp only [Value.slice.injEq] at hv'
    exact hv'.2.1
  subst hn0
  have hkb : (((k : Nat) : Int) == -1) = false := beq_eq_false_iff_ne.2 (by omega)
  have hne := Lib.hid (fun (j : Nat) (h : j < R.length) (hj : j ≠ k) => show R[j].x ≠ x from fun e => hj (sameB_idx hr h hk (e.trans he.symm)))
  have hw := Lib.hid (show withoutB R x = R.eraseIdx k by rw [← he]; exact without_erase hr hk)
  have hfi := Lib.hid (findx_yes w _ R q x k (hO.slc brEnc_len) hL hq hk he (fun j h => hne.out j (by omega) (by omega)))
  clear hr he
  go_enter Try.func117, Try.ntmps117
  go_wp2_with (go_at_call 131; refine hfi.out.mono ?_; rintro e w1 ⟨rfl, hB1⟩)
  have hO1 := hO.pure hB1
  have hU1 : Upd (· = g) w w1 := Upd.of_below hB1
  go_loopw [5, 6] (fun s5 s6 wr => ∃ i j : Nat, k ≤ i ∧ j ≤ i + 1 ∧ i < j ∧ j ≤ R.length ∧ s5 = .int .i64 i ∧ s6 = .int .i64 j ∧ Own base 44 7 brEnc wr (.slice (some ⟨g, 0, none⟩) R.length cap) (shB R k i) ∧ Upd (· = g) w wr) (fun _ s6 _ => R.length - (intOf s6).toNat)
  case atStart => exact ⟨k, k + 1, by omega, by omega, by omega, by omega, rfl, by go_num, by rw [shB_start]; exact hO1, hU1⟩
  case round =>
    clear hO1 hU1 hB1
    obtain ⟨i, j, hki, hj1, hij, hjn, rfl, rfl, hOr, hU⟩ := hrel
    have hOr' := Lib.hid hOr
    by_cases hlt : j < R.length
    · have hi1 : i + 1 < R.length := by omega
      have hlen := shB_len (R := R) hki (by omega)
      have hjl : j < (shB R k i).length := by omega
      have hil : i < (shB R k i).length := by omega
      have hlen' := Lib.hid hlen; clear hlen
      obtain ⟨c0, c1, c2, c3, c4, c5, c6⟩ := br_cells (hOr.slc brEnc_len) hjl
      have hsj : (shB R k i)[j] = R[j] := by
        have := shB_get (R := R) hki hi1
        have hj : j = i + 1 := by omega
        subst hj
        rw [List.getElem?_eq_getElem hjl, List.getElem?_eq_getElem hlt] at this
        exact Option.some.inj this
      rw [hsj] at c0 c1 c2 c3 c4 c5 c6
      have hset := Lib.hid (show (shB R k i).set i R[j] = shB R k j by
        have hj : j = i + 1 := by omega
        subst hj
        exact shB_set hki hi1)
      have hxj := hne.out j hlt (by omega)
      have hxj' := Lib.hid hxj
      clear hsj hxj
      obtain ⟨b, hb⟩ : ∃ b, b = R[j] := ⟨_, rfl⟩
      rw [← hb] at c0 c1 c2 c3 c4 c5 c6 hset hxj'
      clear hb
      simp only [Nat.zero_add] at c0 c1 c2 c3 c4 c5 c6
      have hqr := hq.upd hU hqg
      have ij0 : (0 : Int) ≤ (j : Int) ∧ (j : Int) < (R.length : Int) := by omega
      have ii0 : (0 : Int) ≤ (i : Int) ∧ (i : Int) < (R.length : Int) := by omega
      have hA := (Below.refl wr.heap.size wr).alloc (Nat.le_refl _) (.cells (brEnc b).toArray 44)
      have bb := Blk.new wr (brEnc b) 44
      have hg := Lib.hid (gone1_any (wr.alloc (.cells (brEnc b).toArray 44)) b q x (hqr.pure hA) false (decide_eq_false hxj'.out))
      have hOa := (hOr.pure hA)
      go_wp2_with (go_at_call 118; refine hg.out.mono ?_; rintro e w2 ⟨rfl, hB2⟩; have hO2 := hOa.pure hB2; have bb2 := bb.pure hB2; have d0 := bb2.at 0 rfl; have d1 := bb2.at 1 rfl; have d2 := bb2.at 2 rfl; have d3 := bb2.at 3 rfl; have d4 := bb2.at 4 rfl; have d5 := bb2.at 5 rfl; have d6 := bb2.at 6 rfl; obtain ⟨e0, e1, e2, e3, e4, e5, e6⟩ := br_cells (hO2.slc brEnc_len) hil; simp only [Nat.zero_add] at e0 e1 e2 e3 e4 e5 e6; have z0 := hO2.frozen (i * 7); have z1 := hO2.frozen (i * 7 + 1); have z2 := hO2.frozen (i * 7 + 2); have z3 := hO2.frozen (i * 7 + 3); have z4 := hO2.frozen (i * 7 + 4); have z5 := hO2.frozen (i * 7 + 5); have z6 := hO2.frozen (i * 7 + 6); have hU2 : Upd (· = g) w w2 := (hU.trans (Upd.of_below hA) (fun _ h _ => h)).trans (Upd.of_below hB2) (fun _ h _ => h); have hO3 := brow_set hO2 i hil b; rw [hset.out] at hO3; have hO3' := Lib.hid hO3; clear hO3)
      go_roundw
      case rel => exact ⟨i + 1, j + 1, by omega, by omega, by omega, by omega, by go_num, by go_num, by rw [show i + 1 = j by omega]; exact hO3'.out, hU2.trans (brow_upd _ _ _ _ _ _ _ _ _ _) (fun _ h _ => h)⟩
      case measure => simp [intOf]; omega
    · obtain rfl : j = R.length := by omega
      have hlen := shB_len (R := R) hki hij
      have hZ : (brEnc (newB noX 0)).length = 7 := rfl
      have hfl : ((shB R k i).flatMap brEnc).length = R.length * 7 := by rw [flat_len brEnc_len, hlen]
      have hOw : wr.ownsRow base 44 7 (.slice (some ⟨g, 0, none⟩) R.length cap) R.length ((shB R k i).flatMap brEnc) := by have := hOr; unfold Own at this; rw [hlen] at this; exact this
      have hcl : ∀ ty, (Builtin.clear_ #[22] ty #[.slice (some ⟨g, i * 7, none⟩) (R.length - i) (cap - i)]).run Try.prog wr = .ok (.tuple #[]) (wr.setCells g (i * 7) [.int .u32 0, .string ⟨#[]⟩, .string ⟨#[]⟩, .int .u8 0, .int .u8 0, .int .u32 0, .int .u32 0]) := fun ty => by
        refine run_clear_one wr _ 44 ty (.agg #[.int .u32 0, .string ⟨#[]⟩, .string ⟨#[]⟩, .int .u8 0, .int .u8 0, .int .u32 0, .int .u32 0]) _ Try.underlying22 (fun w => by kernel_rfl) rfl (by simp [Value.oneCell']) g (i * 7) _ _ (by omega) (fun t ht => ?_) (fun t ht => ?_)
        · simp only [List.length_cons, List.length_nil] at ht
          have hlt2 : i * 7 + t < ((shB R k i).flatMap brEnc).length := by rw [hfl]; omega
          have := World.ownsRow.cells hOw (g := g) rfl _ _ (List.getElem?_eq_getElem hlt2)
          have e : (⟨g, 0, none⟩ : Addr).add (i * 7 + t) = ⟨g, i * 7 + t, none⟩ := by unfold Addr.add; split <;> simp_all
          rw [← e, this]; rfl
        · exact hOr.frozen (i * 7 + t)
      have hcu := cut_own (stored_many [.int .u32 0, .string ⟨#[]⟩, .string ⟨#[]⟩, .int .u8 0, .int .u8 0, .int .u32 0, .int .u32 0] (i * 7) wr _ hOw) (n' := R.length - 1) (by omega)
      have hi0 : R.length - 1 = i := by omega
      have hi0' := Lib.hid hi0
      rw [hi0] at hcu
      rw [splice_take _ _ _ (by rw [hfl]; simp; omega), ← flat_take brEnc_len, shB_end hk (by omega) hki, ← hw.out] at hcu
      have hwl : (withoutB R x).length = i := by rw [hw.out, List.length_eraseIdx_of_lt hk]; omega
      have hfin : Own base 44 7 brEnc (wr.setCells g (i * 7) [.int .u32 0, .string ⟨#[]⟩, .string ⟨#[]⟩, .int .u8 0, .int .u8 0, .int .u32 0, .int .u32 0]) (.slice (some ⟨g, 0, none⟩) i cap) (withoutB R x) := by unfold Own; rw [hwl]; exact hcu
      have hfin' := Lib.hid hfin
      have hic : ¬ cap = i := by omega
      have hic2 : i ≤ cap := by omega
      have hir : i ≤ R.length := by omega
      obtain ⟨hc1, hc2⟩ := hcap
      clear hfin hcu hwl hi0 hOw hfl hZ hlen hOr
      go_wp2
      go_ret
      rw [hi0'.out]
      exact ⟨rfl, hfin'.out, hU.trans (set_cells_upd (S := (· = g)) rfl _ _ _) (fun _ h _ => h)⟩

theorem delB_no (w : World) (v : Value) (q : Nat) (R : List Brn) (x : Xid) (hs : Slc brEnc 7 w v R) (hL : R.length ≤ 1000000) (hq : Blk w q (xidC x)) (hn : ¬ MemB R x) :
    Calls Try.prog 117 #[v, goneV q] w fun e w' => e = .returned v ∧ Below w.heap.size w w' := by
  have hfi := Lib.hid (findx_no w v R q x hs hL hq hn)
  obtain ⟨a, c, rfl, -⟩ := hs.len
  clear hs hq hn
  go_enter Try.func117, Try.ntmps117
  go_wp2_with (go_at_call 131; refine hfi.out.mono ?_; rintro e w1 ⟨rfl, hB1⟩)
  go_ret
  exact ⟨rfl, hB1⟩

/-- Any table: the rows without a name. -/
theorem delB_any {base : Nat} (w : World) (v : Value) (q : Nat) (R : List Brn) (x : Xid) (hO : Own base 44 7 brEnc w v R) (hr : RisesB R) (hL : R.length ≤ 1000000) (hq : Blk w q (xidC x)) (hqv : v.ownBlock ≠ some q) :
    Calls Try.prog 117 #[v, goneV q] w fun e w' => ∃ r, e = .returned r ∧ Own base 44 7 brEnc w' r (withoutB R x) ∧ Upd (fun k => v.ownBlock = some k) w w' ∧ r.ownBlock = v.ownBlock := by
  rcases Classical.em (MemB R x) with hm | hm
  · obtain ⟨k, hk, he⟩ := hm
    obtain ⟨g, cap, rfl, -, -⟩ := hO.shape (fun e => by rw [e] at hk; simp at hk)
    refine (delB_yes w g _ cap q R x k hO hr hL hq (fun e => hqv (by simp [Value.ownBlock, e])) hk he).mono ?_
    rintro e w' ⟨rfl, h1, h2⟩
    exact ⟨_, rfl, h1, h2.mono (fun i hi _ => by simp [Value.ownBlock]; exact hi.symm), rfl⟩
  · refine (delB_no w v q R x (hO.slc brEnc_len) hL hq hm).mono ?_
    rintro e w' ⟨rfl, hB⟩
    exact ⟨v, rfl, by rw [without_all hm]; exact hO.pure hB, Upd.of_below hB, rfl⟩

set_option maxRecDepth 100000 in
set_option maxHeartbeats 1600000 in
/-- gone of a table. -/
theorem tgone {base : Nat} (w : World) (tb : Nat) (rv av : Value) (R : List Brn) (x : Xid) (hT : Blk w tb [rv, av]) (hO : Own base 44 7 brEnc w rv R) (hr : RisesB R) (hL : R.length ≤ 1000000) (hne : rv.ownBlock ≠ some tb) :
    Calls Try.prog 82 #[.pointer (some ⟨tb, 0, none⟩), .agg #[.int .u32 x.1, .string x.2.1, .string x.2.2]] w fun e w' => ∃ r, e = .returned (.tuple #[]) ∧ Blk w' tb [r, av] ∧ Own base 44 7 brEnc w' r (withoutB R x) ∧ r.ownBlock = rv.ownBlock ∧ Upd (fun k => k = tb ∨ rv.ownBlock = some k) w w' := by
  obtain ⟨xf, xg, xb⟩ := x
  simp only
  have hB0 := (Below.refl w.heap.size w).alloc (Nat.le_refl _) (.cells #[.int .u32 xf, .string xg, .string xb] 28)
  have b0 := Blk.new w [.int .u32 xf, .string xg, .string xb] 28
  have t0 := hT.alloc (.cells #[.int .u32 xf, .string xg, .string xb] 28)
  have htl := hT.lt
  have hmf : ∀ (fn : Fn) (first cap : Array Value) (w : World), (Instr.makeFunc fn first cap).run Try.prog w = .ok (.func fn first cap) w := fun _ _ _ _ => rfl
  have hd := Lib.hid (delB_any (w.alloc (.cells #[.int .u32 xf, .string xg, .string xb] 28)) rv w.heap.size R (xf, xg, xb) (hO.alloc _) hr hL b0 (fun e => by have := hO.lt e; omega))
  obtain ⟨a, c, rfl⟩ := own_len hO
  clear hr hT hO
  have c0 := t0.at 0 rfl
  go_enter Try.func82, Try.ntmps82
  go_wp2_with (go_at_call 117; refine hd.out.mono ?_; rintro e w1 ⟨r, rfl, hO1, hU1, hrb⟩; have t1 := t0.upd hU1 hne; obtain ⟨ra, rc, rfl⟩ := own_len hO1; have z1 := t1.frozen 0; have e0 := t1.at 0 rfl; have hrb' := Lib.hid hrb; clear hrb)
  go_end0
  refine ⟨_, rfl, t1.set 0 _, hO1.other _ _ (fun k hk e => hne (by rw [← hrb'.out, hk]; exact congrArg some e)), hrb'.out, ?_⟩
  refine ((Upd.of_below hB0).trans (hU1.mono (fun i hi _ => Or.inr hi)) (fun _ h _ => h)).trans (Upd.set (S := fun k => k = tb ∨ _) (Or.inl rfl) _) (fun _ h _ => h)
end Go.Proofs.Ytcelpincmpjhkaa
