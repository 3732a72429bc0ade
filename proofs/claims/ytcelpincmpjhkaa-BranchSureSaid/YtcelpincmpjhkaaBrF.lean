/- Package branch: gone: slices.IndexFunc, slices.DeleteFunc at the rows of a table. Conditions: the rows rise; at most a million. -/
import Derived.Test.YtcelpincmpjhkaaBrE
import Derived.Test.YtcelpincmpjhkaaOwnDel
namespace Go.Proofs.Ytcelpincmpjhkaa
open Go.RowKit
set_option linter.unusedVariables false

abbrev goneV (q : Nat) : Value := .func (.func 118) #[] #[.pointer (some ⟨q, 0, none⟩)]
abbrev xidC (x : Xid) : List Value := [.int .u32 x.1, .string x.2.1, .string x.2.2]

theorem gone1_any (w : World) (b : Brn) (q : Nat) (x : Xid) (hq : Blk w q (xidC x)) (v : Bool) (hv : decide (b.x = x) = v) :
    Calls Try.prog 118 #[.agg #[.int .u32 b.x.1, .string b.x.2.1, .string b.x.2.2, .int .u8 b.st, .int .u8 b.why, .int .u32 b.tm, .int .u32 b.lf], .pointer (some ⟨q, 0, none⟩)] w fun e w' => e = .returned (.bool v) ∧ Below w.heap.size w w' := by
  obtain ⟨⟨xf, xg, xb⟩, st, why, tm, lf⟩ := b
  obtain ⟨yf, yg, yb⟩ := x
  simp only at *
  have hB0 := (Below.refl w.heap.size w).alloc (Nat.le_refl _) (.cells #[.int .u32 xf, .string xg, .string xb, .int .u8 st, .int .u8 why, .int .u32 tm, .int .u32 lf] 44)
  have b0 := Blk.new w [.int .u32 xf, .string xg, .string xb, .int .u8 st, .int .u8 why, .int .u32 tm, .int .u32 lf] 44
  have q0 := hq.alloc (.cells #[.int .u32 xf, .string xg, .string xb, .int .u8 st, .int .u8 why, .int .u32 tm, .int .u32 lf] 44)
  have c0 := b0.at 0 rfl; have c1 := b0.at 1 rfl; have c2 := b0.at 2 rfl
  have c3 := q0.at 0 rfl; have c4 := q0.at 1 rfl; have c5 := q0.at 2 rfl
  have hd := neX_decide (xf, xg, xb) (yf, yg, yb)
  have hE : (xf == yf && (xg == yg && xb == yb)) = v := by
    have h2 : ((xf, xg, xb) != (yf, yg, yb)) = !(xf == yf && (xg == yg && xb == yb)) := rfl
    rw [h2, decide_not, hv] at hd
    exact Bool.not_inj hd
  have qE := fun (u : World) => xid_eql u xf yf xg xb yg yb
  simp only [hE] at qE
  clear hd hE hv hq
  go_enter Try.func118, Try.ntmps118
  go_wp2
  go_ret
  exact ⟨rfl, hB0⟩

theorem idx_find {R : List Brn} {x : Xid} (hn : ¬ MemB R x) : ∀ j, (h : j < R.length) → R[j].x ≠ x := fun j h e => hn ⟨j, h, e⟩

set_option maxRecDepth 100000 in
set_option maxHeartbeats 1600000 in
theorem findx_yes (w : World) (v : Value) (R : List Brn) (q : Nat) (x : Xid) (k : Nat) (hs : Slc brEnc 7 w v R) (hL : R.length ≤ 1000000) (hq : Blk w q (xidC x)) (hk : k < R.length) (he : R[k].x = x) (hb : ∀ j, (h : j < k) → (R[j]'(by omega)).x ≠ x) :
    Calls Try.prog 131 #[v, goneV q] w fun e w' => e = .returned (.int .i64 k) ∧ Below w.heap.size w w' := by
  obtain ⟨a, cap, rfl, hm⟩ := hs.len
  unfold maxLen at hm
  have hb' := Lib.hid hb
  have he' := Lib.hid he
  clear hb he
  go_enter Try.func131, Try.ntmps131
  go_wp2
  go_loopw [8] (fun s8 wr => ∃ j : Nat, j ≤ k ∧ s8 = .int .i64 j ∧ Below w.heap.size w wr) (fun s8 _ => R.length - (intOf s8).toNat)
  case atStart => exact ⟨0, by omega, rfl, Below.refl _ _⟩
  case round =>
    obtain ⟨j, hj, rfl, hB⟩ := hrel
    have hBs := hB.size
    have hsr := hs.pure hB
    have hjl : j < R.length := by omega
    obtain ⟨g, off, rfl⟩ := hsr.addr hjl
    obtain ⟨c0, c1, c2, c3, c4, c5, c6⟩ := br_cells hsr hjl
    have hqr := hq.pure hB
    by_cases hjk : j = k
    · subst hjk
      have hg := Lib.hid (gone1_any wr R[j] q x hqr true (decide_eq_true he'.out))
      go_wp2_with (go_at_call 118; refine hg.out.mono ?_; rintro e w1 ⟨rfl, hB1⟩)
      go_ret
      exact ⟨rfl, hB.trans (hB1.mono hBs)⟩
    · have hg := Lib.hid (gone1_any wr R[j] q x hqr false (decide_eq_false (hb'.out j (by omega))))
      go_wp2_with (go_at_call 118; refine hg.out.mono ?_; rintro e w1 ⟨rfl, hB1⟩)
      go_roundw
      case rel => exact ⟨j + 1, by omega, by go_num, hB.trans (hB1.mono hBs)⟩
      case measure => simp [intOf]; omega

set_option maxRecDepth 100000 in
set_option maxHeartbeats 1600000 in
theorem findx_no (w : World) (v : Value) (R : List Brn) (q : Nat) (x : Xid) (hs : Slc brEnc 7 w v R) (hL : R.length ≤ 1000000) (hq : Blk w q (xidC x)) (hn : ¬ MemB R x) :
    Calls Try.prog 131 #[v, goneV q] w fun e w' => e = .returned (.int .i64 (-1)) ∧ Below w.heap.size w w' := by
  obtain ⟨a, cap, rfl, hm⟩ := hs.len
  unfold maxLen at hm
  have hb' := Lib.hid (idx_find hn)
  clear hn
  go_enter Try.func131, Try.ntmps131
  go_wp2
  go_loopw [8] (fun s8 wr => ∃ j : Nat, j ≤ R.length ∧ s8 = .int .i64 j ∧ Below w.heap.size w wr) (fun s8 _ => R.length - (intOf s8).toNat)
  case atStart => exact ⟨0, by omega, rfl, Below.refl _ _⟩
  case round =>
    obtain ⟨j, hj, rfl, hB⟩ := hrel
    have hBs := hB.size
    have hsr := hs.pure hB
    by_cases hjl : j < R.length
    · obtain ⟨g, off, rfl⟩ := hsr.addr hjl
      obtain ⟨c0, c1, c2, c3, c4, c5, c6⟩ := br_cells hsr hjl
      have hqr := hq.pure hB
      have hg := Lib.hid (gone1_any wr R[j] q x hqr false (decide_eq_false (hb'.out j hjl)))
      go_wp2_with (go_at_call 118; refine hg.out.mono ?_; rintro e w1 ⟨rfl, hB1⟩)
      go_roundw
      case rel => exact ⟨j + 1, by omega, by go_num, hB.trans (hB1.mono hBs)⟩
      case measure => simp [intOf]; omega
    · obtain rfl : j = R.length := by omega
      go_wp2
      go_ret
      exact ⟨rfl, hB⟩
end Go.Proofs.Ytcelpincmpjhkaa
