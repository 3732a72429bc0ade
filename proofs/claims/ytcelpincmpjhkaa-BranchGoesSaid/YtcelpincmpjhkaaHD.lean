/- Chapter 19, the document's side: Copy. Conditions: rows and associations read; at most a million of each. Written by gen_brDd.py. (Texts joined; the heads of the others stand below.) -/
import Derived.Test.YtcelpincmpjhkaaBrV
import Derived.Test.YtcelpincmpjhkaaHJ
import Derived.Test.YtcelpincmpjhkaaGJ
import Derived.Test.YtcelpincmpjhkaaGA
import Derived.Deep.Cut

/- Chapter 19, the document's side: At, no, answer. Conditions: rows and associations read. Written by gen_brDa.py. -/
namespace Go.Proofs.Ytcelpincmpjhkaa
set_option linter.unusedSimpArgs false
set_option linter.unusedVariables false
open Go.RowKit

def AtP (R : List Brn) (x : Xid) (v : Int) : Prop := (v = -1 ∧ ¬ MemB R x) ∨ ∃ k, ∃ h : k < R.length, v = (k : Int) ∧ R[k].x = x
theorem eq_of_beqX {a b : Xid} (h : (a == b) = true) : a = b := by
  have := neX_decide a b
  by_cases h2 : a = b
  · exact h2
  · exfalso; rw [decide_eq_true h2] at this
    have h3 : (!(a == b)) = true := this
    rw [h] at h3; simp at h3
theorem ne_of_beqX {a b : Xid} (h : (a == b) = false) : a ≠ b := by
  intro e
  have := neX_decide a b
  rw [decide_eq_false (fun h => h e)] at this
  have h3 : (!(a == b)) = false := this
  rw [h] at h3; simp at h3

set_option maxRecDepth 100000 in
set_option maxHeartbeats 3200000 in
theorem dat_any (w : World) (rv av : Value) (R : List Brn) (A : List Asc) (x : Xid) (hR : Slc brEnc 7 w rv R) (hA : Slc ascEnc 5 w av A) :
    Calls Try.prog 19 #[.agg #[rv, av], .agg #[.int .u32 x.1, .string x.2.1, .string x.2.2]] w fun e w' => ∃ v, e = .returned (.int .i64 v) ∧ AtP R x v ∧ Below w.heap.size w w' := by
  obtain ⟨ra, rc, rfl, hm1⟩ := hR.len
  obtain ⟨aa, ac, rfl, -⟩ := hA.len
  unfold maxLen at hm1
  obtain ⟨xf, xg, xb⟩ := x
  have hT0 : Below w.heap.size w ((w.alloc (.cells #[.slice ra R.length rc, .slice aa A.length ac] 25)).alloc (.cells #[.int .u32 xf, .string xg, .string xb] 28)) := ((Below.refl _ _).alloc (Nat.le_refl _) _).alloc (by simp) _
  have tt0 : Blk ((w.alloc (.cells #[.slice ra R.length rc, .slice aa A.length ac] 25)).alloc (.cells #[.int .u32 xf, .string xg, .string xb] 28)) w.heap.size [.slice ra R.length rc, .slice aa A.length ac] := (Blk.new w [.slice ra R.length rc, .slice aa A.length ac] 25).alloc (.cells #[.int .u32 xf, .string xg, .string xb] 28)
  have xx0 : Blk ((w.alloc (.cells #[.slice ra R.length rc, .slice aa A.length ac] 25)).alloc (.cells #[.int .u32 xf, .string xg, .string xb] 28)) (w.heap.size + 1) [.int .u32 xf, .string xg, .string xb] := Blk.newAt2 (w.alloc (.cells #[.slice ra R.length rc, .slice aa A.length ac] 25)) [.int .u32 xf, .string xg, .string xb] 28 (w.heap.size + 1) (by simp)
  have hR0 := hR.pure hT0
  have qE := xid_eql
  obtain ⟨W0, hW0⟩ : ∃ W0, W0 = ((w.alloc (.cells #[.slice ra R.length rc, .slice aa A.length ac] 25)).alloc (.cells #[.int .u32 xf, .string xg, .string xb] 28)) := ⟨_, rfl⟩
  rw [← hW0] at hT0 tt0 xx0 hR0
  simp only
  go_enter Try.func19, Try.ntmps19
  go_wp2
  rw [← hW0]
  clear hW0
  go_loopw [5] (fun s5 wr => ∃ k : Nat, k ≤ R.length ∧ s5 = .int .i64 k ∧ (∀ j, (h : j < R.length) → j < k → R[j].x ≠ (xf, xg, xb)) ∧ Below W0.heap.size W0 wr) (fun s5 _ => R.length - (intOf s5).toNat)
  case atStart => exact ⟨0, by omega, rfl, fun j h h2 => absurd h2 (by omega), Below.refl _ _⟩
  case round =>
    obtain ⟨k, hk, rfl, hN, hB⟩ := hrel
    have hN' := Lib.hid hN; clear hN
    have hTr := hT0.trans (hB.mono hT0.size)
    have tt := tt0.pure hB
    have xx := xx0.pure hB
    have hsr := hR0.pure hB
    have ct0 := tt.at 0 rfl; have ct1 := tt.at 1 rfl; have cx0 := xx.at 0 rfl; have cx1 := xx.at 1 rfl; have cx2 := xx.at 2 rfl
    by_cases hlt : k < R.length
    · obtain ⟨g, off, rfl⟩ := hsr.addr hlt
      obtain ⟨c0, c1, c2, c3, c4, c5, c6⟩ := br_cells hsr hlt
      have hk0 : (0 : Int) ≤ (k : Int) := by omega
      have hk1 : (k : Int) < (R.length : Int) := by omega
      obtain ⟨y, hy⟩ : ∃ y, y = R[k].x := ⟨_, rfl⟩
      rw [← hy] at c0 c1 c2
      have hy' := Lib.hid hy; clear hy
      obtain ⟨yf, yg, yb⟩ := y
      obtain ⟨eq, heq⟩ : ∃ eq, ((yf, yg, yb) == ((xf, xg, xb) : Xid)) = eq := ⟨_, rfl⟩
      have heq2 : (yf == xf && (yg == xg && yb == xb)) = eq := heq
      have heq' := Lib.hid heq; clear heq
      cases eq
      · have hnext : Hid (∀ j, (h : j < R.length) → j < k + 1 → R[j].x ≠ (xf, xg, xb)) := Lib.hid (fun j h h2 => by
          rcases Nat.lt_or_eq_of_le (Nat.le_of_lt_succ h2) with q | q
          · exact hN'.out j h q
          · subst q; rw [← hy'.out]; exact ne_of_beqX heq'.out)
        go_wp2
        go_quiet (fail)
        go_wp2
        go_roundw
        case rel => exact ⟨k + 1, by omega, by go_num, hnext.out, below_drewN hB _⟩
        case measure => simp [intOf]; omega
      · go_wp2
        go_quiet (fail)
        go_wp2
        go_ret
        exact ⟨_, rfl, .inr ⟨k, hlt, rfl, by rw [← hy'.out]; exact eq_of_beqX heq'.out⟩, below_drewN hTr _⟩
    · obtain rfl : k = R.length := by omega
      go_wp2
      go_ret
      exact ⟨_, rfl, .inl ⟨rfl, fun ⟨j, hj, e⟩ => hN'.out j hj hj e⟩, hTr⟩
theorem dat_no (w : World) (rv av : Value) (R : List Brn) (A : List Asc) (x : Xid) (hR : Slc brEnc 7 w rv R) (hA : Slc ascEnc 5 w av A) (hn : ¬ MemB R x) :
    Calls Try.prog 19 #[.agg #[rv, av], .agg #[.int .u32 x.1, .string x.2.1, .string x.2.2]] w fun e w' => e = .returned (.int .i64 (-1)) ∧ Below w.heap.size w w' := by
  refine (dat_any w rv av R A x hR hA).mono ?_
  rintro e w' ⟨v, rfl, h, hB⟩
  rcases h with ⟨rfl, -⟩ | ⟨k, hk, -, e⟩
  · exact ⟨rfl, hB⟩
  · exact absurd ⟨k, hk, e⟩ hn
theorem dat_yes (w : World) (rv av : Value) (R : List Brn) (A : List Asc) (x : Xid) (k : Nat) (hR : Slc brEnc 7 w rv R) (hA : Slc ascEnc 5 w av A) (hr : RisesB R) (hk : k < R.length) (hx : R[k].x = x) :
    Calls Try.prog 19 #[.agg #[rv, av], .agg #[.int .u32 x.1, .string x.2.1, .string x.2.2]] w fun e w' => e = .returned (.int .i64 k) ∧ Below w.heap.size w w' := by
  refine (dat_any w rv av R A x hR hA).mono ?_
  rintro e w' ⟨v, rfl, h, hB⟩
  rcases h with ⟨-, hn⟩ | ⟨j, hj, rfl, e⟩
  · exact absurd ⟨k, hk, hx⟩ hn
  · rw [sameB_idx hr hj hk (e.trans hx.symm)]; exact ⟨rfl, hB⟩

set_option maxRecDepth 100000 in
theorem dno_any (w : World) (c : Int) : Calls Try.prog 57 #[.int .i64 c] w fun e w' => e = .returned (.tuple #[.agg #[.slice none 0 0, .slice none 0 0], .int .u8 0, .int .i64 c]) ∧ Below w.heap.size w w' := by
  have hT0 := (Below.refl w.heap.size w).alloc (Nat.le_refl _) (.cells #[.slice none 0 0, .slice none 0 0] 25)
  have t0 := Blk.new w [.slice none 0 0, .slice none 0 0] 25
  have c0 := t0.at 0 rfl; have c1 := t0.at 1 rfl; have f0 := t0.frozen 0; have f1 := t0.frozen 1
  go_enter Try.func57, Try.ntmps57
  go_wp2
  refine bodyPost_ret (by simp [results, Try.results57, go_sem, c0, c1]; rfl) rfl ?_
  exact ⟨rfl, hT0⟩
set_option maxRecDepth 100000 in
theorem danswer_any (w : World) (b : Brn) :
    Calls Try.prog 86 #[.agg #[.int .u32 b.x.1, .string b.x.2.1, .string b.x.2.2, .int .u8 b.st, .int .u8 b.why, .int .u32 b.tm, .int .u32 b.lf]] w fun e w' => e = .returned (.int .u8 (answerD b.st)) ∧ Below w.heap.size w w' := by
  have hB0 := (Below.refl w.heap.size w).alloc (Nat.le_refl _) (.cells (brEnc b).toArray 44)
  unfold answerD
  by_cases h3 : b.st = 3
  · have h3b : (b.st == 3) = true := by rw [h3]; rfl
    rw [if_pos h3]
    clear h3
    go_enter Try.func86, Try.ntmps86
    go_wp2
    go_ret
    exact ⟨rfl, hB0⟩
  · have h3b : (b.st == 3) = false := beq_eq_false_iff_ne.2 h3
    rw [if_neg h3]
    by_cases h4 : b.st = 4
    · have h4b : (b.st == 4) = true := by rw [h4]; rfl
      rw [if_pos h4]
      clear h3 h4
      go_enter Try.func86, Try.ntmps86
      go_wp2
      go_ret
      exact ⟨rfl, hB0⟩
    · have h4b : (b.st == 4) = false := beq_eq_false_iff_ne.2 h4
      rw [if_neg h4]
      clear h3 h4
      go_enter Try.func86, Try.ntmps86
      go_wp2
      go_ret
      exact ⟨rfl, hB0⟩
end Go.Proofs.Ytcelpincmpjhkaa

/- Chapter 19, the document's side: Same at equal tables, without. Conditions: rows and associations read; at most a million. Written by gen_brDb.py. -/
namespace Go.Proofs.Ytcelpincmpjhkaa
set_option linter.unusedSimpArgs false
set_option linter.unusedVariables false
open Go.RowKit

set_option maxRecDepth 100000 in
set_option maxHeartbeats 800000 in
theorem br_neq_self (w : World) (a : Int) (b c : ByteArray) (d e f g : Int) : (binOp .neq 44 (.agg #[.int .u32 a, .string b, .string c, .int .u8 d, .int .u8 e, .int .u32 f, .int .u32 g]) (.agg #[.int .u32 a, .string b, .string c, .int .u8 d, .int .u8 e, .int .u32 f, .int .u32 g])).run Try.prog w = .ok (.bool false) w := by
  have hf : Try.prog.fieldsOf 44 = (match Try.prog.underlying 44 with | some (.struct fs) => fs | _ => #[]) := rfl
  rw [Try.underlying44] at hf
  simp only at hf
  have hf2 : Try.prog.fieldsOf 28 = (match Try.prog.underlying 28 with | some (.struct fs) => fs | _ => #[]) := rfl
  rw [Try.underlying28] at hf2
  simp only at hf2
  rw [run_neq_struct, show (10000 : Nat) = 9999 + 1 from rfl, run_equalIn_agg w 9999 _ _ _ (by rw [hf]; exact Try.underlying44) (by kernel_rfl), hf]
  simp [go_sem, bytes_beq, bytes_self, hf2]

set_option maxRecDepth 100000 in
set_option maxHeartbeats 3200000 in
theorem dsame_eq (w : World) (rv av sv tv : Value) (R : List Brn) (A : List Asc) (hR : Slc brEnc 7 w rv R) (hA : Slc ascEnc 5 w av A) (hS : Slc brEnc 7 w sv R) (hD : Slc ascEnc 5 w tv A) (hLR : R.length ≤ 1000000) (hLA : A.length ≤ 1000000) :
    Calls Try.prog 15 #[.agg #[rv, av], .agg #[sv, tv]] w fun e w' => e = .returned (.bool true) ∧ Below w.heap.size w w' := by
  obtain ⟨ra, rc, rfl, hm1⟩ := hR.len
  obtain ⟨aa, ac, rfl, -⟩ := hA.len
  obtain ⟨sa, sc, rfl, -⟩ := hS.len
  obtain ⟨ta, tc, rfl, -⟩ := hD.len
  unfold maxLen at hm1
  have hT0 : Below w.heap.size w ((w.alloc (.cells #[.slice ra R.length rc, .slice aa A.length ac] 25)).alloc (.cells #[.slice sa R.length sc, .slice ta A.length tc] 25)) := ((Below.refl _ _).alloc (Nat.le_refl _) _).alloc (by simp) _
  have tt0 : Blk ((w.alloc (.cells #[.slice ra R.length rc, .slice aa A.length ac] 25)).alloc (.cells #[.slice sa R.length sc, .slice ta A.length tc] 25)) w.heap.size [.slice ra R.length rc, .slice aa A.length ac] := (Blk.new w [.slice ra R.length rc, .slice aa A.length ac] 25).alloc (.cells #[.slice sa R.length sc, .slice ta A.length tc] 25)
  have xx0 : Blk ((w.alloc (.cells #[.slice ra R.length rc, .slice aa A.length ac] 25)).alloc (.cells #[.slice sa R.length sc, .slice ta A.length tc] 25)) (w.heap.size + 1) [.slice sa R.length sc, .slice ta A.length tc] := Blk.newAt2 (w.alloc (.cells #[.slice ra R.length rc, .slice aa A.length ac] 25)) [.slice sa R.length sc, .slice ta A.length tc] 25 (w.heap.size + 1) (by simp)
  have hsame := Lib.hid (fun (u : World) (h : Below w.heap.size w u) => same_eq u _ _ A (hA.pure h) (hD.pure h) hLA)
  have c0 := tt0.at 0 rfl; have c1 := tt0.at 1 rfl; have c2 := xx0.at 0 rfl; have c3 := xx0.at 1 rfl
  go_enter Try.func15, Try.ntmps15
  go_wp2_with (first | (go_at_call 63; refine (hsame.out _ hT0).mono ?_; rintro e w1 ⟨rfl, hB1⟩; have hT1 := hT0.trans (hB1.mono hT0.size); have tt1 := tt0.pure hB1; have xx1 := xx0.pure hB1))
  clear c0 c1 c2 c3
  go_loopw [5] (fun s5 wr => ∃ k : Nat, k ≤ R.length ∧ s5 = .int .i64 k ∧ Below w1.heap.size w1 wr) (fun s5 _ => R.length - (intOf s5).toNat)
  case atStart => exact ⟨0, by omega, rfl, Below.refl _ _⟩
  case round =>
    obtain ⟨k, hk, rfl, hB⟩ := hrel
    have hTr := hT1.trans (hB.mono hT1.size)
    have tt := tt1.pure hB
    have xx := xx1.pure hB
    have c0 := tt.at 0 rfl; have c1 := tt.at 1 rfl; have c2 := xx.at 0 rfl; have c3 := xx.at 1 rfl
    by_cases hlt : k < R.length
    · have hur := hR.pure hTr
      have hvr := hS.pure hTr
      obtain ⟨g, off, rfl⟩ := hur.addr hlt
      obtain ⟨h, oft, rfl⟩ := hvr.addr hlt
      obtain ⟨d0, d1, d2, d3, d4, d5, d6⟩ := br_cells hur hlt
      obtain ⟨e0, e1, e2, e3, e4, e5, e6⟩ := br_cells hvr hlt
      have hqn := fun (x : World) => br_neq_self x R[k].x.1 R[k].x.2.1 R[k].x.2.2 R[k].st R[k].why R[k].tm R[k].lf
      have hk0 : (0 : Int) ≤ (k : Int) := by omega
      have hk1 : (k : Int) < (R.length : Int) := by omega
      go_wp2
      go_quiet (fail)
      go_wp2
      go_roundw
      case rel => exact ⟨k + 1, by omega, by go_num, below_drewN hB _⟩
      case measure => simp [intOf]; omega
    · obtain rfl : k = R.length := by omega
      go_wp2
      go_ret
      exact ⟨rfl, hTr⟩

theorem withoutB_snoc {R : List Brn} {x : Xid} {k : Nat} (h : k < R.length) : withoutB (R.take (k + 1)) x = withoutB (R.take k) x ++ (if (R[k].x != x) = true then [R[k]] else []) := by
  unfold withoutB
  rw [takeB_snoc R h, List.filter_append]
  congr 1
  cases hc : (R[k].x != x) <;> simp [List.filter, hc]
set_option maxRecDepth 100000 in
set_option maxHeartbeats 3200000 in
theorem dwithout_any (w : World) (rv av : Value) (R : List Brn) (A : List Asc) (x : Xid) (hR : Slc brEnc 7 w rv R) (hA : Slc ascEnc 5 w av A) (hLR : R.length ≤ 1000000) :
    Calls Try.prog 85 #[.agg #[rv, av], .agg #[.int .u32 x.1, .string x.2.1, .string x.2.2]] w fun e w' => ∃ r, e = .returned (.agg #[r, av]) ∧ Own w.heap.size 44 7 brEnc w' r (withoutB R x) ∧ Below w.heap.size w w' := by
  obtain ⟨ra, rc, rfl, hm1⟩ := hR.len
  obtain ⟨aa, ac, rfl, -⟩ := hA.len
  unfold maxLen at hm1
  obtain ⟨xf, xg, xb⟩ := x
  have hT0 : Below w.heap.size w (((w.alloc (.cells #[.slice ra R.length rc, .slice aa A.length ac] 25)).alloc (.cells #[.int .u32 xf, .string xg, .string xb] 28)).alloc (.cells #[.slice none 0 0, .slice none 0 0] 25)) := (((Below.refl _ _).alloc (Nat.le_refl _) _).alloc (by simp) _).alloc (by simp; omega) _
  have tt0 : Blk (((w.alloc (.cells #[.slice ra R.length rc, .slice aa A.length ac] 25)).alloc (.cells #[.int .u32 xf, .string xg, .string xb] 28)).alloc (.cells #[.slice none 0 0, .slice none 0 0] 25)) w.heap.size [.slice ra R.length rc, .slice aa A.length ac] := ((Blk.new w [.slice ra R.length rc, .slice aa A.length ac] 25).alloc (.cells #[.int .u32 xf, .string xg, .string xb] 28)).alloc (.cells #[.slice none 0 0, .slice none 0 0] 25)
  have xx0 : Blk (((w.alloc (.cells #[.slice ra R.length rc, .slice aa A.length ac] 25)).alloc (.cells #[.int .u32 xf, .string xg, .string xb] 28)).alloc (.cells #[.slice none 0 0, .slice none 0 0] 25)) (w.heap.size + 1) [.int .u32 xf, .string xg, .string xb] := (Blk.newAt2 (w.alloc (.cells #[.slice ra R.length rc, .slice aa A.length ac] 25)) [.int .u32 xf, .string xg, .string xb] 28 (w.heap.size + 1) (by simp)).alloc (.cells #[.slice none 0 0, .slice none 0 0] 25)
  have rr0 : Blk (((w.alloc (.cells #[.slice ra R.length rc, .slice aa A.length ac] 25)).alloc (.cells #[.int .u32 xf, .string xg, .string xb] 28)).alloc (.cells #[.slice none 0 0, .slice none 0 0] 25)) (w.heap.size + 1 + 1) [.slice none 0 0, .slice none 0 0] := Blk.newAt2 ((w.alloc (.cells #[.slice ra R.length rc, .slice aa A.length ac] 25)).alloc (.cells #[.int .u32 xf, .string xg, .string xb] 28)) [.slice none 0 0, .slice none 0 0] 25 (w.heap.size + 1 + 1) (by simp)
  have hz0 : w.heap.size + 3 ≤ (((w.alloc (.cells #[.slice ra R.length rc, .slice aa A.length ac] 25)).alloc (.cells #[.int .u32 xf, .string xg, .string xb] 28)).alloc (.cells #[.slice none 0 0, .slice none 0 0] 25)).heap.size := by simp
  have hR0 := hR.pure hT0
  have qE := xid_neq
  obtain ⟨W0, hW0⟩ : ∃ W0, W0 = (((w.alloc (.cells #[.slice ra R.length rc, .slice aa A.length ac] 25)).alloc (.cells #[.int .u32 xf, .string xg, .string xb] 28)).alloc (.cells #[.slice none 0 0, .slice none 0 0] 25)) := ⟨_, rfl⟩
  rw [← hW0] at hT0 tt0 xx0 rr0 hR0 hz0
  simp only
  go_enter Try.func85, Try.ntmps85
  go_wp2
  rw [← hW0]
  clear hW0
  go_loopw [5, 6] (fun s5 s6 wr => ∃ k : Nat, k ≤ R.length ∧ s6 = .int .i64 k ∧ Own W0.heap.size 44 7 brEnc wr s5 (withoutB (R.take k) (xf, xg, xb)) ∧ Below W0.heap.size W0 wr) (fun _ s6 _ => R.length - (intOf s6).toNat)
  case atStart => exact ⟨0, by omega, rfl, Own.nil, Below.refl _ _⟩
  case round =>
    obtain ⟨k, hk, rfl, hO, hB⟩ := hrel
    have hTr := hT0.trans (hB.mono hT0.size)
    have tt := tt0.pure hB
    have xx := xx0.pure hB
    have rr := rr0.pure hB
    have hsr := hR0.pure hB
    have hBs := hB.size
    have ct0 := tt.at 0 rfl; have ct1 := tt.at 1 rfl; have cx0 := xx.at 0 rfl; have cx1 := xx.at 1 rfl; have cx2 := xx.at 2 rfl
    by_cases hlt : k < R.length
    · obtain ⟨g, off, rfl⟩ := hsr.addr hlt
      obtain ⟨c0, c1, c2, c3, c4, c5, c6⟩ := br_cells hsr hlt
      have hk0 : (0 : Int) ≤ (k : Int) := by omega
      have hk1 : (k : Int) < (R.length : Int) := by omega
      have hkeq := Lib.hid (withoutB_snoc (x := (xf, xg, xb)) hlt)
      have hll : (withoutB (R.take k) (xf, xg, xb)).length ≤ k := Nat.le_trans (List.length_filter_le _ _) (by rw [List.length_take]; omega)
      obtain ⟨y, hy⟩ : ∃ y, y = R[k] := ⟨_, rfl⟩
      rw [← hy] at c0 c1 c2 c3 c4 c5 c6 hkeq
      clear hy
      obtain ⟨⟨yf, yg, yb⟩, st, why, tm, lf⟩ := y
      simp only at c0 c1 c2 c3 c4 c5 c6 hkeq
      obtain ⟨eq, heq⟩ : ∃ eq, ((yf, yg, yb) == ((xf, xg, xb) : Xid)) = eq := ⟨_, rfl⟩
      have heq2 : (yf == xf && (yg == xg && yb == xb)) = eq := heq
      have hne : Hid (((yf, yg, yb) != ((xf, xg, xb) : Xid)) = !eq) := Lib.hid (by unfold bne; rw [heq])
      clear heq
      cases eq
      · have hneb := hne.out
        simp only [Bool.not_false, Bool.not_true] at hneb
        have hnew := Lib.hid (show withoutB (R.take (k + 1)) (xf, xg, xb) = withoutB (R.take k) (xf, xg, xb) ++ [⟨(yf, yg, yb), st, why, tm, lf⟩] by rw [hkeq.out, hne.out]; simp)
        go_wp2
        go_quiet (fail)
        go_wp2_with (first | (at_builtin; refine wpList_app1 rfl (.tmp 22) (.tmp 28) 22 44 rfl elem_br brEnc_len brEnc_one u5 _ rfl ((hO.pure (below_drewN (Below.refl _ _) _)).alloc _) wr.heap.size 1 ⟨(yf, yg, yb), st, why, tm, lf⟩ rfl (fun j u hu => ((Blk.newAt2 _ (brEnc ⟨(yf, yg, yb), st, why, tm, lf⟩) 44 wr.heap.size rfl).cell j).trans hu) (by omega) (by unfold maxLen; omega) (by simp; omega) ?_; intro g' cap' w4 hown hgr hfr))
        go_roundw
        case rel => exact ⟨k + 1, by omega, by go_num, by rw [hnew.out]; exact hown, ((below_drewN hB _).alloc hBs _).grown hgr (by simp; omega) (fun j e => hO.ge e)⟩
        case measure => simp [intOf]; omega
      · have hneb := hne.out
        simp only [Bool.not_false, Bool.not_true] at hneb
        have hnew := Lib.hid (show withoutB (R.take (k + 1)) (xf, xg, xb) = withoutB (R.take k) (xf, xg, xb) by rw [hkeq.out, hne.out]; simp)
        go_wp2
        go_quiet (fail)
        go_wp2
        go_roundw
        case rel => exact ⟨k + 1, by omega, by go_num, by rw [hnew.out]; exact hO.pure (below_drewN (Below.refl _ _) _), below_drewN hB _⟩
        case measure => simp [intOf]; omega
    · obtain rfl : k = R.length := by omega
      rw [List.take_length] at hO
      obtain ⟨va, vc, rfl⟩ := own_len hO
      have hO' := Lib.hid hO; clear hO
      have tt1 := tt.set 0 (.slice va (withoutB R (xf, xg, xb)).length vc)
      have d0 := tt1.at 0 rfl; have d1 := tt1.at 1 rfl
      have z0 := tt.frozen 0; have z1 := rr.frozen 0; have z2 := rr.frozen 1
      have q0 := rr.at 0 rfl; have q1 := rr.at 1 rfl
      have rr2 := ((rr.other ⟨w.heap.size, 0, none⟩ (.slice va (withoutB R (xf, xg, xb)).length vc) (by simp only; omega)).set 0 (.slice va (withoutB R (xf, xg, xb)).length vc)).set 1 (.slice aa A.length ac)
      have k0 := rr2.at 0 rfl; have k1 := rr2.at 1 rfl
      go_wp2
      refine bodyPost_ret (by simp [results, Try.results85, go_sem, k0, k1]; rfl) rfl ?_
      have hge := fun j e => hO'.out.ge (k := j) e
      refine ⟨_, rfl, (((hO'.out.other _ _ (fun j hj e => by have := hge j hj; rw [e] at this; simp at this; omega)).other _ _ (fun j hj e => by have := hge j hj; rw [e] at this; simp at this; omega)).other _ _ (fun j hj e => by have := hge j hj; rw [e] at this; simp at this; omega)).rebase (fun j hj => by have := hge j hj; omega), ?_⟩
      exact ((Upd.of_below hTr).trans (((Upd.set (S := fun k => w.heap.size ≤ k) (p := ⟨w.heap.size, 0, none⟩) (Nat.le_refl _) _).trans (Upd.set (S := fun k => w.heap.size ≤ k) (p := ⟨w.heap.size + 1 + 1, 0, none⟩) (by simp only; omega) _) (fun _ h _ => h)).trans (Upd.set (S := fun k => w.heap.size ≤ k) (p := ⟨w.heap.size + 1 + 1, 1, none⟩) (by simp only; omega) _) (fun _ h _ => h)) (fun _ h _ => h)).below (Nat.le_refl _) (fun k h => h)
end Go.Proofs.Ytcelpincmpjhkaa

/- Chapter 19, the document's side: Copy. Conditions: rows and associations read; at most a million of each. Written by gen_brDd.py. -/
namespace Go.Proofs.Ytcelpincmpjhkaa
set_option linter.unusedSimpArgs false
set_option linter.unusedVariables false
open Go.RowKit

set_option maxRecDepth 100000 in
set_option maxHeartbeats 3200000 in
theorem dcopy_any (w : World) (rv av : Value) (R : List Brn) (A : List Asc) (hR : Slc brEnc 7 w rv R) (hA : Slc ascEnc 5 w av A) (hLR : R.length ≤ 1000000) (hLA : A.length ≤ 1000000) :
    Calls Try.prog 12 #[.agg #[rv, av]] w fun e w' => ∃ r a, e = .returned (.agg #[r, a]) ∧ Own w.heap.size 44 7 brEnc w' r R ∧ Own w.heap.size 57 5 ascEnc w' a A ∧ Below w.heap.size w w' := by
  obtain ⟨ra, rc, rfl, hm1⟩ := hR.len
  obtain ⟨aa, ac, rfl, hm2⟩ := hA.len
  have hT0' : Below w.heap.size w ((w.alloc (.cells #[.slice ra R.length rc, .slice aa A.length ac] 25)).alloc (.cells #[.slice none 0 0, .slice none 0 0] 25)) := ((Below.refl _ _).alloc (Nat.le_refl _) _).alloc (by simp) _
  have t0' : Blk ((w.alloc (.cells #[.slice ra R.length rc, .slice aa A.length ac] 25)).alloc (.cells #[.slice none 0 0, .slice none 0 0] 25)) w.heap.size [.slice ra R.length rc, .slice aa A.length ac] := (Blk.new w [.slice ra R.length rc, .slice aa A.length ac] 25).alloc (.cells #[.slice none 0 0, .slice none 0 0] 25)
  have r0' : Blk ((w.alloc (.cells #[.slice ra R.length rc, .slice aa A.length ac] 25)).alloc (.cells #[.slice none 0 0, .slice none 0 0] 25)) (w.heap.size + 1) [.slice none 0 0, .slice none 0 0] := Blk.newAt2 (w.alloc (.cells #[.slice ra R.length rc, .slice aa A.length ac] 25)) [.slice none 0 0, .slice none 0 0] 25 (w.heap.size + 1) (by simp)
  obtain ⟨W0, hW0⟩ : ∃ W0, W0 = ((w.alloc (.cells #[.slice ra R.length rc, .slice aa A.length ac] 25)).alloc (.cells #[.slice none 0 0, .slice none 0 0] 25)) := ⟨_, rfl⟩
  have hT0 : Below w.heap.size w W0 := by rw [hW0]; exact hT0'
  have t0 : Blk W0 w.heap.size [.slice ra R.length rc, .slice aa A.length ac] := by rw [hW0]; exact t0'
  have r0 : Blk W0 (w.heap.size + 1) [.slice none 0 0, .slice none 0 0] := by rw [hW0]; exact r0'
  have hz0 : w.heap.size + 2 ≤ W0.heap.size := by rw [hW0]; simp
  clear hT0' t0' r0'
  have hR0 := Lib.hid (hR.pure (below_dr hT0))
  have c0 := t0.at 0 rfl; have c1 := t0.at 1 rfl
  go_enter Try.func12, Try.ntmps12
  go_upto_region 2 with fail
  rw [← hW0]
  clear hW0
  go_region_held3 (fun w' => w'.cell? ⟨w.heap.size, 0, none⟩ = some (.slice ra R.length rc) ∧ w'.cell? ⟨w.heap.size, 1, none⟩ = some (.slice aa A.length ac)) (first | exact ⟨c0, c1⟩ | exact ⟨d0, d1⟩ | exact ⟨f0, f1⟩ | exact ⟨k0, k1⟩) (first | (go_at_call 46; refine (rcopy _ _ A (hA.pure hT1) hLA).mono ?_; rintro e w2 ⟨u, rfl, hO2, hB2⟩; obtain ⟨ua, uc, rfl⟩ := own_len hO2; have t2 := t1.pure hB2; have r2 := r1.pure hB2; have hTf := hT1.trans (hB2.mono hT1.size); have hORf := hO1.pure hB2; have hOAf := hO2.rebase (b' := w.heap.size + 2) (fun j hj => Nat.le_trans hz0 (Nat.le_trans hB1.size (hO2.ge hj))); have f0 := t2.at 0 rfl; have f1 := t2.at 1 rfl; have tk := (t2.other ⟨w.heap.size + 1, 0, none⟩ (.slice va R.length vc) (by simp only; omega)).other ⟨w.heap.size + 1, 1, none⟩ (.slice ua A.length uc) (by simp only; omega); have k0 := tk.at 0 rfl; have k1 := tk.at 1 rfl; have rk := (r2.set 0 (.slice va R.length vc)).set 1 (.slice ua A.length uc); have k2 := rk.at 0 rfl; have k3 := rk.at 1 rfl; have g0 := r2.at 0 rfl; have g1 := r2.at 1 rfl; have z0 := r2.frozen 0; have z1 := r2.frozen 1) | (go_at_call 46; refine (rcopy _ _ A (hA.pure (below_dr hT0)) hLA).mono ?_; rintro e w1 ⟨u, rfl, hO1, hB1⟩; obtain ⟨ua, uc, rfl⟩ := own_len hO1; have t1 := t0.drew.pure hB1; have r1 := r0.drew.pure hB1; have hT1 := (below_dr hT0).trans (hB1.mono hT0.size); have d0 := t1.at 0 rfl; have d1 := t1.at 1 rfl) | (refine step_of_list rfl (wpList_app (base := w.heap.size + 2) rfl (.tmp 4) (.tmp 6) 22 44 rfl elem_br brEnc_len brEnc_one (.slice none 0 0) [] rfl Own.nil _ R rfl hR0.out (by simp; unfold maxLen; omega) (by simp; omega) hz0 ?_); intro v w1 hO1 hgr _ _; refine ⟨rfl, ?_⟩; rw [List.nil_append] at hO1; obtain ⟨va, vc, rfl⟩ := own_len hO1; have hB1 : Below W0.drew.heap.size W0.drew w1 := (Below.refl _ _).grown hgr (Nat.le_refl _) (fun j e => by simp [Value.ownBlock] at e); have t1 := t0.drew.pure hB1; have r1 := r0.drew.pure hB1; have hT1 := (below_dr hT0).trans (hB1.mono hT0.size); have d0 := t1.at 0 rfl; have d1 := t1.at 1 rfl) | (refine step_of_list rfl (wpList_app (base := w.heap.size + 2) rfl (.tmp 4) (.tmp 6) 22 44 rfl elem_br brEnc_len brEnc_one (.slice none 0 0) [] rfl Own.nil _ R rfl (hR.pure hT1) (by simp; unfold maxLen; omega) (by simp; omega) (Nat.le_trans hz0 hB1.size) ?_); intro v w2 hO2 hgr _ _; refine ⟨rfl, ?_⟩; rw [List.nil_append] at hO2; obtain ⟨va, vc, rfl⟩ := own_len hO2; have hB2 : Below w1.heap.size w1 w2 := (Below.refl _ _).grown hgr (Nat.le_refl _) (fun j e => by simp [Value.ownBlock] at e); have t2 := t1.pure hB2; have r2 := r1.pure hB2; have hTf := hT1.trans (hB2.mono hT1.size); have hORf := hO2; have hOAf := (hO1.pure hB2).rebase (b' := w.heap.size + 2) (fun j hj => Nat.le_trans hz0 (hO1.ge hj)); have f0 := t2.at 0 rfl; have f1 := t2.at 1 rfl; have tk := (t2.other ⟨w.heap.size + 1, 0, none⟩ (.slice va R.length vc) (by simp only; omega)).other ⟨w.heap.size + 1, 1, none⟩ (.slice ua A.length uc) (by simp only; omega); have k0 := tk.at 0 rfl; have k1 := tk.at 1 rfl; have rk := (r2.set 0 (.slice va R.length vc)).set 1 (.slice ua A.length uc); have k2 := rk.at 0 rfl; have k3 := rk.at 1 rfl; have g0 := r2.at 0 rfl; have g1 := r2.at 1 rfl; have z0 := r2.frozen 0; have z1 := r2.frozen 1))
  all_goals
    go_wp2
    refine bodyPost_ret (by simp [results, Try.results12, go_sem, k2, k3]; rfl) rfl ?_
    have hS := ((Upd.set (S := fun k => w.heap.size + 1 = k) (w := w2) (p := ⟨w.heap.size + 1, 0, none⟩) rfl (.slice va R.length vc)).trans (Upd.set (p := ⟨w.heap.size + 1, 1, none⟩) rfl (.slice ua A.length uc)) (fun _ h _ => h))
    refine ⟨_, _, rfl, ?_, ?_, ?_⟩
    · exact ((hORf.other _ _ (fun j hj e => by have := hORf.ge hj; rw [e] at this; simp at this)).other _ _ (fun j hj e => by have := hORf.ge hj; rw [e] at this; simp at this)).rebase (fun j hj => by have := hORf.ge hj; omega)
    · exact ((hOAf.other _ _ (fun j hj e => by have := hOAf.ge hj; rw [e] at this; simp at this)).other _ _ (fun j hj e => by have := hOAf.ge hj; rw [e] at this; simp at this)).rebase (fun j hj => by have := hOAf.ge hj; omega)
    · exact ((Upd.of_below hTf).trans (hS.mono (T := fun k => w.heap.size ≤ k) (fun k h _ => by omega)) (fun _ h _ => h)).below (Nat.le_refl _) (fun k h => h)
end Go.Proofs.Ytcelpincmpjhkaa
