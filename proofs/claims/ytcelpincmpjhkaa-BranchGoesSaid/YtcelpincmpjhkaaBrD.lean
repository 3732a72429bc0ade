/- Package branch: the search in a table. Conditions: the rows rise; at most a million. Written by gen_brD.py. -/
import Derived.Test.YtcelpincmpjhkaaHA
namespace Go.Proofs.Ytcelpincmpjhkaa
set_option linter.unusedSimpArgs false
set_option linter.unusedVariables false
open Go.RowKit
theorem cmpX_le_lt {a b d : Xid} (h1 : cmpX a b ≤ 0) (h2 : cmpX b d < 0) : cmpX a d < 0 := cmpX_ok.le_lt h1 h2
theorem risesB_le {L : List Brn} (hL : RisesB L) {i j : Nat} (hi : i < L.length) (hj : j < L.length) (h : i ≤ j) : cmpX L[i].x L[j].x ≤ 0 := by
  rcases Nat.lt_or_eq_of_le h with h | h
  · exact Int.le_of_lt (List.pairwise_iff_getElem.1 hL i j hi hj h)
  · subst h; exact Int.le_of_eq (cmpX_ok.refl _)
/-- What the search answers. -/
def BinPostB (w : World) (L : List Brn) (x : Xid) (e : Ending) (w' : World) : Prop :=
  ∃ i : Nat, PlaceB L x i ∧ e = .returned (.tuple #[.int .i64 i, .bool (decide (∃ h : i < L.length, cmpX L[i].x x = 0))]) ∧ Below w.heap.size w w'

set_option maxRecDepth 100000 in
set_option maxHeartbeats 1600000 in
theorem binB_any (w : World) (v : Value) (L : List Brn) (x : Xid) (hs : Slc brEnc 7 w v L) (hr : RisesB L) (hL : L.length ≤ 1000000) :
    Calls Try.prog 109 #[v, .agg #[.int .u32 x.1, .string x.2.1, .string x.2.2], .func (.func 110) #[] #[]] w (BinPostB w L x) := by
  obtain ⟨a, cap, rfl, hm⟩ := hs.len
  unfold maxLen at hm
  have hr' := Lib.hid hr; clear hr
  have hb0 := Blk.new w [.int .u32 x.1, .string x.2.1, .string x.2.2] 28
  have hB0 := (Below.refl w.heap.size w).alloc (Nat.le_refl _) (.cells #[.int .u32 x.1, .string x.2.1, .string x.2.2] 28)
  obtain ⟨W0, hW0⟩ : ∃ W0, W0 = w.alloc (.cells #[.int .u32 x.1, .string x.2.1, .string x.2.2] 28) := ⟨_, rfl⟩
  have hb1 : Blk W0 w.heap.size [.int .u32 x.1, .string x.2.1, .string x.2.2] := by rw [hW0]; exact hb0
  have hB1 : Below w.heap.size w W0 := by rw [hW0]; exact hB0
  have hz1 : w.heap.size < W0.heap.size := by rw [hW0]; simp
  clear hb0 hB0
  go_enter Try.func109, Try.ntmps109
  go_wp2
  rw [← hW0]
  clear hW0
  go_loopw [9, 10] (fun s9 s10 wr => ∃ lo hi : Nat, lo ≤ hi ∧ hi ≤ L.length ∧ s9 = .int .i64 lo ∧ s10 = .int .i64 hi ∧ (∀ j, (h : j < L.length) → j < lo → cmpX L[j].x x < 0) ∧ (∀ j, (h : j < L.length) → hi ≤ j → 0 ≤ cmpX L[j].x x) ∧ Below W0.heap.size W0 wr) (fun s9 s10 _ => (intOf s10 - intOf s9).toNat)
  case atStart => exact ⟨0, L.length, by omega, by omega, rfl, rfl, fun j h h' => absurd h' (by omega), fun j h h' => absurd h' (by omega), Below.refl _ _⟩
  case round =>
    obtain ⟨lo, hi, hlh, hhl, rfl, rfl, k1, k2, hB⟩ := hrel
    have k1' := Lib.hid k1; clear k1
    have k2' := Lib.hid k2; clear k2
    have hBw := hB1.trans (hB.mono hB1.size)
    have hsr := hs.pure hBw
    have hbr := hb1.below hB hz1
    have e0 := hbr.at 0 rfl; have e1 := hbr.at 1 rfl; have e2 := hbr.at 2 rfl
    by_cases hlt : lo < hi
    · have hmd : (lo + hi) / 2 < L.length := by omega
      obtain ⟨g, off, rfl⟩ := hsr.addr hmd
      obtain ⟨c0, c1, c2, c3, c4, c5, c6⟩ := br_cells hsr hmd
      have hmi : (0 : Int) ≤ ((lo + hi) / 2 : Nat) := by omega
      have hmi2 : (((lo + hi) / 2 : Nat) : Int) < (L.length : Int) := by omega
      have hmi3 : (0 : Int) ≤ ((lo : Int) + (hi : Int)) / 2 := by omega
      have hmi4 : ((lo : Int) + (hi : Int)) / 2 < (L.length : Int) := by omega
      have htn : (((lo : Int) + (hi : Int)) / 2).toNat = (lo + hi) / 2 := by omega
      obtain ⟨cc, hcc⟩ : ∃ cc, cmpX L[(lo + hi) / 2].x x = cc := ⟨_, rfl⟩
      have hcc' := Lib.hid hcc
      clear hcc
      by_cases hq : cc < 0
      · have hlow : ∀ j, (h : j < L.length) → j < (lo + hi) / 2 + 1 → cmpX L[j].x x < 0 := fun j h h' => cmpX_le_lt (risesB_le hr'.out h hmd (by omega)) (by rw [hcc'.out]; exact hq)
        have hlow' := Lib.hid hlow; clear hlow
        go_wp2
        go_region_held3 (fun w' => w'.cell? ⟨g, off + (lo + hi) / 2 * 7, none⟩ = some (.int .u32 L[(lo + hi) / 2].x.1) ∧ w'.cell? ⟨g, off + (lo + hi) / 2 * 7 + 1, none⟩ = some (.string L[(lo + hi) / 2].x.2.1) ∧ w'.cell? ⟨g, off + (lo + hi) / 2 * 7 + 2, none⟩ = some (.string L[(lo + hi) / 2].x.2.2) ∧ w'.cell? ⟨g, off + (lo + hi) / 2 * 7 + 3, none⟩ = some (.int .u8 L[(lo + hi) / 2].st) ∧ w'.cell? ⟨g, off + (lo + hi) / 2 * 7 + 4, none⟩ = some (.int .u8 L[(lo + hi) / 2].why) ∧ w'.cell? ⟨g, off + (lo + hi) / 2 * 7 + 5, none⟩ = some (.int .u32 L[(lo + hi) / 2].tm) ∧ w'.cell? ⟨g, off + (lo + hi) / 2 * 7 + 6, none⟩ = some (.int .u32 L[(lo + hi) / 2].lf) ∧ w'.cell? ⟨w.heap.size, 0, none⟩ = some (.int .u32 x.1) ∧ w'.cell? ⟨w.heap.size, 1, none⟩ = some (.string x.2.1) ∧ w'.cell? ⟨w.heap.size, 2, none⟩ = some (.string x.2.2)) (first | exact ⟨c0, c1, c2, c3, c4, c5, c6, e0, e1, e2⟩ | exact ⟨d0, d1, d2, d3, d4, d5, d6, f0, f1, f2⟩)
          (first | (go_at_call 110; refine (at1_any _ L[(lo + hi) / 2] x).mono ?_; rw [hcc'.out]; rintro e w1 ⟨rfl, hB2⟩; obtain ⟨d0, d1, d2, d3, d4, d5, d6⟩ := br_cells (hsr.drew.pure hB2) hmd; have hb2 := hbr.drew.pure hB2; have f0 := hb2.at 0 rfl; have f1 := hb2.at 1 rfl; have f2 := hb2.at 2 rfl; have hB3 := (below_dr hB).trans (hB2.mono hB.size); clear c0 c1 c2 c3 c4 c5 c6 e0 e1 e2))
        go_wp2
        go_roundw
        case rel => exact ⟨(lo + hi) / 2 + 1, hi, by omega, by omega, by go_num, rfl, hlow'.out, k2'.out, hB3⟩
        case measure => simp [intOf]; omega
      · have hhigh : ∀ j, (h : j < L.length) → (lo + hi) / 2 ≤ j → 0 ≤ cmpX L[j].x x := fun j h h' => by
          by_cases h1 : cmpX L[j].x x < 0
          · have := cmpX_le_lt (risesB_le hr'.out hmd h h') h1
            rw [hcc'.out] at this
            exact absurd this hq
          · omega
        have hhigh' := Lib.hid hhigh; clear hhigh
        go_wp2
        go_region_held3 (fun w' => w'.cell? ⟨g, off + (lo + hi) / 2 * 7, none⟩ = some (.int .u32 L[(lo + hi) / 2].x.1) ∧ w'.cell? ⟨g, off + (lo + hi) / 2 * 7 + 1, none⟩ = some (.string L[(lo + hi) / 2].x.2.1) ∧ w'.cell? ⟨g, off + (lo + hi) / 2 * 7 + 2, none⟩ = some (.string L[(lo + hi) / 2].x.2.2) ∧ w'.cell? ⟨g, off + (lo + hi) / 2 * 7 + 3, none⟩ = some (.int .u8 L[(lo + hi) / 2].st) ∧ w'.cell? ⟨g, off + (lo + hi) / 2 * 7 + 4, none⟩ = some (.int .u8 L[(lo + hi) / 2].why) ∧ w'.cell? ⟨g, off + (lo + hi) / 2 * 7 + 5, none⟩ = some (.int .u32 L[(lo + hi) / 2].tm) ∧ w'.cell? ⟨g, off + (lo + hi) / 2 * 7 + 6, none⟩ = some (.int .u32 L[(lo + hi) / 2].lf) ∧ w'.cell? ⟨w.heap.size, 0, none⟩ = some (.int .u32 x.1) ∧ w'.cell? ⟨w.heap.size, 1, none⟩ = some (.string x.2.1) ∧ w'.cell? ⟨w.heap.size, 2, none⟩ = some (.string x.2.2)) (first | exact ⟨c0, c1, c2, c3, c4, c5, c6, e0, e1, e2⟩ | exact ⟨d0, d1, d2, d3, d4, d5, d6, f0, f1, f2⟩)
          (first | (go_at_call 110; refine (at1_any _ L[(lo + hi) / 2] x).mono ?_; rw [hcc'.out]; rintro e w1 ⟨rfl, hB2⟩; obtain ⟨d0, d1, d2, d3, d4, d5, d6⟩ := br_cells (hsr.drew.pure hB2) hmd; have hb2 := hbr.drew.pure hB2; have f0 := hb2.at 0 rfl; have f1 := hb2.at 1 rfl; have f2 := hb2.at 2 rfl; have hB3 := (below_dr hB).trans (hB2.mono hB.size); clear c0 c1 c2 c3 c4 c5 c6 e0 e1 e2))
        go_wp2
        go_roundw
        case rel => exact ⟨lo, (lo + hi) / 2, by omega, by omega, rfl, rfl, k1'.out, hhigh'.out, hB3⟩
        case measure => simp [intOf]; omega
    · obtain rfl : lo = hi := by omega
      have hp : PlaceB L x lo := ⟨hhl, k1'.out, k2'.out⟩
      have hp' := Lib.hid hp; clear hp hlh
      by_cases hll : lo < L.length
      · obtain ⟨g, off, rfl⟩ := hsr.addr hll
        obtain ⟨c0, c1, c2, c3, c4, c5, c6⟩ := br_cells hsr hll
        have hmi : (0 : Int) ≤ (lo : Int) := by omega
        have hmi2 : (lo : Int) < (L.length : Int) := by omega
        obtain ⟨cc, hcc⟩ : ∃ cc, cmpX L[lo].x x = cc := ⟨_, rfl⟩
        have hfd : decide (∃ h : lo < L.length, cmpX L[lo].x x = 0) = decide (cc = 0) := by
          rw [← hcc]; exact decide_eq_decide.2 ⟨fun h => h.2, fun h => ⟨hll, h⟩⟩
        have hcc' := Lib.hid hcc
        have hfd' := Lib.hid hfd
        clear hcc hfd
        go_wp2
        go_region_held3 (fun w' => w'.cell? ⟨g, off + lo * 7, none⟩ = some (.int .u32 L[lo].x.1) ∧ w'.cell? ⟨g, off + lo * 7 + 1, none⟩ = some (.string L[lo].x.2.1) ∧ w'.cell? ⟨g, off + lo * 7 + 2, none⟩ = some (.string L[lo].x.2.2) ∧ w'.cell? ⟨g, off + lo * 7 + 3, none⟩ = some (.int .u8 L[lo].st) ∧ w'.cell? ⟨g, off + lo * 7 + 4, none⟩ = some (.int .u8 L[lo].why) ∧ w'.cell? ⟨g, off + lo * 7 + 5, none⟩ = some (.int .u32 L[lo].tm) ∧ w'.cell? ⟨g, off + lo * 7 + 6, none⟩ = some (.int .u32 L[lo].lf) ∧ w'.cell? ⟨w.heap.size, 0, none⟩ = some (.int .u32 x.1) ∧ w'.cell? ⟨w.heap.size, 1, none⟩ = some (.string x.2.1) ∧ w'.cell? ⟨w.heap.size, 2, none⟩ = some (.string x.2.2)) (first | exact ⟨c0, c1, c2, c3, c4, c5, c6, e0, e1, e2⟩ | exact ⟨d0, d1, d2, d3, d4, d5, d6, f0, f1, f2⟩)
          (first | (go_at_call 110; refine (at1_any _ L[lo] x).mono ?_; rw [hcc'.out]; rintro e w1 ⟨rfl, hB2⟩; obtain ⟨d0, d1, d2, d3, d4, d5, d6⟩ := br_cells (hsr.drew.pure hB2) hll; have hb2 := hbr.drew.pure hB2; have f0 := hb2.at 0 rfl; have f1 := hb2.at 1 rfl; have f2 := hb2.at 2 rfl; have hB3 := (below_dr hB).trans (hB2.mono hB.size); clear c0 c1 c2 c3 c4 c5 c6 e0 e1 e2))
        go_wp2
        go_ret2
        exact ⟨lo, hp'.out, by rw [hfd'.out]; rfl, hB1.trans (hB3.mono hB1.size)⟩
      · have hfd : decide (∃ h : lo < L.length, cmpX L[lo].x x = 0) = false := decide_eq_false (fun h => hll h.1)
        have hfd' := Lib.hid hfd
        clear hfd
        go_wp2
        go_quiet (fail)
        go_wp2
        go_ret2
        exact ⟨lo, hp'.out, by rw [hfd'.out]; rfl, below_drewN hBw _⟩

set_option maxHeartbeats 800000 in
theorem atB_any (w : World) (v : Value) (L : List Brn) (x : Xid) (hs : Slc brEnc 7 w v L) (hr : RisesB L) (hL : L.length ≤ 1000000) :
    Calls Try.prog 72 #[v, .agg #[.int .u32 x.1, .string x.2.1, .string x.2.2]] w (BinPostB w L x) := by
  have hb := fun (w1 : World) (hB : Below w.heap.size w w1) => binB_any w1 v L x (hs.pure hB) hr hL
  have hb' := Lib.hid hb
  obtain ⟨a, n, cap, rfl⟩ := hs.shape3
  obtain ⟨xf, xg, xb⟩ := x
  simp only at *
  clear hb hr
  have hB0 := (Below.refl w.heap.size w).alloc (Nat.le_refl _) (.cells #[.int .u32 xf, .string xg, .string xb] 28)
  have b0 := Blk.new w [.int .u32 xf, .string xg, .string xb] 28
  have c0 := b0.at 0 rfl; have c1 := b0.at 1 rfl; have c2 := b0.at 2 rfl
  go_enter Try.func72, Try.ntmps72
  go_wp2_with (go_at_call 109; refine (hb'.out _ ?_).mono ?_; exact hB0; rintro e w1 ⟨i, hi, rfl, hB1⟩)
  go_ret2
  exact ⟨i, hi, rfl, hB0.trans (hB1.mono hB0.size)⟩
theorem atB_no (w : World) (v : Value) (L : List Brn) (x : Xid) (hs : Slc brEnc 7 w v L) (hr : RisesB L) (hL : L.length ≤ 1000000) (hn : ¬ MemB L x) :
    Calls Try.prog 72 #[v, .agg #[.int .u32 x.1, .string x.2.1, .string x.2.2]] w fun e w' => ∃ i : Nat, PlaceB L x i ∧ e = .returned (.tuple #[.int .i64 i, .bool false]) ∧ Below w.heap.size w w' := by
  refine (atB_any w v L x hs hr hL).mono ?_
  rintro e w' ⟨i, hi, rfl, hB⟩
  refine ⟨i, hi, ?_, hB⟩
  rw [decide_eq_false]
  rintro ⟨h, hz⟩
  exact hn ⟨i, h, cmpX_zero.1 hz⟩
theorem atB_yes (w : World) (v : Value) (L : List Brn) (x : Xid) (k : Nat) (hs : Slc brEnc 7 w v L) (hr : RisesB L) (hL : L.length ≤ 1000000) (hk : k < L.length) (he : L[k].x = x) :
    Calls Try.prog 72 #[v, .agg #[.int .u32 x.1, .string x.2.1, .string x.2.2]] w fun e w' => e = .returned (.tuple #[.int .i64 k, .bool true]) ∧ Below w.heap.size w w' := by
  refine (atB_any w v L x hs hr hL).mono ?_
  rintro e w' ⟨i, hi, rfl, hB⟩
  have := placeB_at hr hi hk he
  subst this
  refine ⟨?_, hB⟩
  rw [decide_eq_true]
  exact ⟨hk, cmpX_zero.2 he⟩
end Go.Proofs.Ytcelpincmpjhkaa
