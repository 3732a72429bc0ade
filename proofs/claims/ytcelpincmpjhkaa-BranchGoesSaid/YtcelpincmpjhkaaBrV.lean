/- Package branch: Find, Recover. Conditions: rows and associations read; at most a million of each. Written by gen_brV.py. -/
import Derived.Test.YtcelpincmpjhkaaBrI
import Derived.Test.YtcelpincmpjhkaaHA
namespace Go.Proofs.Ytcelpincmpjhkaa
set_option linter.unusedSimpArgs false
set_option linter.unusedVariables false
open Go.RowKit
def WeakPost (w : World) (e : Ending) (w' : World) : Prop := ∃ (i : Nat) (b : Bool), e = .returned (.tuple #[.int .i64 i, .bool b]) ∧ Below w.heap.size w w'

set_option maxRecDepth 100000 in
set_option maxHeartbeats 1600000 in
theorem binB_weak (w : World) (v : Value) (L : List Brn) (x : Xid) (hs : Slc brEnc 7 w v L) (hL : L.length ≤ 1000000) :
    Calls Try.prog 109 #[v, .agg #[.int .u32 x.1, .string x.2.1, .string x.2.2], .func (.func 110) #[] #[]] w (WeakPost w) := by
  obtain ⟨a, cap, rfl, hm⟩ := hs.len
  unfold maxLen at hm
  have hb0 := Blk.new w [.int .u32 x.1, .string x.2.1, .string x.2.2] 28
  have hB0 := (Below.refl w.heap.size w).alloc (Nat.le_refl _) (.cells #[.int .u32 x.1, .string x.2.1, .string x.2.2] 28)
  obtain ⟨W0, hW0⟩ : ∃ W0, W0 = w.alloc (.cells #[.int .u32 x.1, .string x.2.1, .string x.2.2] 28) := ⟨_, rfl⟩
  have hb1 : Blk W0 w.heap.size [.int .u32 x.1, .string x.2.1, .string x.2.2] := by rw [hW0]; exact hb0
  have hB1 : Below w.heap.size w W0 := by rw [hW0]; exact hB0
  have hz1 : w.heap.size < W0.heap.size := by rw [hW0]; simp
  clear hb0 hB0
  go_enter Try.func109, Try.ntmps109
  go_wp2
  rw [← hW0]
  clear hW0
  go_loopw [9, 10] (fun s9 s10 wr => ∃ lo hi : Nat, lo ≤ hi ∧ hi ≤ L.length ∧ s9 = .int .i64 lo ∧ s10 = .int .i64 hi ∧ Below W0.heap.size W0 wr) (fun s9 s10 _ => (intOf s10 - intOf s9).toNat)
  case atStart => exact ⟨0, L.length, by omega, by omega, rfl, rfl, Below.refl _ _⟩
  case round =>
    obtain ⟨lo, hi, hlh, hhl, rfl, rfl, hB⟩ := hrel
    have hBw := hB1.trans (hB.mono hB1.size)
    have hsr := hs.pure hBw
    have hbr := hb1.below hB hz1
    have e0 := hbr.at 0 rfl; have e1 := hbr.at 1 rfl; have e2 := hbr.at 2 rfl
    by_cases hlt : lo < hi
    · have hmd : (lo + hi) / 2 < L.length := by omega
      obtain ⟨g, off, rfl⟩ := hsr.addr hmd
      obtain ⟨c0, c1, c2, c3, c4, c5, c6⟩ := br_cells hsr hmd
      have hmi : (0 : Int) ≤ ((lo + hi) / 2 : Nat) := by omega
      have hmi2 : (((lo + hi) / 2 : Nat) : Int) < (L.length : Int) := by omega
      have hmi3 : (0 : Int) ≤ ((lo : Int) + (hi : Int)) / 2 := by omega
      have hmi4 : ((lo : Int) + (hi : Int)) / 2 < (L.length : Int) := by omega
      have htn : (((lo : Int) + (hi : Int)) / 2).toNat = (lo + hi) / 2 := by omega
      obtain ⟨cc, hcc⟩ : ∃ cc, cmpX L[(lo + hi) / 2].x x = cc := ⟨_, rfl⟩
      have hcc' := Lib.hid hcc
      clear hcc
      by_cases hq : cc < 0
      · have hdum := True.intro
        go_wp2
        go_region_held3 (fun w' => w'.cell? ⟨g, off + (lo + hi) / 2 * 7, none⟩ = some (.int .u32 L[(lo + hi) / 2].x.1) ∧ w'.cell? ⟨g, off + (lo + hi) / 2 * 7 + 1, none⟩ = some (.string L[(lo + hi) / 2].x.2.1) ∧ w'.cell? ⟨g, off + (lo + hi) / 2 * 7 + 2, none⟩ = some (.string L[(lo + hi) / 2].x.2.2) ∧ w'.cell? ⟨g, off + (lo + hi) / 2 * 7 + 3, none⟩ = some (.int .u8 L[(lo + hi) / 2].st) ∧ w'.cell? ⟨g, off + (lo + hi) / 2 * 7 + 4, none⟩ = some (.int .u8 L[(lo + hi) / 2].why) ∧ w'.cell? ⟨g, off + (lo + hi) / 2 * 7 + 5, none⟩ = some (.int .u32 L[(lo + hi) / 2].tm) ∧ w'.cell? ⟨g, off + (lo + hi) / 2 * 7 + 6, none⟩ = some (.int .u32 L[(lo + hi) / 2].lf) ∧ w'.cell? ⟨w.heap.size, 0, none⟩ = some (.int .u32 x.1) ∧ w'.cell? ⟨w.heap.size, 1, none⟩ = some (.string x.2.1) ∧ w'.cell? ⟨w.heap.size, 2, none⟩ = some (.string x.2.2)) (first | exact ⟨c0, c1, c2, c3, c4, c5, c6, e0, e1, e2⟩ | exact ⟨d0, d1, d2, d3, d4, d5, d6, f0, f1, f2⟩)
          (first | (go_at_call 110; refine (at1_any _ L[(lo + hi) / 2] x).mono ?_; rw [hcc'.out]; rintro e w1 ⟨rfl, hB2⟩; obtain ⟨d0, d1, d2, d3, d4, d5, d6⟩ := br_cells (hsr.drew.pure hB2) hmd; have hb2 := hbr.drew.pure hB2; have f0 := hb2.at 0 rfl; have f1 := hb2.at 1 rfl; have f2 := hb2.at 2 rfl; have hB3 := (below_dr hB).trans (hB2.mono hB.size); clear c0 c1 c2 c3 c4 c5 c6 e0 e1 e2))
        go_wp2
        go_roundw
        case rel => exact ⟨(lo + hi) / 2 + 1, hi, by omega, by omega, by go_num, rfl, hB3⟩
        case measure => simp [intOf]; omega
      · have hdum := True.intro
        go_wp2
        go_region_held3 (fun w' => w'.cell? ⟨g, off + (lo + hi) / 2 * 7, none⟩ = some (.int .u32 L[(lo + hi) / 2].x.1) ∧ w'.cell? ⟨g, off + (lo + hi) / 2 * 7 + 1, none⟩ = some (.string L[(lo + hi) / 2].x.2.1) ∧ w'.cell? ⟨g, off + (lo + hi) / 2 * 7 + 2, none⟩ = some (.string L[(lo + hi) / 2].x.2.2) ∧ w'.cell? ⟨g, off + (lo + hi) / 2 * 7 + 3, none⟩ = some (.int .u8 L[(lo + hi) / 2].st) ∧ w'.cell? ⟨g, off + (lo + hi) / 2 * 7 + 4, none⟩ = some (.int .u8 L[(lo + hi) / 2].why) ∧ w'.cell? ⟨g, off + (lo + hi) / 2 * 7 + 5, none⟩ = some (.int .u32 L[(lo + hi) / 2].tm) ∧ w'.cell? ⟨g, off + (lo + hi) / 2 * 7 + 6, none⟩ = some (.int .u32 L[(lo + hi) / 2].lf) ∧ w'.cell? ⟨w.heap.size, 0, none⟩ = some (.int .u32 x.1) ∧ w'.cell? ⟨w.heap.size, 1, none⟩ = some (.string x.2.1) ∧ w'.cell? ⟨w.heap.size, 2, none⟩ = some (.string x.2.2)) (first | exact ⟨c0, c1, c2, c3, c4, c5, c6, e0, e1, e2⟩ | exact ⟨d0, d1, d2, d3, d4, d5, d6, f0, f1, f2⟩)
          (first | (go_at_call 110; refine (at1_any _ L[(lo + hi) / 2] x).mono ?_; rw [hcc'.out]; rintro e w1 ⟨rfl, hB2⟩; obtain ⟨d0, d1, d2, d3, d4, d5, d6⟩ := br_cells (hsr.drew.pure hB2) hmd; have hb2 := hbr.drew.pure hB2; have f0 := hb2.at 0 rfl; have f1 := hb2.at 1 rfl; have f2 := hb2.at 2 rfl; have hB3 := (below_dr hB).trans (hB2.mono hB.size); clear c0 c1 c2 c3 c4 c5 c6 e0 e1 e2))
        go_wp2
        go_roundw
        case rel => exact ⟨lo, (lo + hi) / 2, by omega, by omega, rfl, rfl, hB3⟩
        case measure => simp [intOf]; omega
    · obtain rfl : lo = hi := by omega
      clear hlh
      by_cases hll : lo < L.length
      · obtain ⟨g, off, rfl⟩ := hsr.addr hll
        obtain ⟨c0, c1, c2, c3, c4, c5, c6⟩ := br_cells hsr hll
        have hmi : (0 : Int) ≤ (lo : Int) := by omega
        have hmi2 : (lo : Int) < (L.length : Int) := by omega
        obtain ⟨cc, hcc⟩ : ∃ cc, cmpX L[lo].x x = cc := ⟨_, rfl⟩
        have hfd : decide (∃ h : lo < L.length, cmpX L[lo].x x = 0) = decide (cc = 0) := by
          rw [← hcc]; exact decide_eq_decide.2 ⟨fun h => h.2, fun h => ⟨hll, h⟩⟩
        have hcc' := Lib.hid hcc
        have hfd' := Lib.hid hfd
        clear hcc hfd
        go_wp2
        go_region_held3 (fun w' => w'.cell? ⟨g, off + lo * 7, none⟩ = some (.int .u32 L[lo].x.1) ∧ w'.cell? ⟨g, off + lo * 7 + 1, none⟩ = some (.string L[lo].x.2.1) ∧ w'.cell? ⟨g, off + lo * 7 + 2, none⟩ = some (.string L[lo].x.2.2) ∧ w'.cell? ⟨g, off + lo * 7 + 3, none⟩ = some (.int .u8 L[lo].st) ∧ w'.cell? ⟨g, off + lo * 7 + 4, none⟩ = some (.int .u8 L[lo].why) ∧ w'.cell? ⟨g, off + lo * 7 + 5, none⟩ = some (.int .u32 L[lo].tm) ∧ w'.cell? ⟨g, off + lo * 7 + 6, none⟩ = some (.int .u32 L[lo].lf) ∧ w'.cell? ⟨w.heap.size, 0, none⟩ = some (.int .u32 x.1) ∧ w'.cell? ⟨w.heap.size, 1, none⟩ = some (.string x.2.1) ∧ w'.cell? ⟨w.heap.size, 2, none⟩ = some (.string x.2.2)) (first | exact ⟨c0, c1, c2, c3, c4, c5, c6, e0, e1, e2⟩ | exact ⟨d0, d1, d2, d3, d4, d5, d6, f0, f1, f2⟩)
          (first | (go_at_call 110; refine (at1_any _ L[lo] x).mono ?_; rw [hcc'.out]; rintro e w1 ⟨rfl, hB2⟩; obtain ⟨d0, d1, d2, d3, d4, d5, d6⟩ := br_cells (hsr.drew.pure hB2) hll; have hb2 := hbr.drew.pure hB2; have f0 := hb2.at 0 rfl; have f1 := hb2.at 1 rfl; have f2 := hb2.at 2 rfl; have hB3 := (below_dr hB).trans (hB2.mono hB.size); clear c0 c1 c2 c3 c4 c5 c6 e0 e1 e2))
        go_wp2
        go_ret2
        exact ⟨lo, _, rfl, hB1.trans (hB3.mono hB1.size)⟩
      · have hfd : decide (∃ h : lo < L.length, cmpX L[lo].x x = 0) = false := decide_eq_false (fun h => hll h.1)
        have hfd' := Lib.hid hfd
        clear hfd
        go_wp2
        go_quiet (fail)
        go_wp2
        go_ret2
        exact ⟨lo, _, rfl, below_drewN hBw _⟩

set_option maxHeartbeats 800000 in
theorem atB_weak (w : World) (v : Value) (L : List Brn) (x : Xid) (hs : Slc brEnc 7 w v L) (hL : L.length ≤ 1000000) :
    Calls Try.prog 72 #[v, .agg #[.int .u32 x.1, .string x.2.1, .string x.2.2]] w (WeakPost w) := by
  have hb := fun (w1 : World) (hB : Below w.heap.size w w1) => binB_weak w1 v L x (hs.pure hB) hL
  have hb' := Lib.hid hb
  obtain ⟨a, n, cap, rfl⟩ := hs.shape3
  obtain ⟨xf, xg, xb⟩ := x
  simp only at *
  clear hb
  have hB0 := (Below.refl w.heap.size w).alloc (Nat.le_refl _) (.cells #[.int .u32 xf, .string xg, .string xb] 28)
  have b0 := Blk.new w [.int .u32 xf, .string xg, .string xb] 28
  have c0 := b0.at 0 rfl; have c1 := b0.at 1 rfl; have c2 := b0.at 2 rfl
  go_enter Try.func72, Try.ntmps72
  go_wp2_with (go_at_call 109; refine (hb'.out _ ?_).mono ?_; exact hB0; rintro e w1 ⟨i, bb, rfl, hB1⟩)
  go_ret2
  exact ⟨i, bb, rfl, hB0.trans (hB1.mono hB0.size)⟩


theorem tcheck2 (w : World) (rv av : Value) (R : List Brn) (A : List Asc) (v : Int) (hR : Slc brEnc 7 w rv R) (hA : Slc ascEnc 5 w av A) (hLR : R.length ≤ 1000000) (hLA : A.length ≤ 1000000) (hv : tabE R A = v) :
    Calls Try.prog 21 #[.agg #[rv, av]] w fun e w' => e = .returned (.int .i64 v) ∧ Below w.heap.size w w' := by
  rw [← hv]; exact tcheck_any w rv av R A hR hA hLR hLA


def zeroB : Brn := ⟨(0, ⟨#[]⟩, ⟨#[]⟩), 0, 0, 0, 0⟩
noncomputable def findD (R : List Brn) (A : List Asc) (x : Xid) : Option Brn := @ite _ (TabOk R A) (Classical.propDecidable _) ((idxB R x).map (fun k => R.getD k zeroB)) none
theorem findD_bad {R : List Brn} {A : List Asc} (h : ¬ TabOk R A) (x : Xid) : findD R A x = none := by unfold findD; rw [if_neg h]
theorem findD_yes {R : List Brn} {A : List Asc} {x : Xid} {k : Nat} (h : TabOk R A) (hk : k < R.length) (he : R[k].x = x) : findD R A x = some R[k] := by
  unfold findD; rw [if_pos h, idxB_yes h.1.2 hk he]; simp [List.getElem?_eq_getElem hk]
theorem findD_no {R : List Brn} {A : List Asc} {x : Xid} (hn : ¬ MemB R x) : findD R A x = none := by
  unfold findD; rw [idxB_no hn]; simp

theorem Blk.newAt2 (w : World) (cs : List Value) (T : TypeId) (k : Nat) (h : w.heap.size = k) : Blk (w.alloc (.cells cs.toArray T)) k cs := h ▸ Blk.new w cs T
set_option maxRecDepth 100000 in
set_option maxHeartbeats 3200000 in
theorem find_fn (w : World) (rv av : Value) (R : List Brn) (A : List Asc) (x : Xid) (hR : Slc brEnc 7 w rv R) (hA : Slc ascEnc 5 w av A) (hLR : R.length ≤ 1000000) (hLA : A.length ≤ 1000000) :
    Calls Try.prog 18 #[.agg #[rv, av], .agg #[.int .u32 x.1, .string x.2.1, .string x.2.2]] w fun e w' => e = .returned (.tuple #[brVal ((findD R A x).getD zeroB), .bool (findD R A x).isSome]) ∧ Below w.heap.size w w' := by
  obtain ⟨ra, rc, rfl, hm1⟩ := hR.len
  obtain ⟨aa, ac, rfl, hm2⟩ := hA.len
  obtain ⟨xf, xg, xb⟩ := x
  simp only
  have hB0 : Below w.heap.size w (((w.alloc (.cells #[.slice ra R.length rc, .slice aa A.length ac] 25)).alloc (.cells #[.int .u32 xf, .string xg, .string xb] 28)).alloc (.cells #[.int .u32 0, .string ⟨#[]⟩, .string ⟨#[]⟩, .int .u8 0, .int .u8 0, .int .u32 0, .int .u32 0] 44)) := ((((Below.refl _ _).alloc (Nat.le_refl _) _).alloc (by simp) _).alloc (by simp; omega) _)
  have t0 : Blk (((w.alloc (.cells #[.slice ra R.length rc, .slice aa A.length ac] 25)).alloc (.cells #[.int .u32 xf, .string xg, .string xb] 28)).alloc (.cells #[.int .u32 0, .string ⟨#[]⟩, .string ⟨#[]⟩, .int .u8 0, .int .u8 0, .int .u32 0, .int .u32 0] 44)) (w.heap.size) [.slice ra R.length rc, .slice aa A.length ac] := (((Blk.newAt2 w [.slice ra R.length rc, .slice aa A.length ac] 25 (w.heap.size) (by simp)).alloc (.cells #[.int .u32 xf, .string xg, .string xb] 28)).alloc (.cells #[.int .u32 0, .string ⟨#[]⟩, .string ⟨#[]⟩, .int .u8 0, .int .u8 0, .int .u32 0, .int .u32 0] 44))
  have x0 : Blk (((w.alloc (.cells #[.slice ra R.length rc, .slice aa A.length ac] 25)).alloc (.cells #[.int .u32 xf, .string xg, .string xb] 28)).alloc (.cells #[.int .u32 0, .string ⟨#[]⟩, .string ⟨#[]⟩, .int .u8 0, .int .u8 0, .int .u32 0, .int .u32 0] 44)) (w.heap.size + 1) [.int .u32 xf, .string xg, .string xb] := ((Blk.newAt2 (w.alloc (.cells #[.slice ra R.length rc, .slice aa A.length ac] 25)) [.int .u32 xf, .string xg, .string xb] 28 (w.heap.size + 1) (by simp)).alloc (.cells #[.int .u32 0, .string ⟨#[]⟩, .string ⟨#[]⟩, .int .u8 0, .int .u8 0, .int .u32 0, .int .u32 0] 44))
  have r0 : Blk (((w.alloc (.cells #[.slice ra R.length rc, .slice aa A.length ac] 25)).alloc (.cells #[.int .u32 xf, .string xg, .string xb] 28)).alloc (.cells #[.int .u32 0, .string ⟨#[]⟩, .string ⟨#[]⟩, .int .u8 0, .int .u8 0, .int .u32 0, .int .u32 0] 44)) (w.heap.size + 1 + 1) [.int .u32 0, .string ⟨#[]⟩, .string ⟨#[]⟩, .int .u8 0, .int .u8 0, .int .u32 0, .int .u32 0] := (Blk.newAt2 ((w.alloc (.cells #[.slice ra R.length rc, .slice aa A.length ac] 25)).alloc (.cells #[.int .u32 xf, .string xg, .string xb] 28)) [.int .u32 0, .string ⟨#[]⟩, .string ⟨#[]⟩, .int .u8 0, .int .u8 0, .int .u32 0, .int .u32 0] 44 (w.heap.size + 1 + 1) (by simp))
  have c0 := t0.at 0 rfl; have c1 := t0.at 1 rfl; have c2 := x0.at 0 rfl; have c3 := x0.at 1 rfl; have c4 := x0.at 2 rfl
  have hT0 := hB0
  rcases tabE_cases R A with ⟨h1, h2⟩ | ⟨h1, h2⟩
  rotate_left 1
  · have htab := Lib.hid h2
    have hfd := Lib.hid (findD_bad h1 (xf, xg, xb))
    clear h1 h2
    go_enter Try.func18, Try.ntmps18
    go_wp2_with (first | (go_at_call 72; (with_reducible refine (atB_weak _ _ R (xf, xg, xb) (hR.pure hB0) hLR).mono ?_); rintro e w1 ⟨i, bb, rfl, hB1⟩; have t1 := t0.pure hB1; have r1 := r0.pure hB1; have hT1 := hT0.trans (hB1.mono hT0.size); have d10 := t1.at 0 rfl; have d11 := t1.at 1 rfl; have e10 := r1.at 0 rfl; have z10 := r1.frozen 0; have e11 := r1.at 1 rfl; have z11 := r1.frozen 1; have e12 := r1.at 2 rfl; have z12 := r1.frozen 2; have e13 := r1.at 3 rfl; have z13 := r1.frozen 3; have e14 := r1.at 4 rfl; have z14 := r1.frozen 4; have e15 := r1.at 5 rfl; have z15 := r1.frozen 5; have e16 := r1.at 6 rfl; have z16 := r1.frozen 6) | (go_at_call 21; (with_reducible refine (tcheck2 _ _ _ R A 190 (hR.pure hT1) (hA.pure hT1) hLR hLA htab.out).mono ?_); rintro e w2 ⟨rfl, hB2⟩; have t2 := t1.pure hB2; have r2 := r1.pure hB2; have hT2 := hT1.trans (hB2.mono hT1.size); have d20 := t2.at 0 rfl; have d21 := t2.at 1 rfl; have e20 := r2.at 0 rfl; have z20 := r2.frozen 0; have e21 := r2.at 1 rfl; have z21 := r2.frozen 1; have e22 := r2.at 2 rfl; have z22 := r2.frozen 2; have e23 := r2.at 3 rfl; have z23 := r2.frozen 3; have e24 := r2.at 4 rfl; have z24 := r2.frozen 4; have e25 := r2.at 5 rfl; have z25 := r2.frozen 5; have e26 := r2.at 6 rfl; have z26 := r2.frozen 6))
    have rr := ((((((r2.set 0 (.int .u32 0)).set 1 (.string ⟨#[]⟩)).set 2 (.string ⟨#[]⟩)).set 3 (.int .u8 0)).set 4 (.int .u8 0)).set 5 (.int .u32 0)).set 6 (.int .u32 0)
    have k0 := rr.at 0 rfl; have k1 := rr.at 1 rfl; have k2 := rr.at 2 rfl; have k3 := rr.at 3 rfl; have k4 := rr.at 4 rfl; have k5 := rr.at 5 rfl; have k6 := rr.at 6 rfl
    refine bodyPost_ret (by simp [results, Try.results18, go_sem, k0, k1, k2, k3, k4, k5, k6]; rfl) rfl ?_
    have hS := ((((((Upd.set (S := fun k => w.heap.size + 2 = k) (w := w2) (p := ⟨w.heap.size + 1 + 1, 0, none⟩) rfl (.int .u32 0)).trans (Upd.set (p := ⟨w.heap.size + 1 + 1, 1, none⟩) rfl (.string ⟨#[]⟩)) (fun _ h _ => h)).trans (Upd.set (p := ⟨w.heap.size + 1 + 1, 2, none⟩) rfl (.string ⟨#[]⟩)) (fun _ h _ => h)).trans (Upd.set (p := ⟨w.heap.size + 1 + 1, 3, none⟩) rfl (.int .u8 0)) (fun _ h _ => h)).trans (Upd.set (p := ⟨w.heap.size + 1 + 1, 4, none⟩) rfl (.int .u8 0)) (fun _ h _ => h)).trans (Upd.set (p := ⟨w.heap.size + 1 + 1, 5, none⟩) rfl (.int .u32 0)) (fun _ h _ => h)).trans (Upd.set (p := ⟨w.heap.size + 1 + 1, 6, none⟩) rfl (.int .u32 0)) (fun _ h _ => h)
    exact ⟨by rw [hfd.out]; rfl, ((Upd.of_below hT2).trans (hS.mono (T := fun k => w.heap.size ≤ k) (fun k h _ => by omega)) (fun _ h _ => h)).below (Nat.le_refl _) (fun k h => h)⟩
  · have htab := Lib.hid h2
    have hris := Lib.hid h1.1.2
    rcases Classical.em (MemB R (xf, xg, xb)) with hm | hm
    · obtain ⟨k, hk, hkx⟩ := hm
      have hfd := Lib.hid (findD_yes h1 hk hkx)
      have hkx' := Lib.hid hkx
      obtain ⟨g, off, rfl⟩ := hR.addr hk
      have hk0 : (0 : Int) ≤ (k : Int) := by omega
      have hk1 : (k : Int) < (R.length : Int) := by omega
      clear h1 h2 hkx
      go_enter Try.func18, Try.ntmps18
      go_wp2_with (first | (go_at_call 72; (with_reducible refine (atB_yes _ _ R (xf, xg, xb) k (hR.pure hB0) hris.out hLR hk hkx'.out).mono ?_); rintro e w1 ⟨rfl, hB1⟩; have t1 := t0.pure hB1; have r1 := r0.pure hB1; have hT1 := hT0.trans (hB1.mono hT0.size); have d10 := t1.at 0 rfl; have d11 := t1.at 1 rfl; have e10 := r1.at 0 rfl; have z10 := r1.frozen 0; have e11 := r1.at 1 rfl; have z11 := r1.frozen 1; have e12 := r1.at 2 rfl; have z12 := r1.frozen 2; have e13 := r1.at 3 rfl; have z13 := r1.frozen 3; have e14 := r1.at 4 rfl; have z14 := r1.frozen 4; have e15 := r1.at 5 rfl; have z15 := r1.frozen 5; have e16 := r1.at 6 rfl; have z16 := r1.frozen 6) | (go_at_call 21; (with_reducible refine (tcheck2 _ _ _ R A 0 (hR.pure hT1) (hA.pure hT1) hLR hLA htab.out).mono ?_); rintro e w2 ⟨rfl, hB2⟩; have t2 := t1.pure hB2; have r2 := r1.pure hB2; have hT2 := hT1.trans (hB2.mono hT1.size); have d20 := t2.at 0 rfl; have d21 := t2.at 1 rfl; have e20 := r2.at 0 rfl; have z20 := r2.frozen 0; have e21 := r2.at 1 rfl; have z21 := r2.frozen 1; have e22 := r2.at 2 rfl; have z22 := r2.frozen 2; have e23 := r2.at 3 rfl; have z23 := r2.frozen 3; have e24 := r2.at 4 rfl; have z24 := r2.frozen 4; have e25 := r2.at 5 rfl; have z25 := r2.frozen 5; have e26 := r2.at 6 rfl; have z26 := r2.frozen 6; obtain ⟨q0, q1, q2, q3, q4, q5, q6⟩ := br_cells (hR.pure hT2) hk))
      have rr := ((((((r2.set 0 (.int .u32 R[k].x.1)).set 1 (.string R[k].x.2.1)).set 2 (.string R[k].x.2.2)).set 3 (.int .u8 R[k].st)).set 4 (.int .u8 R[k].why)).set 5 (.int .u32 R[k].tm)).set 6 (.int .u32 R[k].lf)
      have k0 := rr.at 0 rfl; have k1 := rr.at 1 rfl; have k2 := rr.at 2 rfl; have k3 := rr.at 3 rfl; have k4 := rr.at 4 rfl; have k5 := rr.at 5 rfl; have k6 := rr.at 6 rfl
      refine bodyPost_ret (by simp [results, Try.results18, go_sem, k0, k1, k2, k3, k4, k5, k6]; rfl) rfl ?_
      have hS := ((((((Upd.set (S := fun k => w.heap.size + 2 = k) (w := w2) (p := ⟨w.heap.size + 1 + 1, 0, none⟩) rfl (.int .u32 R[k].x.1)).trans (Upd.set (p := ⟨w.heap.size + 1 + 1, 1, none⟩) rfl (.string R[k].x.2.1)) (fun _ h _ => h)).trans (Upd.set (p := ⟨w.heap.size + 1 + 1, 2, none⟩) rfl (.string R[k].x.2.2)) (fun _ h _ => h)).trans (Upd.set (p := ⟨w.heap.size + 1 + 1, 3, none⟩) rfl (.int .u8 R[k].st)) (fun _ h _ => h)).trans (Upd.set (p := ⟨w.heap.size + 1 + 1, 4, none⟩) rfl (.int .u8 R[k].why)) (fun _ h _ => h)).trans (Upd.set (p := ⟨w.heap.size + 1 + 1, 5, none⟩) rfl (.int .u32 R[k].tm)) (fun _ h _ => h)).trans (Upd.set (p := ⟨w.heap.size + 1 + 1, 6, none⟩) rfl (.int .u32 R[k].lf)) (fun _ h _ => h)
      exact ⟨by rw [hfd.out]; rfl, ((Upd.of_below hT2).trans (hS.mono (T := fun k => w.heap.size ≤ k) (fun k h _ => by omega)) (fun _ h _ => h)).below (Nat.le_refl _) (fun k h => h)⟩
    · have hfd := Lib.hid (findD_no (A := A) hm)
      have hm' := Lib.hid hm
      clear h1 h2 hm
      go_enter Try.func18, Try.ntmps18
      go_wp2_with (first | (go_at_call 72; (with_reducible refine (atB_no _ _ R (xf, xg, xb) (hR.pure hB0) hris.out hLR hm'.out).mono ?_); rintro e w1 ⟨i, -, rfl, hB1⟩; have t1 := t0.pure hB1; have r1 := r0.pure hB1; have hT1 := hT0.trans (hB1.mono hT0.size); have d10 := t1.at 0 rfl; have d11 := t1.at 1 rfl; have e10 := r1.at 0 rfl; have z10 := r1.frozen 0; have e11 := r1.at 1 rfl; have z11 := r1.frozen 1; have e12 := r1.at 2 rfl; have z12 := r1.frozen 2; have e13 := r1.at 3 rfl; have z13 := r1.frozen 3; have e14 := r1.at 4 rfl; have z14 := r1.frozen 4; have e15 := r1.at 5 rfl; have z15 := r1.frozen 5; have e16 := r1.at 6 rfl; have z16 := r1.frozen 6) | (go_at_call 21; (with_reducible refine (tcheck2 _ _ _ R A 0 (hR.pure hT1) (hA.pure hT1) hLR hLA htab.out).mono ?_); rintro e w2 ⟨rfl, hB2⟩; have t2 := t1.pure hB2; have r2 := r1.pure hB2; have hT2 := hT1.trans (hB2.mono hT1.size); have d20 := t2.at 0 rfl; have d21 := t2.at 1 rfl; have e20 := r2.at 0 rfl; have z20 := r2.frozen 0; have e21 := r2.at 1 rfl; have z21 := r2.frozen 1; have e22 := r2.at 2 rfl; have z22 := r2.frozen 2; have e23 := r2.at 3 rfl; have z23 := r2.frozen 3; have e24 := r2.at 4 rfl; have z24 := r2.frozen 4; have e25 := r2.at 5 rfl; have z25 := r2.frozen 5; have e26 := r2.at 6 rfl; have z26 := r2.frozen 6))
      have rr := ((((((r2.set 0 (.int .u32 0)).set 1 (.string ⟨#[]⟩)).set 2 (.string ⟨#[]⟩)).set 3 (.int .u8 0)).set 4 (.int .u8 0)).set 5 (.int .u32 0)).set 6 (.int .u32 0)
      have k0 := rr.at 0 rfl; have k1 := rr.at 1 rfl; have k2 := rr.at 2 rfl; have k3 := rr.at 3 rfl; have k4 := rr.at 4 rfl; have k5 := rr.at 5 rfl; have k6 := rr.at 6 rfl
      refine bodyPost_ret (by simp [results, Try.results18, go_sem, k0, k1, k2, k3, k4, k5, k6]; rfl) rfl ?_
      have hS := ((((((Upd.set (S := fun k => w.heap.size + 2 = k) (w := w2) (p := ⟨w.heap.size + 1 + 1, 0, none⟩) rfl (.int .u32 0)).trans (Upd.set (p := ⟨w.heap.size + 1 + 1, 1, none⟩) rfl (.string ⟨#[]⟩)) (fun _ h _ => h)).trans (Upd.set (p := ⟨w.heap.size + 1 + 1, 2, none⟩) rfl (.string ⟨#[]⟩)) (fun _ h _ => h)).trans (Upd.set (p := ⟨w.heap.size + 1 + 1, 3, none⟩) rfl (.int .u8 0)) (fun _ h _ => h)).trans (Upd.set (p := ⟨w.heap.size + 1 + 1, 4, none⟩) rfl (.int .u8 0)) (fun _ h _ => h)).trans (Upd.set (p := ⟨w.heap.size + 1 + 1, 5, none⟩) rfl (.int .u32 0)) (fun _ h _ => h)).trans (Upd.set (p := ⟨w.heap.size + 1 + 1, 6, none⟩) rfl (.int .u32 0)) (fun _ h _ => h)
      exact ⟨by rw [hfd.out]; rfl, ((Upd.of_below hT2).trans (hS.mono (T := fun k => w.heap.size ≤ k) (fun k h _ => by omega)) (fun _ h _ => h)).below (Nat.le_refl _) (fun k h => h)⟩

theorem info_xid : (Try.prog.info? 28).map (fun i => (i.zero, i.size, i.bytes)) = some (some (.agg #[.int .u32 0, .string ⟨#[]⟩, .string ⟨#[]⟩]), 3, 40) := by kernel_rfl
theorem elem_xid : ElemT Try.prog 52 28 3 40 := ElemT.mk' Try.underlying52 info_xid rfl (by omega)
def xEnc (x : Xid) : List Value := [.int .u32 x.1, .string x.2.1, .string x.2.2]
theorem xEnc_len (x : Xid) : (xEnc x).length = 3 := rfl
theorem xEnc_one (x : Xid) : ∀ u ∈ xEnc x, u.oneCell' = true := by simp [xEnc, Value.oneCell']
def held (R : List Brn) : List Xid := (R.filter (fun b => b.st != 1)).map Brn.x
theorem held_snoc {R : List Brn} {k : Nat} (h : k < R.length) : held (R.take (k + 1)) = held (R.take k) ++ (if (R[k].st != 1) = true then [R[k].x] else []) := by
  unfold held
  rw [takeB_snoc R h, List.filter_append, List.map_append]
  congr 1
  cases hc : (R[k].st != 1) <;> simp [hc]
noncomputable def recD (R : List Brn) (A : List Asc) : List Xid := @ite _ (TabOk R A) (Classical.propDecidable _) (held R) []

set_option maxRecDepth 100000 in
set_option maxHeartbeats 3200000 in
theorem recover_fn (w : World) (rv av : Value) (R : List Brn) (A : List Asc) (hR : Slc brEnc 7 w rv R) (hA : Slc ascEnc 5 w av A) (hLR : R.length ≤ 1000000) (hLA : A.length ≤ 1000000) :
    Calls Try.prog 23 #[.agg #[rv, av]] w fun e w' => ∃ r, e = .returned r ∧ Own w.heap.size 28 3 xEnc w' r (recD R A) ∧ Below w.heap.size w w' := by
  obtain ⟨ra, rc, rfl, hm1⟩ := hR.len
  obtain ⟨aa, ac, rfl, hm2⟩ := hA.len
  unfold maxLen at hm1 hm2
  have t0 := Blk.new w [.slice ra R.length rc, .slice aa A.length ac] 25
  have hB0 := (Below.refl w.heap.size w).alloc (Nat.le_refl _) (.cells #[.slice ra R.length rc, .slice aa A.length ac] 25)
  have c0 := t0.at 0 rfl; have c1 := t0.at 1 rfl
  have hz0 : w.heap.size < (w.alloc (.cells #[.slice ra R.length rc, .slice aa A.length ac] 25)).heap.size := by simp
  rcases tabE_cases R A with ⟨h1, h2⟩ | ⟨h1, h2⟩
  rotate_left 1
  · have htab := Lib.hid h2
    have hr : Hid (recD R A = []) := Lib.hid (by unfold recD; rw [if_neg h1])
    clear h1 h2
    go_enter Try.func23, Try.ntmps23
    go_wp2_with (first | (go_at_call 21; (with_reducible refine (tcheck2 _ _ _ R A 190 (hR.pure hB0) (hA.pure hB0) hLR hLA htab.out).mono ?_); rintro e w1 ⟨rfl, hB1⟩; have hT1 := hB0.trans (hB1.mono hB0.size)))
    go_ret
    exact ⟨_, rfl, by rw [hr.out]; exact Own.nil, hT1⟩
  have htab := Lib.hid h2
  have hr : Hid (recD R A = held R) := Lib.hid (by unfold recD; rw [if_pos h1])
  clear h1 h2
  go_enter Try.func23, Try.ntmps23
  go_wp2_with (first | (go_at_call 21; (with_reducible refine (tcheck2 _ _ _ R A 0 (hR.pure hB0) (hA.pure hB0) hLR hLA htab.out).mono ?_); rintro e w1 ⟨rfl, hB1⟩; have t1 := t0.pure hB1; have hT1 := hB0.trans (hB1.mono hB0.size); have c2 := t1.at 0 rfl; have c3 := t1.at 1 rfl))
  clear c0 c1 c2 c3
  go_loopw [3, 12] (fun s3 s12 wr => ∃ k : Nat, k ≤ R.length ∧ s12 = .int .i64 k ∧ Own w.heap.size 28 3 xEnc wr s3 (held (R.take k)) ∧ Below w.heap.size w wr) (fun _ s12 _ => R.length - (intOf s12).toNat)
  case atStart => exact ⟨0, by omega, rfl, Own.nil, hT1⟩
  case round =>
    obtain ⟨k, hk, rfl, hO, hB⟩ := hrel
    have hBs := hB.size
    by_cases hlt : k < R.length
    · have hsr := hR.pure hB
      obtain ⟨g, off, rfl⟩ := hsr.addr hlt
      obtain ⟨d0, d1, d2, d3, d4, d5, d6⟩ := br_cells hsr hlt
      have hll : (held (R.take k)).length ≤ k := by unfold held; rw [List.length_map]; exact Nat.le_trans (List.length_filter_le _ _) (by rw [List.length_take]; omega)
      have hkeq := Lib.hid (held_snoc hlt)
      obtain ⟨x, hx⟩ : ∃ x, x = R[k] := ⟨_, rfl⟩
      rw [← hx] at d0 d1 d2 d3 d4 d5 d6 hkeq
      clear hx
      obtain ⟨⟨xf, xg, xb⟩, st, why, tm, lf⟩ := x
      simp only at d0 d1 d2 d3 d4 d5 d6 hkeq
      have b0 : Blk (wr.alloc (.cells #[.int .u32 xf, .string xg, .string xb, .int .u8 st, .int .u8 why, .int .u32 tm, .int .u32 lf] 44)) wr.heap.size [.int .u32 xf, .string xg, .string xb, .int .u8 st, .int .u8 why, .int .u32 tm, .int .u32 lf] := Blk.new wr _ 44
      have hBb := hB.alloc hBs (.cells #[.int .u32 xf, .string xg, .string xb, .int .u8 st, .int .u8 why, .int .u32 tm, .int .u32 lf] 44)
      have hOb := hO.alloc (.cells #[.int .u32 xf, .string xg, .string xb, .int .u8 st, .int .u8 why, .int .u32 tm, .int .u32 lf] 44)
      have f0 := b0.at 0 rfl; have f1 := b0.at 1 rfl; have f2 := b0.at 2 rfl; have f3 := b0.at 3 rfl
      cases hq : (st != 1)
      · have hnew := Lib.hid (show held (R.take (k + 1)) = held (R.take k) by rw [hkeq.out, hq]; simp)
        go_wp2
        go_roundw
        case rel => exact ⟨k + 1, by omega, by go_num, by rw [hnew.out]; exact hOb, hBb⟩
        case measure => simp [intOf]; omega
      · have hnew := Lib.hid (show held (R.take (k + 1)) = held (R.take k) ++ [(xf, xg, xb)] by rw [hkeq.out, hq]; simp)
        have hB2s := hBb.size
        go_wp2_with (first | (at_builtin; refine wpList_app1 rfl (.tmp 19) (.tmp 22) 52 28 rfl elem_xid xEnc_len xEnc_one u3 _ rfl (hOb.alloc _) (wr.heap.size + 1) 1 (xf, xg, xb) rfl (fun j u hu => ((Blk.newAt2 (wr.alloc (.cells #[.int .u32 xf, .string xg, .string xb, .int .u8 st, .int .u8 why, .int .u32 tm, .int .u32 lf] 44)) (xEnc (xf, xg, xb)) 28 (wr.heap.size + 1) (by simp)).cell j).trans hu) (by omega) (by unfold maxLen; omega) (by simp; omega) ?_; intro g' cap' w4 hown hgr hfr))
        go_roundw
        case rel => exact ⟨k + 1, by omega, by go_num, by rw [hnew.out]; exact hown, (hBb.alloc hB2s _).grown hgr (by simp; omega) (fun j e => hO.ge e)⟩
        case measure => simp [intOf]; omega
    · obtain rfl : k = R.length := by omega
      rw [List.take_length] at hO
      go_wp2
      go_ret
      exact ⟨_, rfl, by rw [hr.out]; exact hO, hB⟩
end Go.Proofs.Ytcelpincmpjhkaa
