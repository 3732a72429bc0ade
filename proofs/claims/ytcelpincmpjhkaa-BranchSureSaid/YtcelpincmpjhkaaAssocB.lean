/- Associations: the search in a row that rises. Conditions: the row rises; at most a million. -/
import Derived.Test.YtcelpincmpjhkaaAssocA
import Derived.Deep.QuietTactic
import Derived.BigQuiet
namespace Go.Proofs.Ytcelpincmpjhkaa
open Go.RowKit
set_option linter.unusedVariables false

abbrev Rises (L : List Asc) : Prop := L.Pairwise (fun a b => cmpA a b < 0)
/-- The place of t in a row that rises. -/
def PlaceA (L : List Asc) (t : Asc) (i : Nat) : Prop := i ≤ L.length ∧ (∀ j, (h : j < L.length) → j < i → cmpA L[j] t < 0) ∧ ∀ j, (h : j < L.length) → i ≤ j → 0 ≤ cmpA L[j] t
theorem cmpA_ok : IsCmp (fun a b : Int × Xid => keyC a b) := keyC_ok
theorem cmpA_anti (a b : Asc) : cmpA b a = - cmpA a b := keyC_ok.anti _ _
theorem cmpA_lt_le {a b d : Asc} (h1 : cmpA a b < 0) (h2 : cmpA b d ≤ 0) : cmpA a d < 0 := keyC_ok.lt_le h1 h2
theorem cmpA_le_lt {a b d : Asc} (h1 : cmpA a b ≤ 0) (h2 : cmpA b d < 0) : cmpA a d < 0 := keyC_ok.le_lt h1 h2
theorem cmpA_zero {a b : Asc} : cmpA a b = 0 ↔ keyA a = keyA b := keyC_ok.eq _ _
theorem rises_le {L : List Asc} (hL : Rises L) {i j : Nat} (hi : i < L.length) (hj : j < L.length) (h : i ≤ j) : cmpA L[i] L[j] ≤ 0 := by
  rcases Nat.lt_or_eq_of_le h with h | h
  · exact Int.le_of_lt (List.pairwise_iff_getElem.1 hL i j hi hj h)
  · subst h; exact Int.le_of_eq (keyC_ok.refl _)
theorem asc_cells {w : World} {g off n cap k : Nat} {L : List Asc} (h : Slc ascEnc 5 w (.slice (some ⟨g, off, none⟩) n cap) L) (hk : k < L.length) :
    w.cell? ⟨g, off + k * 5, none⟩ = some (.int .u64 L[k].1) ∧ w.cell? ⟨g, off + k * 5 + 1, none⟩ = some (.int .u32 L[k].2.1.1) ∧ w.cell? ⟨g, off + k * 5 + 2, none⟩ = some (.string L[k].2.1.2.1) ∧ w.cell? ⟨g, off + k * 5 + 3, none⟩ = some (.string L[k].2.1.2.2) ∧ w.cell? ⟨g, off + k * 5 + 4, none⟩ = some (.bool L[k].2.2) :=
  ⟨h.get k hk 0 _ rfl, h.get k hk 1 _ rfl, h.get k hk 2 _ rfl, h.get k hk 3 _ rfl, h.get k hk 4 _ rfl⟩
theorem Slc.addr {α : Type} {enc : α → List Value} {m : Nat} {w : World} {a : Option Addr} {n cap : Nat} {L : List α} (h : Slc enc m w (.slice a n cap) L) {k : Nat} (hk : k < L.length) : ∃ g off, a = some ⟨g, off, none⟩ := by
  rcases h with ⟨_, _, _, _, h0⟩ | ⟨g, off, cap', hv, _⟩
  · rw [h0] at hk; simp at hk
  · simp only [Value.slice.injEq] at hv; exact ⟨g, off, hv.1⟩

/-- What the search answers. -/
def BinPost (w : World) (L : List Asc) (t : Asc) (e : Ending) (w' : World) : Prop :=
  ∃ i : Nat, PlaceA L t i ∧ e = .returned (.tuple #[.int .i64 i, .bool (decide (∃ h : i < L.length, cmpA L[i] t = 0))]) ∧ Below w.heap.size w w'

set_option maxRecDepth 100000 in
set_option maxHeartbeats 1600000 in
theorem bin_any (w : World) (v : Value) (L : List Asc) (t : Asc) (hs : Slc ascEnc 5 w v L) (hr : Rises L) (hL : L.length ≤ 1000000) :
    Calls Try.prog 123 #[v, .agg #[.int .u64 t.1, .int .u32 t.2.1.1, .string t.2.1.2.1, .string t.2.1.2.2, .bool t.2.2], .func (.func 115) #[] #[]] w (BinPost w L t) := by
  obtain ⟨a, cap, rfl, hm⟩ := hs.len
  unfold maxLen at hm
  have hr' := Lib.hid hr; clear hr
  have hb0 := Blk.new w (ascEnc t) 57
  have hB0 := (Below.refl w.heap.size w).alloc (Nat.le_refl _) (.cells (ascEnc t).toArray 57)
  have hsz0 : w.heap.size < (w.alloc (.cells (ascEnc t).toArray 57)).heap.size := by simp
  obtain ⟨W0, hW0⟩ : ∃ W0, W0 = w.alloc (.cells #[.int .u64 t.1, .int .u32 t.2.1.1, .string t.2.1.2.1, .string t.2.1.2.2, .bool t.2.2] 57) := ⟨_, rfl⟩
  have hb1 : Blk W0 w.heap.size (ascEnc t) := by rw [hW0]; exact hb0
  have hB1 : Below w.heap.size w W0 := by rw [hW0]; exact hB0
  have hz1 : w.heap.size < W0.heap.size := by rw [hW0]; exact hsz0
  clear hb0 hB0 hsz0
  go_enter Try.func123, Try.ntmps123
  go_wp2
  rw [← hW0]
  clear hW0
  go_loopw [9, 10] (fun s9 s10 wr => ∃ lo hi : Nat, lo ≤ hi ∧ hi ≤ L.length ∧ s9 = .int .i64 lo ∧ s10 = .int .i64 hi ∧ (∀ j, (h : j < L.length) → j < lo → cmpA L[j] t < 0) ∧ (∀ j, (h : j < L.length) → hi ≤ j → 0 ≤ cmpA L[j] t) ∧ Below W0.heap.size W0 wr) (fun s9 s10 _ => (intOf s10 - intOf s9).toNat)
  case atStart => exact ⟨0, L.length, by omega, by omega, rfl, rfl, fun j h h' => absurd h' (by omega), fun j h h' => absurd h' (by omega), Below.refl _ _⟩
  case round =>
    obtain ⟨lo, hi, hlh, hhl, rfl, rfl, k1, k2, hB⟩ := hrel
    have k1' := Lib.hid k1; clear k1
    have k2' := Lib.hid k2; clear k2
    have hBw := hB1.trans (hB.mono hB1.size)
    have hsr := hs.pure hBw
    have hbr := hb1.below hB hz1
    have e0 := hbr.cell 0
    have e1 := hbr.cell 1
    have e2 := hbr.cell 2
    have e3 := hbr.cell 3
    have e4 := hbr.cell 4
    by_cases hlt : lo < hi
    · obtain ⟨mid, hmid⟩ : ∃ mid, mid = (lo + hi) / 2 := ⟨_, rfl⟩
      have hmd : (lo + hi) / 2 < L.length := by omega
      obtain ⟨g, off, rfl⟩ := hsr.addr hmd
      obtain ⟨c0, c1, c2, c3, c4⟩ := asc_cells hsr hmd
      have hgl := World.block_lt_of_cell? _ _ c0
      have hbl := hbr.lt
      have hmi : (0 : Int) ≤ ((lo + hi) / 2 : Nat) := by omega
      have hmi2 : (((lo + hi) / 2 : Nat) : Int) < (L.length : Int) := by omega
      have hmi3 : (0 : Int) ≤ ((lo : Int) + (hi : Int)) / 2 := by omega
      have hmi4 : ((lo : Int) + (hi : Int)) / 2 < (L.length : Int) := by omega
      clear hmid
      have htn : (((lo : Int) + (hi : Int)) / 2).toNat = (lo + hi) / 2 := by omega
      obtain ⟨cc, hcc⟩ : ∃ cc, cmpA L[(lo + hi) / 2] t = cc := ⟨_, rfl⟩
      have hcc' := Lib.hid hcc
      clear hcc
      by_cases hq : cc < 0
      · have hlow : ∀ j, (h : j < L.length) → j < (lo + hi) / 2 + 1 → cmpA L[j] t < 0 := fun j h h' => cmpA_le_lt (rises_le hr'.out h hmd (by omega)) (by rw [hcc'.out]; exact hq)
        have hlow' := Lib.hid hlow; clear hlow
        go_wp2
        go_region_held3 (fun w' => w'.cell? ⟨g, off + ((lo + hi) / 2) * 5, none⟩ = some (.int .u64 L[((lo + hi) / 2)].1) ∧ w'.cell? ⟨g, off + ((lo + hi) / 2) * 5 + 1, none⟩ = some (.int .u32 L[((lo + hi) / 2)].2.1.1) ∧ w'.cell? ⟨g, off + ((lo + hi) / 2) * 5 + 2, none⟩ = some (.string L[((lo + hi) / 2)].2.1.2.1) ∧ w'.cell? ⟨g, off + ((lo + hi) / 2) * 5 + 3, none⟩ = some (.string L[((lo + hi) / 2)].2.1.2.2) ∧ w'.cell? ⟨g, off + ((lo + hi) / 2) * 5 + 4, none⟩ = some (.bool L[((lo + hi) / 2)].2.2) ∧ w'.cell? ⟨w.heap.size, 0, none⟩ = some (.int .u64 t.1) ∧ w'.cell? ⟨w.heap.size, 1, none⟩ = some (.int .u32 t.2.1.1) ∧ w'.cell? ⟨w.heap.size, 2, none⟩ = some (.string t.2.1.2.1) ∧ w'.cell? ⟨w.heap.size, 3, none⟩ = some (.string t.2.1.2.2) ∧ w'.cell? ⟨w.heap.size, 4, none⟩ = some (.bool t.2.2)) (first | exact ⟨c0, c1, c2, c3, c4, e0, e1, e2, e3, e4⟩ | exact ⟨d0, d1, d2, d3, d4, f0, f1, f2, f3, f4⟩)
        (first | (go_at_call 115; refine (assoc_compare _ L[(lo + hi) / 2] t).mono ?_; rw [hcc'.out]; rintro e w1 ⟨rfl, hB2⟩; obtain ⟨d0, d1, d2, d3, d4⟩ := asc_cells (hsr.drew.pure hB2) hmd; have hb2 := hbr.drew.pure hB2; have f0 := hb2.cell 0; have f1 := hb2.cell 1; have f2 := hb2.cell 2; have f3 := hb2.cell 3; have f4 := hb2.cell 4; have hB3 := (below_dr hB).trans (hB2.mono hB.size); clear c0 c1 c2 c3 c4 e0 e1 e2 e3 e4))
        go_wp2
        go_roundw
        case rel => exact ⟨(lo + hi) / 2 + 1, hi, by omega, by omega, by go_num, rfl, hlow'.out, k2'.out, hB3⟩
        case measure => simp [intOf]; omega
      · have hhigh : ∀ j, (h : j < L.length) → (lo + hi) / 2 ≤ j → 0 ≤ cmpA L[j] t := fun j h h' => by
          by_cases h1 : cmpA L[j] t < 0
          · have := cmpA_le_lt (rises_le hr'.out hmd h h') h1
            rw [hcc'.out] at this
            exact absurd this hq
          · omega
        have hhigh' := Lib.hid hhigh; clear hhigh
        go_wp2
        go_region_held3 (fun w' => w'.cell? ⟨g, off + ((lo + hi) / 2) * 5, none⟩ = some (.int .u64 L[((lo + hi) / 2)].1) ∧ w'.cell? ⟨g, off + ((lo + hi) / 2) * 5 + 1, none⟩ = some (.int .u32 L[((lo + hi) / 2)].2.1.1) ∧ w'.cell? ⟨g, off + ((lo + hi) / 2) * 5 + 2, none⟩ = some (.string L[((lo + hi) / 2)].2.1.2.1) ∧ w'.cell? ⟨g, off + ((lo + hi) / 2) * 5 + 3, none⟩ = some (.string L[((lo + hi) / 2)].2.1.2.2) ∧ w'.cell? ⟨g, off + ((lo + hi) / 2) * 5 + 4, none⟩ = some (.bool L[((lo + hi) / 2)].2.2) ∧ w'.cell? ⟨w.heap.size, 0, none⟩ = some (.int .u64 t.1) ∧ w'.cell? ⟨w.heap.size, 1, none⟩ = some (.int .u32 t.2.1.1) ∧ w'.cell? ⟨w.heap.size, 2, none⟩ = some (.string t.2.1.2.1) ∧ w'.cell? ⟨w.heap.size, 3, none⟩ = some (.string t.2.1.2.2) ∧ w'.cell? ⟨w.heap.size, 4, none⟩ = some (.bool t.2.2)) (first | exact ⟨c0, c1, c2, c3, c4, e0, e1, e2, e3, e4⟩ | exact ⟨d0, d1, d2, d3, d4, f0, f1, f2, f3, f4⟩)
        (first | (go_at_call 115; refine (assoc_compare _ L[(lo + hi) / 2] t).mono ?_; rw [hcc'.out]; rintro e w1 ⟨rfl, hB2⟩; obtain ⟨d0, d1, d2, d3, d4⟩ := asc_cells (hsr.drew.pure hB2) hmd; have hb2 := hbr.drew.pure hB2; have f0 := hb2.cell 0; have f1 := hb2.cell 1; have f2 := hb2.cell 2; have f3 := hb2.cell 3; have f4 := hb2.cell 4; have hB3 := (below_dr hB).trans (hB2.mono hB.size); clear c0 c1 c2 c3 c4 e0 e1 e2 e3 e4))
        go_wp2
        go_roundw
        case rel => exact ⟨lo, (lo + hi) / 2, by omega, by omega, rfl, rfl, k1'.out, hhigh'.out, hB3⟩
        case measure => simp [intOf]; omega
    · obtain rfl : lo = hi := by omega
      have hp : PlaceA L t lo := ⟨hhl, k1'.out, k2'.out⟩
      have hp' := Lib.hid hp; clear hp hlh
      by_cases hll : lo < L.length
      · obtain ⟨g, off, rfl⟩ := hsr.addr hll
        obtain ⟨c0, c1, c2, c3, c4⟩ := asc_cells hsr hll
        have hmi : (0 : Int) ≤ (lo : Int) := by omega
        have hmi2 : (lo : Int) < (L.length : Int) := by omega
        obtain ⟨cc, hcc⟩ : ∃ cc, cmpA L[lo] t = cc := ⟨_, rfl⟩
        have hfd : decide (∃ h : lo < L.length, cmpA L[lo] t = 0) = decide (cc = 0) := by
          rw [← hcc]; exact decide_eq_decide.2 ⟨fun h => h.2, fun h => ⟨hll, h⟩⟩
        have hcc' := Lib.hid hcc
        have hfd' := Lib.hid hfd
        clear hcc hfd
        go_wp2
        go_region_held3 (fun w' => w'.cell? ⟨g, off + lo * 5, none⟩ = some (.int .u64 L[lo].1) ∧ w'.cell? ⟨g, off + lo * 5 + 1, none⟩ = some (.int .u32 L[lo].2.1.1) ∧ w'.cell? ⟨g, off + lo * 5 + 2, none⟩ = some (.string L[lo].2.1.2.1) ∧ w'.cell? ⟨g, off + lo * 5 + 3, none⟩ = some (.string L[lo].2.1.2.2) ∧ w'.cell? ⟨g, off + lo * 5 + 4, none⟩ = some (.bool L[lo].2.2) ∧ w'.cell? ⟨w.heap.size, 0, none⟩ = some (.int .u64 t.1) ∧ w'.cell? ⟨w.heap.size, 1, none⟩ = some (.int .u32 t.2.1.1) ∧ w'.cell? ⟨w.heap.size, 2, none⟩ = some (.string t.2.1.2.1) ∧ w'.cell? ⟨w.heap.size, 3, none⟩ = some (.string t.2.1.2.2) ∧ w'.cell? ⟨w.heap.size, 4, none⟩ = some (.bool t.2.2)) (first | exact ⟨c0, c1, c2, c3, c4, e0, e1, e2, e3, e4⟩ | exact ⟨d0, d1, d2, d3, d4, f0, f1, f2, f3, f4⟩)
        (first | (go_at_call 115; refine (assoc_compare _ L[lo] t).mono ?_; rw [hcc'.out]; rintro e w1 ⟨rfl, hB2⟩; obtain ⟨d0, d1, d2, d3, d4⟩ := asc_cells (hsr.drew.pure hB2) hll; have hb2 := hbr.drew.pure hB2; have f0 := hb2.cell 0; have f1 := hb2.cell 1; have f2 := hb2.cell 2; have f3 := hb2.cell 3; have f4 := hb2.cell 4; have hB3 := (below_dr hB).trans (hB2.mono hB.size); clear c0 c1 c2 c3 c4 e0 e1 e2 e3 e4))
        go_wp2
        go_ret2
        exact ⟨lo, hp'.out, by rw [hfd'.out]; rfl, hB1.trans (hB3.mono hB1.size)⟩
      · have hfd : decide (∃ h : lo < L.length, cmpA L[lo] t = 0) = false := decide_eq_false (fun h => hll h.1)
        have hfd' := Lib.hid hfd
        clear hfd
        go_wp2
        go_quiet (fail)
        go_wp2
        go_ret2
        exact ⟨lo, hp'.out, by rw [hfd'.out]; rfl, below_drewN hBw _⟩
end Go.Proofs.Ytcelpincmpjhkaa
