/- Chapter 18: how the laws' arguments are opened. Conditions: none. (Texts joined; the heads of the others stand below.) -/
import Derived.Test.YtcelpincmpjhkaaGB
import Derived.Test.YtcelpincmpjhkaaGA
import Derived.Test.YtcelpincmpjhkaaProg
import Derived.Deep.RegionHeld3
import Derived.Lib.Bytealg
import Derived.Laws.Externs
import Derived.Deep.QuietTactic
import Derived.BigQuiet
import Derived.ProofKit
import Derived.OpenShut

/- Names of branches and associations: how they lie in memory; package cmp's and xid's comparisons. Conditions: none. -/
namespace Go.Proofs.Ytcelpincmpjhkaa
set_option linter.unusedSimpArgs false
set_option linter.unusedVariables false
open Go.RowKit

theorem nan64 (w : World) (x : Int) : Calls Try.prog 135 #[.int .u64 x] w fun e w' => e = .returned (.bool false) ∧ w = w' := by
  go_enter Try.func135, Try.ntmps135
  go_wp2
  go_ret
  exact ⟨by simp, rfl⟩
theorem nan32 (w : World) (x : Int) : Calls Try.prog 126 #[.int .u32 x] w fun e w' => e = .returned (.bool false) ∧ w = w' := by
  go_enter Try.func126, Try.ntmps126
  go_wp2
  go_ret
  exact ⟨by simp, rfl⟩

theorem cmp64 (w : World) (a b : Int) : Calls Try.prog 128 #[.int .u64 a, .int .u64 b] w fun e w' => e = .returned (.int .i64 (cmpI a b)) ∧ w = w' := by
  unfold cmpI
  by_cases h1 : a < b
  · rw [if_pos h1]
    go_enter Try.func128, Try.ntmps128
    go_wp2_with (first | (go_at_call 135; refine (nan64 _ _).mono ?_; rintro e w' ⟨rfl, rfl⟩))
    go_ret
    exact ⟨rfl, rfl⟩
  · rw [if_neg h1]
    by_cases h2 : b < a
    · rw [if_pos h2]
      go_enter Try.func128, Try.ntmps128
      go_wp2_with (first | (go_at_call 135; refine (nan64 _ _).mono ?_; rintro e w' ⟨rfl, rfl⟩))
      go_ret
      exact ⟨rfl, rfl⟩
    · rw [if_neg h2]
      go_enter Try.func128, Try.ntmps128
      go_wp2_with (first | (go_at_call 135; refine (nan64 _ _).mono ?_; rintro e w' ⟨rfl, rfl⟩))
      go_ret
      exact ⟨rfl, rfl⟩
theorem cmp32 (w : World) (a b : Int) : Calls Try.prog 113 #[.int .u32 a, .int .u32 b] w fun e w' => e = .returned (.int .i64 (cmpI a b)) ∧ w = w' := by
  unfold cmpI
  by_cases h1 : a < b
  · rw [if_pos h1]
    go_enter Try.func113, Try.ntmps113
    go_wp2_with (first | (go_at_call 126; refine (nan32 _ _).mono ?_; rintro e w' ⟨rfl, rfl⟩))
    go_ret
    exact ⟨rfl, rfl⟩
  · rw [if_neg h1]
    by_cases h2 : b < a
    · rw [if_pos h2]
      go_enter Try.func113, Try.ntmps113
      go_wp2_with (first | (go_at_call 126; refine (nan32 _ _).mono ?_; rintro e w' ⟨rfl, rfl⟩))
      go_ret
      exact ⟨rfl, rfl⟩
    · rw [if_neg h2]
      go_enter Try.func113, Try.ntmps113
      go_wp2_with (first | (go_at_call 126; refine (nan32 _ _).mono ?_; rintro e w' ⟨rfl, rfl⟩))
      go_ret
      exact ⟨rfl, rfl⟩

set_option maxRecDepth 100000 in
theorem cmp_str0 (w : World) (a b : ByteArray) : Calls Try.prog 127 #[.string a, .string b] w fun e w' => e = .returned (.int .i64 (cmpB a b)) ∧ w = w' := by
  go_enter Try.func127, Try.ntmps127
  go_wp2
  rw [run_callFunc_extern Try.func134 (by kernel_rfl) (by kernel_rfl) (by kernel_rfl) (e := Extern.BytealgCompare.compare) (by kernel_rfl), Lib.run_compareString]
  simp only [Result.andThen]
  rw [Oper.upon_value]
  go_wp2
  go_ret
  exact ⟨rfl, rfl⟩
theorem cmp_str (w : World) (a b : ByteArray) : Calls Try.prog 114 #[.string a, .string b] w fun e w' => e = .returned (.int .i64 (cmpB a b)) ∧ w = w' := by
  go_enter Try.func114, Try.ntmps114
  go_wp2_with (go_at_call 127; refine (cmp_str0 _ _ _).mono ?_; rintro e w' ⟨rfl, rfl⟩)
  go_ret
  exact ⟨rfl, rfl⟩

set_option maxHeartbeats 800000 in
theorem or_any (w : World) (v : Value) (L : List Int) (hs : Slc (intEnc .i64) 1 w v L) : Calls Try.prog 112 #[v] w fun e w' => e = .returned (.int .i64 (orI L)) ∧ w = w' := by
  obtain ⟨a, cap, rfl, hm⟩ := hs.len
  unfold maxLen at hm
  go_enter Try.func112, Try.ntmps112
  go_wp2
  go_loop [8] (fun s8 => ∃ k : Nat, k ≤ L.length ∧ s8 = .int .i64 k ∧ ∀ j, (hj : j < L.length) → j < k → L[j] = 0) (fun s8 => L.length - (intOf s8).toNat)
  case atStart => exact ⟨0, by omega, rfl, fun j hj h => by omega⟩
  case round =>
    obtain ⟨k, hk, rfl, hz⟩ := hrel
    have hz' := Lib.hid hz; clear hz
    by_cases hlt : k < L.length
    · obtain ⟨g, off, rfl, c0⟩ := hs.load k hlt
      by_cases hq : L[k] = 0
      · have hqb : (L[k] != 0) = false := by rw [hq]; rfl
        have hq' := Lib.hid hq; clear hq
        go_wp2
        go_round
        case rel => exact ⟨k + 1, by omega, by go_num, fun j hj hjk => by
          rcases Nat.lt_or_ge j k with h | h
          · exact hz'.out j hj h
          · have : j = k := by omega
            subst this; exact hq'.out⟩
        case measure => simp [intOf]; omega
      · have hqb : (L[k] != 0) = true := by simpa using hq
        have hq' := Lib.hid hq; clear hq
        go_wp2
        go_ret
        exact ⟨by rw [orI_take hlt (fun j hj => hz'.out j (by omega) hj), if_pos hq'.out]; rfl, rfl⟩
    · obtain rfl : k = L.length := by omega
      go_wp2
      go_ret
      exact ⟨by rw [orI_zero (fun j hj => hz'.out j hj hj)]; rfl, rfl⟩

/-! ### names -/
def xidCells (x : Xid) : List Value := [.int .u32 x.1, .string x.2.1, .string x.2.2]
theorem or_two {w : World} {g : Nat} {a b : Int} (h0 : w.cell? ⟨g, 0, none⟩ = some (.int .i64 a)) (h1 : w.cell? ⟨g, 1, none⟩ = some (.int .i64 b)) :
    Calls Try.prog 112 #[.slice (some ⟨g, 0, none⟩) 2 2] w fun e w' => e = .returned (.int .i64 (orI [a, b])) ∧ w = w' :=
  or_any w _ [a, b] (.inr ⟨g, 0, 2, rfl, by simp, by unfold maxLen; omega, fun i hi j u hu => by
    match i, hi with
    | 0, _ => match j with
      | 0 => exact h0.trans hu
      | j + 1 => simp [intEnc] at hu
    | 1, _ => match j with
      | 0 => exact h1.trans hu
      | j + 1 => simp [intEnc] at hu⟩)
theorem or_three {w : World} {g : Nat} {a b c : Int} (h0 : w.cell? ⟨g, 0, none⟩ = some (.int .i64 a)) (h1 : w.cell? ⟨g, 1, none⟩ = some (.int .i64 b)) (h2 : w.cell? ⟨g, 2, none⟩ = some (.int .i64 c)) :
    Calls Try.prog 112 #[.slice (some ⟨g, 0, none⟩) 3 3] w fun e w' => e = .returned (.int .i64 (orI [a, b, c])) ∧ w = w' :=
  or_any w _ [a, b, c] (.inr ⟨g, 0, 3, rfl, by simp, by unfold maxLen; omega, fun i hi j u hu => by
    match i, hi with
    | 0, _ => match j with
      | 0 => exact h0.trans hu
      | j + 1 => simp [intEnc] at hu
    | 1, _ => match j with
      | 0 => exact h1.trans hu
      | j + 1 => simp [intEnc] at hu
    | 2, _ => match j with
      | 0 => exact h2.trans hu
      | j + 1 => simp [intEnc] at hu⟩)
theorem new_cell (W : World) (cs : List Value) (T : TypeId) (g : Nat) (hg : g = W.heap.size) (i : Nat) : (W.alloc (.cells cs.toArray T)).drew.cell? ⟨g, i, none⟩ = cs[i]? := by
  subst hg; exact (Blk.new W cs T).cell i
theorem below_dr {B : Nat} {w w' : World} (h : Below B w w') : Below B w w'.drew := ⟨h.os, h.tape, h.output, h.size, h.block⟩
theorem Slc.drew {α : Type} {enc : α → List Value} {m : Nat} {w : World} {v : Value} {L : List α} (h : Slc enc m w v L) : Slc enc m w.drew v L := h

set_option maxHeartbeats 400000 in
theorem xid_compare (w : World) (x y : Xid) :
    Calls Try.prog 77 #[.agg #[.int .u32 x.1, .string x.2.1, .string x.2.2], .agg #[.int .u32 y.1, .string y.2.1, .string y.2.2]] w fun e w' => e = .returned (.int .i64 (cmpX x y)) ∧ Below w.heap.size w w' := by
  obtain ⟨xf, xg, xb⟩ := x
  obtain ⟨yf, yg, yb⟩ := y
  simp only
  have hr : orI [cmpI xf yf, cmpB xg yg, cmpB xb yb] = cmpX (xf, xg, xb) (yf, yg, yb) := by simp only [orI, cmpX, lexC, thenC]; split <;> (try split) <;> (try split) <;> simp_all
  have hr' := Lib.hid hr; clear hr
  go_enter Try.func77, Try.ntmps77
  go_wp2
  go_region_held3 (fun w' => w'.cell? ⟨w.heap.size, 0, none⟩ = some (.int .u32 xf) ∧ w'.cell? ⟨w.heap.size, 1, none⟩ = some (.string xg) ∧ w'.cell? ⟨w.heap.size, 2, none⟩ = some (.string xb) ∧ w'.cell? ⟨w.heap.size + 1, 0, none⟩ = some (.int .u32 yf) ∧ w'.cell? ⟨w.heap.size + 1, 1, none⟩ = some (.string yg) ∧ w'.cell? ⟨w.heap.size + 1, 2, none⟩ = some (.string yb)) (go_keep)
    (first | (go_at_call 113; refine (cmp32 _ _ _).mono ?_; rintro e w' ⟨rfl, rfl⟩) | (go_at_call 114; refine (cmp_str _ _ _).mono ?_; rintro e w' ⟨rfl, rfl⟩) | (go_at_call 112; refine (or_three (a := cmpI xf yf) (b := cmpB xg yg) (c := cmpB xb yb) (new_cell _ _ _ _ ?_ 0) (new_cell _ _ _ _ ?_ 1) (new_cell _ _ _ _ ?_ 2)).mono ?_; (simp); (simp); (simp); rintro e w' ⟨rfl, rfl⟩))
  go_wp2
  go_ret
  exact ⟨by rw [hr'.out]; rfl, below_dr ((((Below.refl _ _).alloc (Nat.le_refl _) _).alloc (by simp) _).alloc (by simp; omega) _)⟩

theorem xid_check (w : World) (x : Xid) :
    Calls Try.prog 99 #[.agg #[.int .u32 x.1, .string x.2.1, .string x.2.2]] w fun e w' => e = .returned (.int .i64 (if 0 < x.2.1.size ∧ x.2.1.size ≤ 64 ∧ x.2.2.size ≤ 64 then 0 else 40)) ∧ Below w.heap.size w w' := by
  obtain ⟨xf, xg, xb⟩ := x
  simp only
  by_cases h0 : 0 < xg.size
  · have he := empty_no h0
    by_cases h1 : xg.size ≤ 64
    · by_cases h2 : xb.size ≤ 64
      · rw [if_pos ⟨h0, h1, h2⟩]
        have g1 : ¬ 64 < xg.size := by omega
        have g2 : ¬ 64 < xb.size := by omega
        go_enter Try.func99, Try.ntmps99
        go_wp2
        go_ret
        exact ⟨rfl, (Below.refl _ _).alloc (Nat.le_refl _) _⟩
      · rw [if_neg (fun h => h2 h.2.2)]
        have g1 : ¬ 64 < xg.size := by omega
        have g2 : 64 < xb.size := by omega
        go_enter Try.func99, Try.ntmps99
        go_wp2
        go_ret
        exact ⟨rfl, (Below.refl _ _).alloc (Nat.le_refl _) _⟩
    · rw [if_neg (fun h => h1 h.2.1)]
      have g1 : 64 < xg.size := by omega
      go_enter Try.func99, Try.ntmps99
      go_wp2
      go_ret
      exact ⟨rfl, (Below.refl _ _).alloc (Nat.le_refl _) _⟩
  · rw [if_neg (fun h => h0 h.1)]
    have he := empty_yes (show xg.size = 0 by omega)
    go_enter Try.func99, Try.ntmps99
    go_wp2
    go_ret
    exact ⟨rfl, (Below.refl _ _).alloc (Nat.le_refl _) _⟩

/-! ### associations -/
/-- An association: its session, its branch, whether it rests. -/
abbrev Asc := Int × Xid × Bool
def ascEnc (a : Asc) : List Value := [.int .u64 a.1, .int .u32 a.2.1.1, .string a.2.1.2.1, .string a.2.1.2.2, .bool a.2.2]
theorem ascEnc_len (p : Asc) : (ascEnc p).length = 5 := rfl
theorem ascEnc_one (p : Asc) : ∀ u ∈ ascEnc p, u.oneCell' = true := by simp [ascEnc, Value.oneCell']
theorem info_asc : (Try.prog.info? 57).map (fun i => (i.zero, i.size, i.bytes)) = some (some (.agg #[.int .u64 0, .int .u32 0, .string ⟨#[]⟩, .string ⟨#[]⟩, .bool false]), 5, 56) := by kernel_rfl
theorem elem_asc : ElemT Try.prog 23 57 5 56 := ElemT.mk' Try.underlying23 info_asc rfl (by omega)
abbrev ascVal (a : Asc) : Value := .agg #[.int .u64 a.1, .int .u32 a.2.1.1, .string a.2.1.2.1, .string a.2.1.2.2, .bool a.2.2]
def keyA (a : Asc) : Int × Xid := (a.1, a.2.1)
def cmpA (a b : Asc) : Int := keyC (keyA a) (keyA b)

set_option maxHeartbeats 400000 in
theorem assoc_compare (w : World) (x y : Asc) :
    Calls Try.prog 115 #[.agg #[.int .u64 x.1, .int .u32 x.2.1.1, .string x.2.1.2.1, .string x.2.1.2.2, .bool x.2.2], .agg #[.int .u64 y.1, .int .u32 y.2.1.1, .string y.2.1.2.1, .string y.2.1.2.2, .bool y.2.2]] w fun e w' => e = .returned (.int .i64 (cmpA x y)) ∧ Below w.heap.size w w' := by
  obtain ⟨xs, ⟨xf, xg, xb⟩, xz⟩ := x
  obtain ⟨ys, ⟨yf, yg, yb⟩, yz⟩ := y
  simp only
  have hr : orI [cmpI xs ys, cmpX (xf, xg, xb) (yf, yg, yb)] = cmpA (xs, (xf, xg, xb), xz) (ys, (yf, yg, yb), yz) := by simp only [orI, cmpA, keyA, keyC]; unfold lexC; unfold thenC; split <;> (try split) <;> simp_all
  have hr' := Lib.hid hr; clear hr
  have hz : w.heap.size + 1 < ((w.alloc (.cells #[.int .u64 xs, .int .u32 xf, .string xg, .string xb, .bool xz] 57)).alloc (.cells #[.int .u64 ys, .int .u32 yf, .string yg, .string yb, .bool yz] 57)).heap.size := by simp
  obtain ⟨W0, hW0⟩ : ∃ W0, W0 = ((w.alloc (.cells #[.int .u64 xs, .int .u32 xf, .string xg, .string xb, .bool xz] 57)).alloc (.cells #[.int .u64 ys, .int .u32 yf, .string yg, .string yb, .bool yz] 57)) := ⟨_, rfl⟩
  have hB0 : Below w.heap.size w W0 := by rw [hW0]; exact ((Below.refl _ _).alloc (Nat.le_refl _) _).alloc (by simp) _
  have b1 : Blk W0 w.heap.size [.int .u64 xs, .int .u32 xf, .string xg, .string xb, .bool xz] := by rw [hW0]; exact (Blk.new w _ _).alloc _
  have b2 : Blk W0 (w.heap.size + 1) [.int .u64 ys, .int .u32 yf, .string yg, .string yb, .bool yz] := by
    rw [hW0]
    have := Blk.new (w.alloc (.cells #[.int .u64 xs, .int .u32 xf, .string xg, .string xb, .bool xz] 57)) [.int .u64 ys, .int .u32 yf, .string yg, .string yb, .bool yz] 57
    simpa using this
  have hS0 : W0.heap.size = w.heap.size + 2 := by rw [hW0]; simp
  have hS0' := Lib.hid hS0; clear hS0
  have e10 := b1.cell 0
  have e11 := b1.cell 1
  have e12 := b1.cell 2
  have e13 := b1.cell 3
  have e20 := b2.cell 0
  have e21 := b2.cell 1
  have e22 := b2.cell 2
  have e23 := b2.cell 3
  clear hz
  go_enter Try.func115, Try.ntmps115
  go_wp2
  rw [← hW0]
  clear hW0
  go_region_held3 (fun w' => w'.cell? ⟨w.heap.size, 0, none⟩ = some (.int .u64 xs) ∧ w'.cell? ⟨w.heap.size, 1, none⟩ = some (.int .u32 xf) ∧ w'.cell? ⟨w.heap.size, 2, none⟩ = some (.string xg) ∧ w'.cell? ⟨w.heap.size, 3, none⟩ = some (.string xb) ∧ w'.cell? ⟨w.heap.size + 1, 0, none⟩ = some (.int .u64 ys) ∧ w'.cell? ⟨w.heap.size + 1, 1, none⟩ = some (.int .u32 yf) ∧ w'.cell? ⟨w.heap.size + 1, 2, none⟩ = some (.string yg) ∧ w'.cell? ⟨w.heap.size + 1, 3, none⟩ = some (.string yb))
    (first | exact ⟨e10, e11, e12, e13, e20, e21, e22, e23⟩ | exact ⟨f10, f11, f12, f13, f20, f21, f22, f23⟩ | exact ⟨g10, g11, g12, g13, g20, g21, g22, g23⟩)
    (first | (go_at_call 128; refine (cmp64 _ _ _).mono ?_; rintro e w' ⟨rfl, rfl⟩) | (go_at_call 77; refine (xid_compare _ (xf, xg, xb) (yf, yg, yb)).mono ?_; rintro e w1 ⟨rfl, hB1⟩; have c1 := b1.drew.pure hB1; have c2 := b2.drew.pure hB1; have f10 := c1.cell 0; have f11 := c1.cell 1; have f12 := c1.cell 2; have f13 := c1.cell 3; have f20 := c2.cell 0; have f21 := c2.cell 1; have f22 := c2.cell 2; have f23 := c2.cell 3; have d1 := c1.alloc (.cells #[.int .i64 (cmpI xs ys), .int .i64 (cmpX (xf, xg, xb) (yf, yg, yb))] 3); have d2 := c2.alloc (.cells #[.int .i64 (cmpI xs ys), .int .i64 (cmpX (xf, xg, xb) (yf, yg, yb))] 3); have g10 := d1.cell 0; have g11 := d1.cell 1; have g12 := d1.cell 2; have g13 := d1.cell 3; have g20 := d2.cell 0; have g21 := d2.cell 1; have g22 := d2.cell 2; have g23 := d2.cell 3; clear e10 e11 e12 e13 e20 e21 e22 e23) | (go_at_call 112; refine (or_two (a := cmpI xs ys) (b := cmpX (xf, xg, xb) (yf, yg, yb)) ((Blk.new _ _ _).cell 0) ((Blk.new _ _ _).cell 1)).mono ?_; rintro e w' ⟨rfl, rfl⟩))
  go_wp2
  go_ret
  have hB2 := (below_dr hB0).trans (hB1.mono (by have := hB0.size; exact this))
  exact ⟨by rw [hr'.out]; rfl, hB2.alloc hB2.size _⟩
end Go.Proofs.Ytcelpincmpjhkaa

/- Associations: the search in a row that rises. Conditions: the row rises; at most a million. -/
namespace Go.Proofs.Ytcelpincmpjhkaa
set_option linter.unusedSimpArgs false
set_option linter.unusedVariables false
open Go.RowKit

abbrev Rises (L : List Asc) : Prop := L.Pairwise (fun a b => cmpA a b < 0)
/-- The place of t in a row that rises. -/
def PlaceA (L : List Asc) (t : Asc) (i : Nat) : Prop := i ≤ L.length ∧ (∀ j, (h : j < L.length) → j < i → cmpA L[j] t < 0) ∧ ∀ j, (h : j < L.length) → i ≤ j → 0 ≤ cmpA L[j] t
theorem cmpA_ok : IsCmp (fun a b : Int × Xid => keyC a b) := keyC_ok
theorem cmpA_anti (a b : Asc) : cmpA b a = - cmpA a b := keyC_ok.anti _ _
theorem cmpA_lt_le {a b d : Asc} (h1 : cmpA a b < 0) (h2 : cmpA b d ≤ 0) : cmpA a d < 0 := keyC_ok.lt_le h1 h2
theorem cmpA_le_lt {a b d : Asc} (h1 : cmpA a b ≤ 0) (h2 : cmpA b d < 0) : cmpA a d < 0 := keyC_ok.le_lt h1 h2
theorem cmpA_zero {a b : Asc} : cmpA a b = 0 ↔ keyA a = keyA b := keyC_ok.eq _ _
theorem rises_le {L : List Asc} (hL : Rises L) {i j : Nat} (hi : i < L.length) (hj : j < L.length) (h : i ≤ j) : cmpA L[i] L[j] ≤ 0 := by
  rcases Nat.lt_or_eq_of_le h with h | h
  · exact Int.le_of_lt (List.pairwise_iff_getElem.1 hL i j hi hj h)
  · subst h; exact Int.le_of_eq (keyC_ok.refl _)
theorem asc_cells {w : World} {g off n cap k : Nat} {L : List Asc} (h : Slc ascEnc 5 w (.slice (some ⟨g, off, none⟩) n cap) L) (hk : k < L.length) :
    w.cell? ⟨g, off + k * 5, none⟩ = some (.int .u64 L[k].1) ∧ w.cell? ⟨g, off + k * 5 + 1, none⟩ = some (.int .u32 L[k].2.1.1) ∧ w.cell? ⟨g, off + k * 5 + 2, none⟩ = some (.string L[k].2.1.2.1) ∧ w.cell? ⟨g, off + k * 5 + 3, none⟩ = some (.string L[k].2.1.2.2) ∧ w.cell? ⟨g, off + k * 5 + 4, none⟩ = some (.bool L[k].2.2) :=
  ⟨h.get k hk 0 _ rfl, h.get k hk 1 _ rfl, h.get k hk 2 _ rfl, h.get k hk 3 _ rfl, h.get k hk 4 _ rfl⟩
theorem Slc.addr {α : Type} {enc : α → List Value} {m : Nat} {w : World} {a : Option Addr} {n cap : Nat} {L : List α} (h : Slc enc m w (.slice a n cap) L) {k : Nat} (hk : k < L.length) : ∃ g off, a = some ⟨g, off, none⟩ := by
  rcases h with ⟨_, _, _, _, h0⟩ | ⟨g, off, cap', hv, _⟩
  · rw [h0] at hk; simp at hk
  · simp only [Value.slice.injEq] at hv; exact ⟨g, off, hv.1⟩

/-- What the search answers. -/
def BinPost (w : World) (L : List Asc) (t : Asc) (e : Ending) (w' : World) : Prop :=
  ∃ i : Nat, PlaceA L t i ∧ e = .returned (.tuple #[.int .i64 i, .bool (decide (∃ h : i < L.length, cmpA L[i] t = 0))]) ∧ Below w.heap.size w w'

set_option maxRecDepth 100000 in
set_option maxHeartbeats 1600000 in
theorem bin_any (w : World) (v : Value) (L : List Asc) (t : Asc) (hs : Slc ascEnc 5 w v L) (hr : Rises L) (hL : L.length ≤ 1000000) :
    Calls Try.prog 123 #[v, .agg #[.int .u64 t.1, .int .u32 t.2.1.1, .string t.2.1.2.1, .string t.2.1.2.2, .bool t.2.2], .func (.func 115) #[] #[]] w (BinPost w L t) := by
  obtain ⟨a, cap, rfl, hm⟩ := hs.len
  unfold maxLen at hm
  have hr' := Lib.hid hr; clear hr
  have hb0 := Blk.new w (ascEnc t) 57
  have hB0 := (Below.refl w.heap.size w).alloc (Nat.le_refl _) (.cells (ascEnc t).toArray 57)
  have hsz0 : w.heap.size < (w.alloc (.cells (ascEnc t).toArray 57)).heap.size := by simp
  obtain ⟨W0, hW0⟩ : ∃ W0, W0 = w.alloc (.cells #[.int .u64 t.1, .int .u32 t.2.1.1, .string t.2.1.2.1, .string t.2.1.2.2, .bool t.2.2] 57) := ⟨_, rfl⟩
  have hb1 : Blk W0 w.heap.size (ascEnc t) := by rw [hW0]; exact hb0
  have hB1 : Below w.heap.size w W0 := by rw [hW0]; exact hB0
  have hz1 : w.heap.size < W0.heap.size := by rw [hW0]; exact hsz0
  clear hb0 hB0 hsz0
  go_enter Try.func123, Try.ntmps123
  go_wp2
  rw [← hW0]
  clear hW0
  go_loopw [9, 10] (fun s9 s10 wr => ∃ lo hi : Nat, lo ≤ hi ∧ hi ≤ L.length ∧ s9 = .int .i64 lo ∧ s10 = .int .i64 hi ∧ (∀ j, (h : j < L.length) → j < lo → cmpA L[j] t < 0) ∧ (∀ j, (h : j < L.length) → hi ≤ j → 0 ≤ cmpA L[j] t) ∧ Below W0.heap.size W0 wr) (fun s9 s10 _ => (intOf s10 - intOf s9).toNat)
  case atStart => exact ⟨0, L.length, by omega, by omega, rfl, rfl, fun j h h' => absurd h' (by omega), fun j h h' => absurd h' (by omega), Below.refl _ _⟩
  case round =>
    obtain ⟨lo, hi, hlh, hhl, rfl, rfl, k1, k2, hB⟩ := hrel
    have k1' := Lib.hid k1; clear k1
    have k2' := Lib.hid k2; clear k2
    have hBw := hB1.trans (hB.mono hB1.size)
    have hsr := hs.pure hBw
    have hbr := hb1.below hB hz1
    have e0 := hbr.cell 0
    have e1 := hbr.cell 1
    have e2 := hbr.cell 2
    have e3 := hbr.cell 3
    have e4 := hbr.cell 4
    by_cases hlt : lo < hi
    · obtain ⟨mid, hmid⟩ : ∃ mid, mid = (lo + hi) / 2 := ⟨_, rfl⟩
      have hmd : (lo + hi) / 2 < L.length := by omega
      obtain ⟨g, off, rfl⟩ := hsr.addr hmd
      obtain ⟨c0, c1, c2, c3, c4⟩ := asc_cells hsr hmd
      have hgl := World.block_lt_of_cell? _ _ c0
      have hbl := hbr.lt
      have hmi : (0 : Int) ≤ ((lo + hi) / 2 : Nat) := by omega
      have hmi2 : (((lo + hi) / 2 : Nat) : Int) < (L.length : Int) := by omega
      have hmi3 : (0 : Int) ≤ ((lo : Int) + (hi : Int)) / 2 := by omega
      have hmi4 : ((lo : Int) + (hi : Int)) / 2 < (L.length : Int) := by omega
      clear hmid
      have htn : (((lo : Int) + (hi : Int)) / 2).toNat = (lo + hi) / 2 := by omega
      obtain ⟨cc, hcc⟩ : ∃ cc, cmpA L[(lo + hi) / 2] t = cc := ⟨_, rfl⟩
      have hcc' := Lib.hid hcc
      clear hcc
      by_cases hq : cc < 0
      · have hlow : ∀ j, (h : j < L.length) → j < (lo + hi) / 2 + 1 → cmpA L[j] t < 0 := fun j h h' => cmpA_le_lt (rises_le hr'.out h hmd (by omega)) (by rw [hcc'.out]; exact hq)
        have hlow' := Lib.hid hlow; clear hlow
        go_wp2
        go_region_held3 (fun w' => w'.cell? ⟨g, off + ((lo + hi) / 2) * 5, none⟩ = some (.int .u64 L[((lo + hi) / 2)].1) ∧ w'.cell? ⟨g, off + ((lo + hi) / 2) * 5 + 1, none⟩ = some (.int .u32 L[((lo + hi) / 2)].2.1.1) ∧ w'.cell? ⟨g, off + ((lo + hi) / 2) * 5 + 2, none⟩ = some (.string L[((lo + hi) / 2)].2.1.2.1) ∧ w'.cell? ⟨g, off + ((lo + hi) / 2) * 5 + 3, none⟩ = some (.string L[((lo + hi) / 2)].2.1.2.2) ∧ w'.cell? ⟨g, off + ((lo + hi) / 2) * 5 + 4, none⟩ = some (.bool L[((lo + hi) / 2)].2.2) ∧ w'.cell? ⟨w.heap.size, 0, none⟩ = some (.int .u64 t.1) ∧ w'.cell? ⟨w.heap.size, 1, none⟩ = some (.int .u32 t.2.1.1) ∧ w'.cell? ⟨w.heap.size, 2, none⟩ = some (.string t.2.1.2.1) ∧ w'.cell? ⟨w.heap.size, 3, none⟩ = some (.string t.2.1.2.2) ∧ w'.cell? ⟨w.heap.size, 4, none⟩ = some (.bool t.2.2)) (first | exact ⟨c0, c1, c2, c3, c4, e0, e1, e2, e3, e4⟩ | exact ⟨d0, d1, d2, d3, d4, f0, f1, f2, f3, f4⟩)
        (first | (go_at_call 115; refine (assoc_compare _ L[(lo + hi) / 2] t).mono ?_; rw [hcc'.out]; rintro e w1 ⟨rfl, hB2⟩; obtain ⟨d0, d1, d2, d3, d4⟩ := asc_cells (hsr.drew.pure hB2) hmd; have hb2 := hbr.drew.pure hB2; have f0 := hb2.cell 0; have f1 := hb2.cell 1; have f2 := hb2.cell 2; have f3 := hb2.cell 3; have f4 := hb2.cell 4; have hB3 := (below_dr hB).trans (hB2.mono hB.size); clear c0 c1 c2 c3 c4 e0 e1 e2 e3 e4))
        go_wp2
        go_roundw
        case rel => exact ⟨(lo + hi) / 2 + 1, hi, by omega, by omega, by go_num, rfl, hlow'.out, k2'.out, hB3⟩
        case measure => simp [intOf]; omega
      · have hhigh : ∀ j, (h : j < L.length) → (lo + hi) / 2 ≤ j → 0 ≤ cmpA L[j] t := fun j h h' => by
          by_cases h1 : cmpA L[j] t < 0
          · have := cmpA_le_lt (rises_le hr'.out hmd h h') h1
            rw [hcc'.out] at this
            exact absurd this hq
          · omega
        have hhigh' := Lib.hid hhigh; clear hhigh
        go_wp2
        go_region_held3 (fun w' => w'.cell? ⟨g, off + ((lo + hi) / 2) * 5, none⟩ = some (.int .u64 L[((lo + hi) / 2)].1) ∧ w'.cell? ⟨g, off + ((lo + hi) / 2) * 5 + 1, none⟩ = some (.int .u32 L[((lo + hi) / 2)].2.1.1) ∧ w'.cell? ⟨g, off + ((lo + hi) / 2) * 5 + 2, none⟩ = some (.string L[((lo + hi) / 2)].2.1.2.1) ∧ w'.cell? ⟨g, off + ((lo + hi) / 2) * 5 + 3, none⟩ = some (.string L[((lo + hi) / 2)].2.1.2.2) ∧ w'.cell? ⟨g, off + ((lo + hi) / 2) * 5 + 4, none⟩ = some (.bool L[((lo + hi) / 2)].2.2) ∧ w'.cell? ⟨w.heap.size, 0, none⟩ = some (.int .u64 t.1) ∧ w'.cell? ⟨w.heap.size, 1, none⟩ = some (.int .u32 t.2.1.1) ∧ w'.cell? ⟨w.heap.size, 2, none⟩ = some (.string t.2.1.2.1) ∧ w'.cell? ⟨w.heap.size, 3, none⟩ = some (.string t.2.1.2.2) ∧ w'.cell? ⟨w.heap.size, 4, none⟩ = some (.bool t.2.2)) (first | exact ⟨c0, c1, c2, c3, c4, e0, e1, e2, e3, e4⟩ | exact ⟨d0, d1, d2, d3, d4, f0, f1, f2, f3, f4⟩)
        (first | (go_at_call 115; refine (assoc_compare _ L[(lo + hi) / 2] t).mono ?_; rw [hcc'.out]; rintro e w1 ⟨rfl, hB2⟩; obtain ⟨d0, d1, d2, d3, d4⟩ := asc_cells (hsr.drew.pure hB2) hmd; have hb2 := hbr.drew.pure hB2; have f0 := hb2.cell 0; have f1 := hb2.cell 1; have f2 := hb2.cell 2; have f3 := hb2.cell 3; have f4 := hb2.cell 4; have hB3 := (below_dr hB).trans (hB2.mono hB.size); clear c0 c1 c2 c3 c4 e0 e1 e2 e3 e4))
        go_wp2
        go_roundw
        case rel => exact ⟨lo, (lo + hi) / 2, by omega, by omega, rfl, rfl, k1'.out, hhigh'.out, hB3⟩
        case measure => simp [intOf]; omega
    · obtain rfl : lo = hi := by omega
      have hp : PlaceA L t lo := ⟨hhl, k1'.out, k2'.out⟩
      have hp' := Lib.hid hp; clear hp hlh
      by_cases hll : lo < L.length
      · obtain ⟨g, off, rfl⟩ := hsr.addr hll
        obtain ⟨c0, c1, c2, c3, c4⟩ := asc_cells hsr hll
        have hmi : (0 : Int) ≤ (lo : Int) := by omega
        have hmi2 : (lo : Int) < (L.length : Int) := by omega
        obtain ⟨cc, hcc⟩ : ∃ cc, cmpA L[lo] t = cc := ⟨_, rfl⟩
        have hfd : decide (∃ h : lo < L.length, cmpA L[lo] t = 0) = decide (cc = 0) := by
          rw [← hcc]; exact decide_eq_decide.2 ⟨fun h => h.2, fun h => ⟨hll, h⟩⟩
        have hcc' := Lib.hid hcc
        have hfd' := Lib.hid hfd
        clear hcc hfd
        go_wp2
        go_region_held3 (fun w' => w'.cell? ⟨g, off + lo * 5, none⟩ = some (.int .u64 L[lo].1) ∧ w'.cell? ⟨g, off + lo * 5 + 1, none⟩ = some (.int .u32 L[lo].2.1.1) ∧ w'.cell? ⟨g, off + lo * 5 + 2, none⟩ = some (.string L[lo].2.1.2.1) ∧ w'.cell? ⟨g, off + lo * 5 + 3, none⟩ = some (.string L[lo].2.1.2.2) ∧ w'.cell? ⟨g, off + lo * 5 + 4, none⟩ = some (.bool L[lo].2.2) ∧ w'.cell? ⟨w.heap.size, 0, none⟩ = some (.int .u64 t.1) ∧ w'.cell? ⟨w.heap.size, 1, none⟩ = some (.int .u32 t.2.1.1) ∧ w'.cell? ⟨w.heap.size, 2, none⟩ = some (.string t.2.1.2.1) ∧ w'.cell? ⟨w.heap.size, 3, none⟩ = some (.string t.2.1.2.2) ∧ w'.cell? ⟨w.heap.size, 4, none⟩ = some (.bool t.2.2)) (first | exact ⟨c0, c1, c2, c3, c4, e0, e1, e2, e3, e4⟩ | exact ⟨d0, d1, d2, d3, d4, f0, f1, f2, f3, f4⟩)
        (first | (go_at_call 115; refine (assoc_compare _ L[lo] t).mono ?_; rw [hcc'.out]; rintro e w1 ⟨rfl, hB2⟩; obtain ⟨d0, d1, d2, d3, d4⟩ := asc_cells (hsr.drew.pure hB2) hll; have hb2 := hbr.drew.pure hB2; have f0 := hb2.cell 0; have f1 := hb2.cell 1; have f2 := hb2.cell 2; have f3 := hb2.cell 3; have f4 := hb2.cell 4; have hB3 := (below_dr hB).trans (hB2.mono hB.size); clear c0 c1 c2 c3 c4 e0 e1 e2 e3 e4))
        go_wp2
        go_ret2
        exact ⟨lo, hp'.out, by rw [hfd'.out]; rfl, hB1.trans (hB3.mono hB1.size)⟩
      · have hfd : decide (∃ h : lo < L.length, cmpA L[lo] t = 0) = false := decide_eq_false (fun h => hll h.1)
        have hfd' := Lib.hid hfd
        clear hfd
        go_wp2
        go_quiet (fail)
        go_wp2
        go_ret2
        exact ⟨lo, hp'.out, by rw [hfd'.out]; rfl, below_drewN hBw _⟩
end Go.Proofs.Ytcelpincmpjhkaa

/- Rows of associations: what is right, in plain lists. Conditions: none. -/
namespace Go.Proofs.Ytcelpincmpjhkaa
set_option linter.unusedSimpArgs false
set_option linter.unusedVariables false
open Go.RowKit

def XidOk (x : Xid) : Prop := 0 < x.2.1.size ∧ x.2.1.size ≤ 64 ∧ x.2.2.size ≤ 64
instance (x : Xid) : Decidable (XidOk x) := by unfold XidOk; infer_instance
def RelA (a b : Asc) : Prop := cmpA a b < 0 ∧ (a.1 = b.1 → a.2.2 = true ∨ b.2.2 = true)
def RowA (L : List Asc) : Prop := (∀ a ∈ L, a.1 ≠ 0 ∧ XidOk a.2.1) ∧ L.Pairwise RelA
theorem RowA.rises {L : List Asc} (h : RowA L) : Rises L := h.2.imp (fun h => h.1)
theorem RowA.nil : RowA [] := ⟨by simp, List.Pairwise.nil⟩
theorem RowA.take {L : List Asc} (h : RowA L) (k : Nat) : RowA (L.take k) := ⟨fun a ha => h.1 a (List.mem_of_mem_take ha), h.2.sublist (List.take_sublist _ _)⟩
theorem RowA.sub {L M : List Asc} (h : RowA L) (hs : M.Sublist L) : RowA M := ⟨fun a ha => h.1 a (hs.subset ha), h.2.sublist hs⟩

noncomputable def rowE (L : List Asc) : Int := @ite _ (RowA L) (Classical.propDecidable _) 0 180
theorem rowE_yes {L : List Asc} (h : RowA L) : rowE L = 0 := by unfold rowE; rw [if_pos h]
theorem rowE_no {L : List Asc} (h : ¬ RowA L) : rowE L = 180 := by unfold rowE; rw [if_neg h]

/-- The session of the last association that is active. -/
def actFrom (c : Int) (L : List Asc) : Int := L.foldl (fun c a => if a.2.2 = true then c else a.1) c
def actOf (L : List Asc) : Int := actFrom 0 L
theorem actFrom_cases (L : List Asc) : ∀ c, actFrom c L = c ∨ ∃ a ∈ L, a.2.2 = false ∧ actFrom c L = a.1 := by
  induction L with
  | nil => intro c; exact .inl rfl
  | cons a L ih =>
    intro c
    show actFrom (if a.2.2 = true then c else a.1) L = c ∨ _
    rcases ih (if a.2.2 = true then c else a.1) with h | ⟨b, hb, h1, h2⟩
    · by_cases hz : a.2.2 = true
      · left; rw [h, if_pos hz]
      · right; exact ⟨a, by simp, by simpa using hz, by show actFrom (if a.2.2 = true then c else a.1) L = _; rw [h, if_neg hz]⟩
    · right; exact ⟨b, by simp [hb], h1, h2⟩
theorem cmpA_ses {a b : Asc} (h : cmpA a b < 0) : a.1 ≤ b.1 := by
  unfold cmpA keyC lexC thenC keyA at h
  split at h
  · unfold cmpI at h; split at h <;> (try split at h) <;> omega
  · rename_i h'; have := (cmpI_ok.eq a.1 b.1).1 (Decidable.of_not_not h'); omega
theorem actFrom_ge (L : List Asc) : ∀ c, Rises L → ∀ b ∈ L, b.2.2 = false → ∃ d ∈ L, actFrom c L = d.1 ∧ b.1 ≤ d.1 := by
  induction L with
  | nil => intro c _ b hb; cases hb
  | cons a L ih =>
    intro c hr b hb hz
    have hr' := List.pairwise_cons.1 hr
    rcases List.mem_cons.1 hb with rfl | hb
    · have e : actFrom c (b :: L) = actFrom b.1 L := by show actFrom (if b.2.2 = true then c else b.1) L = _; rw [if_neg (by rw [hz]; simp)]
      rcases actFrom_cases L b.1 with h | ⟨d, hd, _, h2⟩
      · exact ⟨b, by simp, e.trans h, Int.le_refl _⟩
      · exact ⟨d, by simp [hd], e.trans h2, cmpA_ses (hr'.1 d hd)⟩
    · obtain ⟨d, hd, h1, h2⟩ := ih (if a.2.2 = true then c else a.1) hr'.2 b hb hz
      exact ⟨d, by simp [hd], h1, h2⟩
theorem actOf_snoc (M : List Asc) (a : Asc) : actOf (M ++ [a]) = if a.2.2 = true then actOf M else a.1 := by
  unfold actOf actFrom; rw [List.foldl_append]; rfl

theorem row_snoc (M : List Asc) (a : Asc) : RowA (M ++ [a]) ↔ RowA M ∧ a.1 ≠ 0 ∧ XidOk a.2.1 ∧ (∀ b, M.getLast? = some b → cmpA b a < 0) ∧ (a.2.2 = true ∨ a.1 ≠ actOf M) := by
  unfold RowA
  rw [List.pairwise_append]
  constructor
  · rintro ⟨h1, h2, _, h3⟩
    have ha := h1 a (by simp)
    refine ⟨⟨fun b hb => h1 b (by simp [hb]), h2⟩, ha.1, ha.2, fun b hb => (h3 b (List.mem_of_getLast? hb) a (by simp)).1, ?_⟩
    by_cases hz : a.2.2 = true
    · exact .inl hz
    · right
      intro he
      rcases actFrom_cases M 0 with h | ⟨b, hb, hbz, h⟩
      · exact ha.1 (he.trans h)
      · have := (h3 b hb a (by simp)).2 (h.symm.trans he.symm)
        rcases this with h' | h'
        · rw [hbz] at h'; cases h'
        · exact hz h'
  · rintro ⟨⟨h1, h2⟩, h3, h4, h5, h6⟩
    have hlt : ∀ b ∈ M, cmpA b a < 0 := by
      intro b hb
      obtain ⟨i, hi, rfl⟩ := List.getElem_of_mem hb
      have hl : M.getLast? = some (M[M.length - 1]'(by omega)) := by rw [List.getLast?_eq_getElem?]; exact List.getElem?_eq_getElem (by omega)
      exact cmpA_le_lt (rises_le (h2.imp (fun h => h.1)) hi (by omega) (by omega)) (h5 _ hl)
    refine ⟨?_, h2, List.pairwise_singleton _ _, ?_⟩
    · intro b hb
      rw [List.mem_append] at hb
      rcases hb with hb | hb
      · exact h1 b hb
      · simp at hb; subst hb; exact ⟨h3, h4⟩
    · intro b hb c hc
      simp at hc; subst hc
      refine ⟨hlt b hb, fun he => ?_⟩
      rcases h6 with h6 | h6
      · exact .inr h6
      · by_cases hz : b.2.2 = true
        · exact .inl hz
        · exfalso
          obtain ⟨d, hd, h7, h8⟩ := actFrom_ge M 0 (h2.imp (fun h => h.1)) b hb (by simpa using hz)
          have hle := cmpA_ses (hlt d hd)
          apply h6
          unfold actOf
          omega
end Go.Proofs.Ytcelpincmpjhkaa

/- slices.Clone at []api.Assoc. Conditions: the slice reads as rows; at most a million. Written by gen_clone.py. -/
namespace Go.Proofs.Ytcelpincmpjhkaa
set_option linter.unusedSimpArgs false
set_option linter.unusedVariables false
open Go.RowKit

theorem asc_eql_nil (w : World) (a : Option Addr) (n c : Nat) : (binOp .eql 23 (.slice a n c) (.slice none 0 0)).run Try.prog w = .ok (.bool a.isNone) w := Lib.run_eql_slice_nil w _ _ a n c 0 0 Try.underlying23

set_option maxHeartbeats 800000 in
theorem asc_clone (w : World) (v : Value) (L : List Asc) (h : Slc ascEnc 5 w v L) (hL : L.length ≤ 1000000) :
    Calls Try.prog 101 #[v] w fun e w' => ∃ r, e = .returned r ∧ Own w.heap.size 57 5 ascEnc w' r L ∧ Below w.heap.size w w' := by
  have qS := asc_eql_nil
  obtain ⟨a, cap, rfl, hm⟩ := h.len
  cases a with
  | none =>
    have hn : L = [] := by
      rcases h with ⟨_, _, _, _, h0⟩ | ⟨g, off, cap', hv, _⟩
      · exact h0
      · simp at hv
    subst hn
    go_enter Try.func101, Try.ntmps101
    go_wp2
    go_ret
    exact ⟨_, rfl, Own.nil, Below.refl _ _⟩
  | some ad =>
    go_enter Try.func101, Try.ntmps101
    go_wp2_with (at_builtin; refine wpList_app rfl _ _ 23 57 rfl elem_asc ascEnc_len ascEnc_one _ ([] : List Asc) rfl (Own.made0 w 57 (Nat.le_refl _)) _ L rfl (h.pure ((Below.refl _ _).alloc (Nat.le_refl _) _)) (by unfold maxLen; simp <;> omega) (by simp <;> omega) (by simp) ?_; intro v' w2 hown hgr hfr hshape)
    go_ret
    refine ⟨_, rfl, by simpa using hown, ?_⟩
    exact ((Below.refl w.heap.size w).alloc (Nat.le_refl _) _).grown hgr (by simp) (fun j e => by have e : some w.heap.size = some j := e; injection e with e; omega)
end Go.Proofs.Ytcelpincmpjhkaa

/- Chapter 18: how the laws' arguments are opened. Conditions: none. -/
namespace Go.Proofs.Ytcelpincmpjhkaa
set_option linter.unusedSimpArgs false
set_option linter.unusedVariables false
open Go.ChangeShapes Go.WideShapes Go.ChangeAt Go.RowKit
set_option maxRecDepth 100000
section
variable {H : Type} {enc : TypeId × Value → H} {w : World} {base : Nat} {spare : Nat → Bool} {held : Bool}
theorem cells_xid : Try.prog.cellsOf 28 = 3 := by kernel_rfl
theorem open_xid (n : Nat) (cs : List Value) (y : DataW H × List MemPlace)
    (h : DataW.trod enc Try.prog w base spare held n 28 cs = some y) : ∃ x : Xid, cs = xidCells x := by
  obtain ⟨hl, m, hf⟩ := open_fields Try.underlying28 h
  have cs1 : Try.prog.cellsOf 9 = 1 := by kernel_rfl
  have c32 : Try.prog.cellsOf 26 = 1 := by kernel_rfl
  rw [cells_xid] at hl
  match cs, hl with
  | [c0, c1, c2], _ =>
    obtain ⟨a0, rfl, w0⟩ := field_int Try.underlying26 c32 (o := 0) (c := c0) rfl (hf 0 _ rfl)
    obtain ⟨a1, rfl, w1⟩ := field_string Try.underlying9 cs1 (o := 1) (c := c1) rfl (hf 1 _ rfl)
    obtain ⟨a2, rfl, w2⟩ := field_string Try.underlying9 cs1 (o := 2) (c := c2) rfl (hf 2 _ rfl)
    exact ⟨(a0, a1, a2), rfl⟩
theorem open_asc (n : Nat) (cs : List Value) (y : DataW H × List MemPlace)
    (h : DataW.trod enc Try.prog w base spare held n 57 cs = some y) : ∃ x : Asc, cs = ascEnc x ∧ True := by
  obtain ⟨hl, m, hf⟩ := open_fields Try.underlying57 h
  have hc : Try.prog.cellsOf 57 = 5 := by kernel_rfl
  have c64 : Try.prog.cellsOf 29 = 1 := by kernel_rfl
  have cb : Try.prog.cellsOf 4 = 1 := by kernel_rfl
  rw [hc] at hl
  match cs, hl with
  | [c0, c1, c2, c3, c4], _ =>
    obtain ⟨a0, rfl, w0⟩ := field_int Try.underlying29 c64 (o := 0) (c := c0) rfl (hf 0 _ rfl)
    obtain ⟨z, hz⟩ := hf 1 _ rfl
    have hz' : DataW.trod enc Try.prog w base spare held m 28 (([Value.int .u64 a0, c1, c2, c3, c4].drop 1).take (Try.prog.cellsOf 28)) = some z := hz
    rw [cells_xid] at hz'
    obtain ⟨x, hx⟩ := open_xid m _ _ hz'
    obtain ⟨a4, rfl⟩ := field_bool Try.underlying4 cb (o := 4) (c := c4) rfl (hf 2 _ rfl)
    have hx' : [c1, c2, c3] = xidCells x := hx
    simp only [xidCells, List.cons.injEq, and_true] at hx'
    obtain ⟨rfl, rfl, rfl⟩ := hx'
    exact ⟨(a0, x, a4), rfl, trivial⟩
theorem open_xid_arg {b : Nat} {v : Value} {d : DataW H} {ps : List MemPlace} (hv : Value.okWide Try.prog w .any b 28 v) (h : DataW.Trod enc Try.prog w base spare held 28 v d ps) :
    ∃ x : Xid, v = .agg #[.int .u32 x.1, .string x.2.1, .string x.2.2] := by
  obtain ⟨cs, rfl, hs⟩ := okWide_struct Try.underlying28 hv
  obtain ⟨n, hn⟩ := h
  obtain ⟨x, hx⟩ := open_xid n _ _ hn
  refine ⟨x, ?_⟩
  have : cs.toList = xidCells x := by simpa [Value.cells] using hx
  congr 1
  exact Array.toList_inj.1 (by rw [this]; rfl)
theorem open_ascs {b : Nat} {v : Value} {d : DataW H} {ps : List MemPlace} (hv : Value.okWide Try.prog w .any b 23 v) (h : DataW.Trod enc Try.prog w base spare held 23 v d ps) :
    ∃ L : List Asc, Slc ascEnc 5 w v L := by
  obtain ⟨a, len, cap, rfl⟩ := okWide_slice Try.underlying23 hv
  obtain ⟨L, hL, _⟩ := open_slc (ρ := ascEnc) (Wf := fun _ => True) Try.underlying23 (show Try.prog.cellsOf 57 = 5 by kernel_rfl) (by omega) (fun n cs y hy => open_asc n cs y hy) ⟨_, _, _, rfl⟩ h
  exact ⟨L, hL⟩
end
end Go.Proofs.Ytcelpincmpjhkaa
