/- Names of branches and associations: how they lie in memory; package cmp's and xid's comparisons. Conditions: none. -/
import Derived.Test.YtcelpincmpjhkaaOrd
import Derived.Test.YtcelpincmpjhkaaStrs0
import Derived.Test.YtcelpincmpjhkaaOwnSub
import Derived.Test.YtcelpincmpjhkaaOpen
import Derived.Test.YtcelpincmpjhkaaProg
import Derived.Deep.RegionHeld3
import Derived.Lib.Bytealg
import Derived.Laws.Externs
namespace Go.Proofs.Ytcelpincmpjhkaa
open Go.RowKit
set_option linter.unusedVariables false

theorem nan64 (w : World) (x : Int) : Calls Try.prog 135 #[.int .u64 x] w fun e w' => e = .returned (.bool false) ∧ w = w' := by
  go_enter Try.func135, Try.ntmps135
  go_wp2
  go_ret
  exact ⟨by simp, rfl⟩
theorem nan32 (w : World) (x : Int) : Calls Try.prog 126 #[.int .u32 x] w fun e w' => e = .returned (.bool false) ∧ w = w' := by
  go_enter Try.func126, Try.ntmps126
  go_wp2
  go_ret
  exact ⟨by simp, rfl⟩

theorem cmp64 (w : World) (a b : Int) : Calls Try.prog 128 #[.int .u64 a, .int .u64 b] w fun e w' => e = .returned (.int .i64 (cmpI a b)) ∧ w = w' := by
  unfold cmpI
  by_cases h1 : a < b
  · rw [if_pos h1]
    go_enter Try.func128, Try.ntmps128
    go_wp2_with (first | (go_at_call 135; refine (nan64 _ _).mono ?_; rintro e w' ⟨rfl, rfl⟩))
    go_ret
    exact ⟨rfl, rfl⟩
  · rw [if_neg h1]
    by_cases h2 : b < a
    · rw [if_pos h2]
      go_enter Try.func128, Try.ntmps128
      go_wp2_with (first | (go_at_call 135; refine (nan64 _ _).mono ?_; rintro e w' ⟨rfl, rfl⟩))
      go_ret
      exact ⟨rfl, rfl⟩
    · rw [if_neg h2]
      go_enter Try.func128, Try.ntmps128
      go_wp2_with (first | (go_at_call 135; refine (nan64 _ _).mono ?_; rintro e w' ⟨rfl, rfl⟩))
      go_ret
      exact ⟨rfl, rfl⟩
theorem cmp32 (w : World) (a b : Int) : Calls Try.prog 113 #[.int .u32 a, .int .u32 b] w fun e w' => e = .returned (.int .i64 (cmpI a b)) ∧ w = w' := by
  unfold cmpI
  by_cases h1 : a < b
  · rw [if_pos h1]
    go_enter Try.func113, Try.ntmps113
    go_wp2_with (first | (go_at_call 126; refine (nan32 _ _).mono ?_; rintro e w' ⟨rfl, rfl⟩))
    go_ret
    exact ⟨rfl, rfl⟩
  · rw [if_neg h1]
    by_cases h2 : b < a
    · rw [if_pos h2]
      go_enter Try.func113, Try.ntmps113
      go_wp2_with (first | (go_at_call 126; refine (nan32 _ _).mono ?_; rintro e w' ⟨rfl, rfl⟩))
      go_ret
      exact ⟨rfl, rfl⟩
    · rw [if_neg h2]
      go_enter Try.func113, Try.ntmps113
      go_wp2_with (first | (go_at_call 126; refine (nan32 _ _).mono ?_; rintro e w' ⟨rfl, rfl⟩))
      go_ret
      exact ⟨rfl, rfl⟩

set_option maxRecDepth 100000 in
theorem cmp_str0 (w : World) (a b : ByteArray) : Calls Try.prog 127 #[.string a, .string b] w fun e w' => e = .returned (.int .i64 (cmpB a b)) ∧ w = w' := by
  go_enter Try.func127, Try.ntmps127
  go_wp2
  rw [run_callFunc_extern Try.func134 (by kernel_rfl) (by kernel_rfl) (by kernel_rfl) (e := Extern.BytealgCompare.compare) (by kernel_rfl), Lib.run_compareString]
  simp only [Result.andThen]
  rw [Oper.upon_value]
  go_wp2
  go_ret
  exact ⟨rfl, rfl⟩
theorem cmp_str (w : World) (a b : ByteArray) : Calls Try.prog 114 #[.string a, .string b] w fun e w' => e = .returned (.int .i64 (cmpB a b)) ∧ w = w' := by
  go_enter Try.func114, Try.ntmps114
  go_wp2_with (go_at_call 127; refine (cmp_str0 _ _ _).mono ?_; rintro e w' ⟨rfl, rfl⟩)
  go_ret
  exact ⟨rfl, rfl⟩

set_option maxHeartbeats 800000 in
theorem or_any (w : World) (v : Value) (L : List Int) (hs : Slc (intEnc .i64) 1 w v L) : Calls Try.prog 112 #[v] w fun e w' => e = .returned (.int .i64 (orI L)) ∧ w = w' := by
  obtain ⟨a, cap, rfl, hm⟩ := hs.len
  unfold maxLen at hm
  go_enter Try.func112, Try.ntmps112
  go_wp2
  go_loop [8] (fun s8 => ∃ k : Nat, k ≤ L.length ∧ s8 = .int .i64 k ∧ ∀ j, (hj : j < L.length) → j < k → L[j] = 0) (fun s8 => L.length - (intOf s8).toNat)
  case atStart => exact ⟨0, by omega, rfl, fun j hj h => by omega⟩
  case round =>
    obtain ⟨k, hk, rfl, hz⟩ := hrel
    have hz' := Lib.hid hz; clear hz
    by_cases hlt : k < L.length
    · obtain ⟨g, off, rfl, c0⟩ := hs.load k hlt
      by_cases hq : L[k] = 0
      · have hqb : (L[k] != 0) = false := by rw [hq]; rfl
        have hq' := Lib.hid hq; clear hq
        go_wp2
        go_round
        case rel => exact ⟨k + 1, by omega, by go_num, fun j hj hjk => by
          rcases Nat.lt_or_ge j k with h | h
          · exact hz'.out j hj h
          · have : j = k := by omega
            subst this; exact hq'.out⟩
        case measure => simp [intOf]; omega
      · have hqb : (L[k] != 0) = true := by simpa using hq
        have hq' := Lib.hid hq; clear hq
        go_wp2
        go_ret
        exact ⟨by rw [orI_take hlt (fun j hj => hz'.out j (by omega) hj), if_pos hq'.out]; rfl, rfl⟩
    · obtain rfl : k = L.length := by omega
      go_wp2
      go_ret
      exact ⟨by rw [orI_zero (fun j hj => hz'.out j hj hj)]; rfl, rfl⟩

/-! ### names -/
def xidCells (x : Xid) : List Value := [.int .u32 x.1, .string x.2.1, .string x.2.2]
theorem or_two {w : World} {g : Nat} {a b : Int} (h0 : w.cell? ⟨g, 0, none⟩ = some (.int .i64 a)) (h1 : w.cell? ⟨g, 1, none⟩ = some (.int .i64 b)) :
    Calls Try.prog 112 #[.slice (some ⟨g, 0, none⟩) 2 2] w fun e w' => e = .returned (.int .i64 (orI [a, b])) ∧ w = w' :=
  or_any w _ [a, b] (.inr ⟨g, 0, 2, rfl, by simp, by unfold maxLen; omega, fun i hi j u hu => by
    match i, hi with
    | 0, _ => match j with
      | 0 => exact h0.trans hu
      | j + 1 => simp [intEnc] at hu
    | 1, _ => match j with
      | 0 => exact h1.trans hu
      | j + 1 => simp [intEnc] at hu⟩)
theorem or_three {w : World} {g : Nat} {a b c : Int} (h0 : w.cell? ⟨g, 0, none⟩ = some (.int .i64 a)) (h1 : w.cell? ⟨g, 1, none⟩ = some (.int .i64 b)) (h2 : w.cell? ⟨g, 2, none⟩ = some (.int .i64 c)) :
    Calls Try.prog 112 #[.slice (some ⟨g, 0, none⟩) 3 3] w fun e w' => e = .returned (.int .i64 (orI [a, b, c])) ∧ w = w' :=
  or_any w _ [a, b, c] (.inr ⟨g, 0, 3, rfl, by simp, by unfold maxLen; omega, fun i hi j u hu => by
    match i, hi with
    | 0, _ => match j with
      | 0 => exact h0.trans hu
      | j + 1 => simp [intEnc] at hu
    | 1, _ => match j with
      | 0 => exact h1.trans hu
      | j + 1 => simp [intEnc] at hu
    | 2, _ => match j with
      | 0 => exact h2.trans hu
      | j + 1 => simp [intEnc] at hu⟩)
theorem new_cell (W : World) (cs : List Value) (T : TypeId) (g : Nat) (hg : g = W.heap.size) (i : Nat) : (W.alloc (.cells cs.toArray T)).drew.cell? ⟨g, i, none⟩ = cs[i]? := by
  subst hg; exact (Blk.new W cs T).cell i
theorem below_dr {B : Nat} {w w' : World} (h : Below B w w') : Below B w w'.drew := ⟨h.os, h.tape, h.output, h.size, h.block⟩
theorem Slc.drew {α : Type} {enc : α → List Value} {m : Nat} {w : World} {v : Value} {L : List α} (h : Slc enc m w v L) : Slc enc m w.drew v L := h

set_option maxHeartbeats 400000 in
theorem xid_compare (w : World) (x y : Xid) :
    Calls Try.prog 77 #[.agg #[.int .u32 x.1, .string x.2.1, .string x.2.2], .agg #[.int .u32 y.1, .string y.2.1, .string y.2.2]] w fun e w' => e = .returned (.int .i64 (cmpX x y)) ∧ Below w.heap.size w w' := by
  obtain ⟨xf, xg, xb⟩ := x
  obtain ⟨yf, yg, yb⟩ := y
  simp only
  have hr : orI [cmpI xf yf, cmpB xg yg, cmpB xb yb] = cmpX (xf, xg, xb) (yf, yg, yb) := by simp only [orI, cmpX, lexC, thenC]; split <;> (try split) <;> (try split) <;> simp_all
  have hr' := Lib.hid hr; clear hr
  go_enter Try.func77, Try.ntmps77
  go_wp2
  go_region_held3 (fun w' => w'.cell? ⟨w.heap.size, 0, none⟩ = some (.int .u32 xf) ∧ w'.cell? ⟨w.heap.size, 1, none⟩ = some (.string xg) ∧ w'.cell? ⟨w.heap.size, 2, none⟩ = some (.string xb) ∧ w'.cell? ⟨w.heap.size + 1, 0, none⟩ = some (.int .u32 yf) ∧ w'.cell? ⟨w.heap.size + 1, 1, none⟩ = some (.string yg) ∧ w'.cell? ⟨w.heap.size + 1, 2, none⟩ = some (.string yb)) (go_keep)
    (first | (go_at_call 113; refine (cmp32 _ _ _).mono ?_; rintro e w' ⟨rfl, rfl⟩) | (go_at_call 114; refine (cmp_str _ _ _).mono ?_; rintro e w' ⟨rfl, rfl⟩) | (go_at_call 112; refine (or_three (a := cmpI xf yf) (b := cmpB xg yg) (c := cmpB xb yb) (new_cell _ _ _ _ ?_ 0) (new_cell _ _ _ _ ?_ 1) (new_cell _ _ _ _ ?_ 2)).mono ?_; (simp); (simp); (simp); rintro e w' ⟨rfl, rfl⟩))
  go_wp2
  go_ret
  exact ⟨by rw [hr'.out]; rfl, below_dr ((((Below.refl _ _).alloc (Nat.le_refl _) _).alloc (by simp) _).alloc (by simp; omega) _)⟩

theorem xid_check (w : World) (x : Xid) :
    Calls Try.prog 99 #[.agg #[.int .u32 x.1, .string x.2.1, .string x.2.2]] w fun e w' => e = .returned (.int .i64 (if 0 < x.2.1.size ∧ x.2.1.size ≤ 64 ∧ x.2.2.size ≤ 64 then 0 else 40)) ∧ Below w.heap.size w w' := by
  obtain ⟨xf, xg, xb⟩ := x
  simp only
  by_cases h0 : 0 < xg.size
  · have he := empty_no h0
    by_cases h1 : xg.size ≤ 64
    · by_cases h2 : xb.size ≤ 64
      · rw [if_pos ⟨h0, h1, h2⟩]
        have g1 : ¬ 64 < xg.size := by omega
        have g2 : ¬ 64 < xb.size := by omega
        go_enter Try.func99, Try.ntmps99
        go_wp2
        go_ret
        exact ⟨rfl, (Below.refl _ _).alloc (Nat.le_refl _) _⟩
      · rw [if_neg (fun h => h2 h.2.2)]
        have g1 : ¬ 64 < xg.size := by omega
        have g2 : 64 < xb.size := by omega
        go_enter Try.func99, Try.ntmps99
        go_wp2
        go_ret
        exact ⟨rfl, (Below.refl _ _).alloc (Nat.le_refl _) _⟩
    · rw [if_neg (fun h => h1 h.2.1)]
      have g1 : 64 < xg.size := by omega
      go_enter Try.func99, Try.ntmps99
      go_wp2
      go_ret
      exact ⟨rfl, (Below.refl _ _).alloc (Nat.le_refl _) _⟩
  · rw [if_neg (fun h => h0 h.1)]
    have he := empty_yes (show xg.size = 0 by omega)
    go_enter Try.func99, Try.ntmps99
    go_wp2
    go_ret
    exact ⟨rfl, (Below.refl _ _).alloc (Nat.le_refl _) _⟩

/-! ### associations -/
/-- An association: its session, its branch, whether it rests. -/
abbrev Asc := Int × Xid × Bool
def ascEnc (a : Asc) : List Value := [.int .u64 a.1, .int .u32 a.2.1.1, .string a.2.1.2.1, .string a.2.1.2.2, .bool a.2.2]
theorem ascEnc_len (p : Asc) : (ascEnc p).length = 5 := rfl
theorem ascEnc_one (p : Asc) : ∀ u ∈ ascEnc p, u.oneCell' = true := by simp [ascEnc, Value.oneCell']
theorem info_asc : (Try.prog.info? 57).map (fun i => (i.zero, i.size, i.bytes)) = some (some (.agg #[.int .u64 0, .int .u32 0, .string ⟨#[]⟩, .string ⟨#[]⟩, .bool false]), 5, 56) := by kernel_rfl
theorem elem_asc : ElemT Try.prog 23 57 5 56 := ElemT.mk' Try.underlying23 info_asc rfl (by omega)
abbrev ascVal (a : Asc) : Value := .agg #[.int .u64 a.1, .int .u32 a.2.1.1, .string a.2.1.2.1, .string a.2.1.2.2, .bool a.2.2]
def keyA (a : Asc) : Int × Xid := (a.1, a.2.1)
def cmpA (a b : Asc) : Int := keyC (keyA a) (keyA b)

set_option maxHeartbeats 400000 in
theorem assoc_compare (w : World) (x y : Asc) :
    Calls Try.prog 115 #[.agg #[.int .u64 x.1, .int .u32 x.2.1.1, .string x.2.1.2.1, .string x.2.1.2.2, .bool x.2.2], .agg #[.int .u64 y.1, .int .u32 y.2.1.1, .string y.2.1.2.1, .string y.2.1.2.2, .bool y.2.2]] w fun e w' => e = .returned (.int .i64 (cmpA x y)) ∧ Below w.heap.size w w' := by
  obtain ⟨xs, ⟨xf, xg, xb⟩, xz⟩ := x
  obtain ⟨ys, ⟨yf, yg, yb⟩, yz⟩ := y
  simp only
  have hr : orI [cmpI xs ys, cmpX (xf, xg, xb) (yf, yg, yb)] = cmpA (xs, (xf, xg, xb), xz) (ys, (yf, yg, yb), yz) := by simp only [orI, cmpA, keyA, keyC]; unfold lexC; unfold thenC; split <;> (try split) <;> simp_all
  have hr' := Lib.hid hr; clear hr
  have hz : w.heap.size + 1 < ((w.alloc (.cells #[.int .u64 xs, .int .u32 xf, .string xg, .string xb, .bool xz] 57)).alloc (.cells #[.int .u64 ys, .int .u32 yf, .string yg, .string yb, .bool yz] 57)).heap.size := by simp
  obtain ⟨W0, hW0⟩ : ∃ W0, W0 = ((w.alloc (.cells #[.int .u64 xs, .int .u32 xf, .string xg, .string xb, .bool xz] 57)).alloc (.cells #[.int .u64 ys, .int .u32 yf, .string yg, .string yb, .bool yz] 57)) := ⟨_, rfl⟩
  have hB0 : Below w.heap.size w W0 := by rw [hW0]; exact ((Below.refl _ _).alloc (Nat.le_refl _) _).alloc (by simp) _
  have b1 : Blk W0 w.heap.size [.int .u64 xs, .int .u32 xf, .string xg, .string xb, .bool xz] := by rw [hW0]; exact (Blk.new w _ _).alloc _
  have b2 : Blk W0 (w.heap.size + 1) [.int .u64 ys, .int .u32 yf, .string yg, .string yb, .bool yz] := by
    rw [hW0]
    have := Blk.new (w.alloc (.cells #[.int .u64 xs, .int .u32 xf, .string xg, .string xb, .bool xz] 57)) [.int .u64 ys, .int .u32 yf, .string yg, .string yb, .bool yz] 57
    simpa using this
  have hS0 : W0.heap.size = w.heap.size + 2 := by rw [hW0]; simp
  have hS0' := Lib.hid hS0; clear hS0
  have e10 := b1.cell 0
  have e11 := b1.cell 1
  have e12 := b1.cell 2
  have e13 := b1.cell 3
  have e20 := b2.cell 0
  have e21 := b2.cell 1
  have e22 := b2.cell 2
  have e23 := b2.cell 3
  clear hz
  go_enter Try.func115, Try.ntmps115
  go_wp2
  rw [← hW0]
  clear hW0
  go_region_held3 (fun w' => w'.cell? ⟨w.heap.size, 0, none⟩ = some (.int .u64 xs) ∧ w'.cell? ⟨w.heap.size, 1, none⟩ = some (.int .u32 xf) ∧ w'.cell? ⟨w.heap.size, 2, none⟩ = some (.string xg) ∧ w'.cell? ⟨w.heap.size, 3, none⟩ = some (.string xb) ∧ w'.cell? ⟨w.heap.size + 1, 0, none⟩ = some (.int .u64 ys) ∧ w'.cell? ⟨w.heap.size + 1, 1, none⟩ = some (.int .u32 yf) ∧ w'.cell? ⟨w.heap.size + 1, 2, none⟩ = some (.string yg) ∧ w'.cell? ⟨w.heap.size + 1, 3, none⟩ = some (.string yb))
    (first | exact ⟨e10, e11, e12, e13, e20, e21, e22, e23⟩ | exact ⟨f10, f11, f12, f13, f20, f21, f22, f23⟩ | exact ⟨g10, g11, g12, g13, g20, g21, g22, g23⟩)
    (first | (go_at_call 128; refine (cmp64 _ _ _).mono ?_; rintro e w' ⟨rfl, rfl⟩) | (go_at_call 77; refine (xid_compare _ (xf, xg, xb) (yf, yg, yb)).mono ?_; rintro e w1 ⟨rfl, hB1⟩; have c1 := b1.drew.pure hB1; have c2 := b2.drew.pure hB1; have f10 := c1.cell 0; have f11 := c1.cell 1; have f12 := c1.cell 2; have f13 := c1.cell 3; have f20 := c2.cell 0; have f21 := c2.cell 1; have f22 := c2.cell 2; have f23 := c2.cell 3; have d1 := c1.alloc (.cells #[.int .i64 (cmpI xs ys), .int .i64 (cmpX (xf, xg, xb) (yf, yg, yb))] 3); have d2 := c2.alloc (.cells #[.int .i64 (cmpI xs ys), .int .i64 (cmpX (xf, xg, xb) (yf, yg, yb))] 3); have g10 := d1.cell 0; have g11 := d1.cell 1; have g12 := d1.cell 2; have g13 := d1.cell 3; have g20 := d2.cell 0; have g21 := d2.cell 1; have g22 := d2.cell 2; have g23 := d2.cell 3; clear e10 e11 e12 e13 e20 e21 e22 e23) | (go_at_call 112; refine (or_two (a := cmpI xs ys) (b := cmpX (xf, xg, xb) (yf, yg, yb)) ((Blk.new _ _ _).cell 0) ((Blk.new _ _ _).cell 1)).mono ?_; rintro e w' ⟨rfl, rfl⟩))
  go_wp2
  go_ret
  have hB2 := (below_dr hB0).trans (hB1.mono (by have := hB0.size; exact this))
  exact ⟨by rw [hr'.out]; rfl, hB2.alloc hB2.size _⟩
end Go.Proofs.Ytcelpincmpjhkaa
