/- Contracts of package credit, first part: there, New, at, give, stop, spend, on, Give, Stop, Credit. Conditions: the round's memory as 'Rnd' says. -/
import Derived.Test.YtelebabegbkdnaaStrs
namespace Go.Proofs.Ytelebabegbkdnaa
open Go.RowKit

/-- A subscription: its tag, its credit. -/
abbrev Sub := ByteArray × Int
def subEnc (p : Sub) : List Value := [.string p.1, .int .u32 p.2]
def findS (L : List Sub) (t : ByteArray) : Option Nat := L.findIdx? (fun p => sameS p.1 t)

set_option maxHeartbeats 400000 in
theorem there_nil (w : World) :
    Calls Try.prog 22 #[.pointer none] w fun e w' => e = .returned (.bool false) ∧ w = w' := by
  go_enter Try.func22, Try.ntmps22
  go_wp2
  go_ret
  exact ⟨rfl, rfl⟩

set_option maxHeartbeats 400000 in
theorem there_ok (w : World) (b : Nat) (m : Bool) (h : w.cell? ⟨b, 2, none⟩ = some (.bool m)) :
    Calls Try.prog 22 #[.pointer (some ⟨b, 0, none⟩)] w fun e w' => e = .returned (.bool m) ∧ w = w' := by
  go_enter Try.func22, Try.ntmps22
  go_wp2
  go_ret
  exact ⟨rfl, rfl⟩

set_option maxHeartbeats 400000 in
theorem at1_any (w : World) (s t : ByteArray) (n : Int) (b : Nat) (h : w.cell? ⟨b, 0, none⟩ = some (.string t)) :
    Calls Try.prog 34 #[.agg #[.string s, .int .u32 n], .pointer (some ⟨b, 0, none⟩)] w fun e w' =>
      e = .returned (.bool (sameS s t)) ∧ Below w.heap.size w w' := by
  have hb : b < w.heap.size := World.block_lt_of_cell? w _ h
  go_enter Try.func34, Try.ntmps34
  go_wp2
  go_ret
  exact ⟨rfl, (Below.refl _ _).alloc (Nat.le_refl _) _⟩

set_option maxHeartbeats 400000 in
theorem index_any (w : World) (t : ByteArray) (B : Nat) (v : Value) (L : List Sub) (hb : w.cell? ⟨B, 0, none⟩ = some (.string t)) (hs : Slc subEnc 2 w v L) :
    Calls Try.prog 33 #[v, .func (.func 34) #[] #[.pointer (some ⟨B, 0, none⟩)]] w fun e w' => 
      e = .returned (.int .i64 (idxOf (findS L t))) ∧ Below w.heap.size w w' := by
  have hbl := World.block_lt_of_cell? w _ hb
  rcases hs with ⟨a, cap, rfl, _, rfl⟩ | ⟨g, off, cap, rfl, h1, h2, hc⟩
  · go_enter Try.func33, Try.ntmps33
    go_wp2
    go_loopw [8] (fun s8 wr => s8 = .int .i64 0 ∧ Below w.heap.size w wr) (fun _ _ => 0)
    case atStart => exact ⟨rfl, Below.refl _ _⟩
    case round =>
      obtain ⟨rfl, hB⟩ := hrel
      go_wp2
      go_ret
      exact ⟨rfl, hB⟩
  · unfold maxLen at h2
    go_enter Try.func33, Try.ntmps33
    go_wp2
    go_loopw [8] (fun s8 wr => ∃ k : Nat, k ≤ L.length ∧ s8 = .int .i64 k ∧ Below w.heap.size w wr ∧ findS (L.take k) t = none) (fun s8 _ => L.length - (intOf s8).toNat)
    case atStart => exact ⟨0, by omega, rfl, Below.refl _ _, by simp [findS]⟩
    case round =>
      obtain ⟨k, hk, rfl, hB, hno⟩ := hrel
      have hno' := Lib.hid hno; clear hno
      have hb' : wr.cell? ⟨B, 0, none⟩ = some (.string t) := (hB.cell (p := ⟨B, 0, none⟩) hbl).trans hb
      by_cases hlt : k < L.length
      · have c0 := hc k hlt 0 _ rfl
        have c1 := hc k hlt 1 _ rfl
        have hgl := World.block_lt_of_cell? w _ c0
        have d0 := (hB.cell (p := ⟨g, off + k * 2 + 0, none⟩) hgl).trans c0
        have d1 := (hB.cell (p := ⟨g, off + k * 2 + 1, none⟩) hgl).trans c1
        clear c0 c1 hc
        simp only [Nat.add_zero] at d0
        cases hq : sameS L[k].1 t
        · have hq' := Lib.hid hq
          go_wp2_with (go_at_call 34; refine (at1_any _ _ _ _ _ hb').mono ?_; rintro e w' ⟨rfl, hB'⟩)
          go_roundw
          case rel => exact ⟨k + 1, by omega, by go_num, hB.trans (hB'.mono hB.size), findP_no hlt hno'.out hq'.out⟩
          case measure => simp [intOf]; omega
        · have hq' := Lib.hid hq
          go_wp2_with (go_at_call 34; refine (at1_any _ _ _ _ _ hb').mono ?_; rintro e w' ⟨rfl, hB'⟩)
          go_ret
          refine ⟨?_, hB.trans (hB'.mono hB.size)⟩
          unfold findS; rw [findP_yes (p := fun p : Sub => sameS p.1 t) hlt hno'.out hq'.out]; rfl
      · go_wp2
        go_ret
        have : k = L.length := by omega
        subst this
        refine ⟨?_, hB⟩
        have := hno'.out
        rw [List.take_length] at this
        rw [this]; rfl

set_option maxHeartbeats 400000 in
theorem at_any (w : World) (t : ByteArray) (r : Nat) (v : Value) (L : List Sub) (hr : w.cell? ⟨r, 0, none⟩ = some v) (hs : Slc subEnc 2 w v L) :
    Calls Try.prog 23 #[.pointer (some ⟨r, 0, none⟩), .string t] w fun e w' => 
      e = .returned (.int .i64 (idxOf (findS L t))) ∧ Below w.heap.size w w' := by
  have hrl : r < w.heap.size := World.block_lt_of_cell? w _ hr
  have hB := (Below.refl w.heap.size w).alloc (Nat.le_refl _) (.cells #[.string t] 9)
  have hs' := hs.pure hB
  have hb' : (w.alloc (.cells #[.string t] 9)).cell? ⟨w.heap.size, 0, none⟩ = some (.string t) := (Blk.new w [.string t] _).cell 0
  have hr' := (hB.cell (p := ⟨r, 0, none⟩) hrl).trans hr
  have hsz : v = v := rfl
  go_enter Try.func23, Try.ntmps23
  go_wp2_with (go_at_call 33; refine (index_any _ _ _ _ _ hb' hs').mono ?_; rintro e w' ⟨rfl, hB'⟩)
  go_ret
  exact ⟨rfl, hB.trans (hB'.mono (by simp))⟩

/-- The round at address r: its slice v, its subscriptions L, the first of the next turn. -/
def Rnd (w : World) (r : Nat) (v : Value) (L : List Sub) (nx : Nat) : Prop :=
  Blk w r [v, .int .i64 nx, .bool true] ∧ Own 0 59 2 subEnc w v L ∧ v.ownBlock ≠ some r

/-- The blocks of a round. -/
def RndS (r : Nat) (v : Value) (k : Nat) : Prop := k = r ∨ v.ownBlock = some k

theorem subEnc_len (p : Sub) : (subEnc p).length = 2 := rfl
theorem subEnc_one (p : Sub) : ∀ u ∈ subEnc p, u.oneCell' = true := by simp [subEnc, Value.oneCell']
theorem Rnd.slc {w : World} {r : Nat} {v : Value} {L : List Sub} {nx : Nat} (h : Rnd w r v L nx) : Slc subEnc 2 w v L := h.2.1.slc subEnc_len
theorem Rnd.c0 {w : World} {r : Nat} {v : Value} {L : List Sub} {nx : Nat} (h : Rnd w r v L nx) : w.cell? ⟨r, 0, none⟩ = some v := h.1.cell 0
theorem Rnd.c1 {w : World} {r : Nat} {v : Value} {L : List Sub} {nx : Nat} (h : Rnd w r v L nx) : w.cell? ⟨r, 1, none⟩ = some (.int .i64 nx) := h.1.cell 1
theorem Rnd.c2 {w : World} {r : Nat} {v : Value} {L : List Sub} {nx : Nat} (h : Rnd w r v L nx) : w.cell? ⟨r, 2, none⟩ = some (.bool true) := h.1.cell 2
theorem Rnd.pure {w w' : World} {r : Nat} {v : Value} {L : List Sub} {nx : Nat} (h : Rnd w r v L nx) (hb : Below w.heap.size w w') : Rnd w' r v L nx :=
  ⟨h.1.pure hb, h.2.1.pure hb, h.2.2⟩
theorem Rnd.upd {S : Nat → Prop} {w w' : World} {r : Nat} {v : Value} {L : List Sub} {nx : Nat} (h : Rnd w r v L nx) (hb : Upd S w w') (hs : ∀ k, RndS r v k → ¬ S k) : Rnd w' r v L nx :=
  ⟨h.1.upd hb (hs r (.inl rfl)), h.2.1.upd hb (fun k hk => hs k (.inr hk)), h.2.2⟩

set_option maxHeartbeats 400000 in
theorem new_any (w : World) :
    Calls Try.prog 8 #[] w fun e w' => e = .returned (.pointer (some ⟨w.heap.size, 0, none⟩)) ∧ Below w.heap.size w w' ∧ Rnd w' w.heap.size (.slice none 0 0) [] 0 := by
  go_enter Try.func8, Try.ntmps8
  go_wp2
  go_ret
  refine ⟨rfl, (Below.refl _ _).alloc (Nat.le_refl _) _, ?_, Own.nil, by simp [Value.ownBlock]⟩
  exact Blk.new w [.slice none 0 0, .int .i64 0, .bool true] _

/-- What give leaves. -/
def gave (c n : Int) : Int := c + if 4294967295 - c < n then 4294967295 - c else n
/-- What spend leaves. -/
def spent (c : Int) : Int := if c = 4294967295 then c else c - 1

set_option maxHeartbeats 400000 in
theorem give_any (w : World) (g o : Nat) (c n : Int) (hc : w.cell? ⟨g, o, none⟩ = some (.int .u32 c)) (hf : w.frozen? ⟨g, o, none⟩ = false)
    (c0 : 0 ≤ c) (c1 : c ≤ 4294967295) (n0 : 0 ≤ n) (n1 : n ≤ 4294967295) :
    Calls Try.prog 25 #[.pointer (some ⟨g, o, none⟩), .int .u32 n] w fun e w' =>
      e = .returned (.tuple #[]) ∧ w' = (w.setCell ⟨g, o, none⟩ (.int .u32 (gave c n))).drew := by
  go_enter Try.func25, Try.ntmps25
  go_wp2
  go_region
  go_end0
  exact ⟨rfl, rfl⟩

set_option maxHeartbeats 400000 in
theorem stop_any (w : World) (g o : Nat) (c n : Int) (hc : w.cell? ⟨g, o, none⟩ = some (.int .u32 c)) (hf : w.frozen? ⟨g, o, none⟩ = false) :
    Calls Try.prog 30 #[.pointer (some ⟨g, o, none⟩), .int .u32 n] w fun e w' =>
      e = .returned (.tuple #[]) ∧ w' = w.setCell ⟨g, o, none⟩ (.int .u32 0) := by
  go_enter Try.func30, Try.ntmps30
  go_wp2
  go_end0
  exact ⟨rfl, rfl⟩

set_option maxHeartbeats 400000 in
theorem spend_any (w : World) (g o : Nat) (c : Int) (hc : w.cell? ⟨g, o, none⟩ = some (.int .u32 c)) (hf : w.frozen? ⟨g, o, none⟩ = false)
    (c0 : 0 < c) (c1 : c ≤ 4294967295) :
    Calls Try.prog 28 #[.pointer (some ⟨g, o, none⟩)] w fun e w' =>
      e = .returned (.tuple #[]) ∧ Upd (· = g) w w' ∧ (w' = w.setCell ⟨g, o, none⟩ (.int .u32 (spent c)) ∨ (w' = w ∧ spent c = c)) := by
  by_cases h : c = 4294967295
  · have hq : (c == 4294967295) = true := by simp [h]
    have hq2 : (c != 4294967295) = false := by simp [h]
    have h' := Lib.hid h; clear h
    go_enter Try.func28, Try.ntmps28
    go_wp2
    go_end0
    exact ⟨rfl, Upd.refl _ _, .inr ⟨rfl, by simp [spent, h'.out]⟩⟩
  · have hq : (c == 4294967295) = false := by simp [h]
    have hq2 : (c != 4294967295) = true := by simp [h]
    have h' := Lib.hid h; clear h
    go_enter Try.func28, Try.ntmps28
    go_wp2
    go_end0
    refine ⟨rfl, Upd.set (S := (· = g)) (p := ⟨g, o, none⟩) rfl _, .inl ?_⟩
    unfold spent; rw [if_neg h'.out]

set_option maxHeartbeats 400000 in
theorem credit1_any (w : World) (g o B : Nat) (c n : Int) (x : Value) (hc : w.cell? ⟨g, o, none⟩ = some (.int .u32 c)) (hB : w.cell? ⟨B, 0, none⟩ = some x) (hf : w.frozen? ⟨B, 0, none⟩ = false) :
    Calls Try.prog 32 #[.pointer (some ⟨g, o, none⟩), .int .u32 n, .pointer (some ⟨B, 0, none⟩)] w fun e w' =>
      e = .returned (.tuple #[]) ∧ w' = w.setCell ⟨B, 0, none⟩ (.int .u32 c) := by
  go_enter Try.func32, Try.ntmps32
  go_wp2
  go_end0
  exact ⟨rfl, rfl⟩

end Go.Proofs.Ytelebabegbkdnaa
