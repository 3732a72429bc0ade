/- Document's side of chapter 18: Find. Conditions: at most a million. -/
import Derived.Test.YtfjpdikaodojhaaAssocJ
namespace Go.Proofs.Ytfjpdikaodojhaa
open Go.RowKit
set_option linter.unusedVariables false

theorem bytes_beq_eq (a b : ByteArray) : (a == b) = decide (a = b) := by
  rw [beq_toListBytes]
  by_cases h : a = b
  · subst h; simp
  · rw [decide_eq_false h]
    apply beq_eq_false_iff_ne.2
    intro e
    apply h
    have : a.data.toList = b.data.toList := by rw [ByteArray.toList_eq, ByteArray.toList_eq] at e; exact e
    cases a; cases b; simp only [ByteArray.mk.injEq]; exact Array.toList_inj.1 this
theorem key_beq {a : Asc} {s yf : Int} {yg yb : ByteArray} : (a.1 == s && (a.2.1.1 == yf && (a.2.1.2.1 == yg && a.2.1.2.2 == yb))) = decide (keyA a = (s, yf, yg, yb)) := by
  obtain ⟨a1, ⟨a2, a3, a4⟩, a5⟩ := a
  simp only [keyA, bytes_beq_eq, Prod.mk.injEq, Bool.decide_and]
  rfl
/-- The first place. -/
def FndA (L : List Asc) (s : Int) (x : Xid) (i : Int) : Prop := (¬ Mem L s x ∧ i = -1) ∨ ∃ k : Nat, ∃ h : k < L.length, keyA L[k] = (s, x) ∧ i = k

set_option maxRecDepth 100000 in
set_option maxHeartbeats 1600000 in
theorem find_any (w : World) (v : Value) (L : List Asc) (s : Int) (y : Xid) (hs : Slc ascEnc 5 w v L) (hL : L.length ≤ 1000000) :
    Calls Try.prog 12 #[v, .int .u64 s, .agg #[.int .u32 y.1, .string y.2.1, .string y.2.2]] w fun e w' => (∃ i, e = .returned (.int .i64 i) ∧ FndA L s y i) ∧ Below w.heap.size w w' := by
  obtain ⟨yf, yg, yb⟩ := y
  simp only
  obtain ⟨a, cap, rfl, hm⟩ := hs.len
  unfold maxLen at hm
  have hB0 := (Below.refl w.heap.size w).alloc (Nat.le_refl _) (.cells #[.int .u32 yf, .string yg, .string yb] 26)
  have b0 := Blk.new w [.int .u32 yf, .string yg, .string yb] 26
  go_enter Try.func12, Try.ntmps12
  go_wp2
  go_loopw [7] (fun s7 wr => ∃ k : Nat, k ≤ L.length ∧ s7 = .int .i64 k ∧ (∀ j, (h : j < L.length) → j < k → keyA L[j] ≠ (s, yf, yg, yb)) ∧ Below (w.heap.size + 1) (w.alloc (.cells #[.int .u32 yf, .string yg, .string yb] 26)) wr) (fun s7 _ => L.length - (intOf s7).toNat)
  case atStart => exact ⟨0, by omega, rfl, fun j _ h => by omega, Below.refl _ _⟩
  case round =>
    obtain ⟨k, hk, rfl, hN, hB⟩ := hrel
    have hN' := Lib.hid hN; clear hN
    have hBt := hB0.trans (hB.mono (by omega))
    have b1 := b0.below hB (by omega)
    by_cases hlt : k < L.length
    · have hsr := hs.pure hBt
      obtain ⟨g, off, rfl⟩ := hsr.addr hlt
      obtain ⟨c0, c1, c2, c3, c4⟩ := asc_cells hsr hlt
      have d0 : wr.cell? ⟨w.heap.size, 0, none⟩ = some (.int .u32 yf) := b1.cell 0
      have d1 : wr.cell? ⟨w.heap.size, 1, none⟩ = some (.string yg) := b1.cell 1
      have d2 : wr.cell? ⟨w.heap.size, 2, none⟩ = some (.string yb) := b1.cell 2
      have hkb := Lib.hid (key_beq (a := L[k]) (s := s) (yf := yf) (yg := yg) (yb := yb))
      have hx0 := fun (u : World) => xid_eql u L[k].2.1.1 yf L[k].2.1.2.1 L[k].2.1.2.2 yg yb
      have hst := fun (j : Nat) (h : j < L.length) (h' : j < k + 1) (hn : keyA L[k] ≠ (s, yf, yg, yb)) => show keyA L[j] ≠ (s, yf, yg, yb) from by
        rcases Nat.lt_or_ge j k with q | q
        · exact hN'.out j h q
        · obtain rfl : j = k := by omega
          exact hn
      have hst' := Lib.hid hst; clear hst
      obtain ⟨p, hp⟩ : ∃ p, (L[k].2.1.1 == yf && (L[k].2.1.2.1 == yg && L[k].2.1.2.2 == yb)) = p := ⟨_, rfl⟩
      simp only [hp] at hx0
      have hp' := Lib.hid hp; clear hp
      cases hq : (L[k].1 == s)
      · have hne : keyA L[k] ≠ (s, yf, yg, yb) := fun e => by have := hkb.out; rw [hq, e] at this; simp at this
        have hne' := Lib.hid hne; clear hne
        go_wp2
        go_quiet (fail)
        go_wp2
        go_roundw
        case rel => exact ⟨k + 1, by omega, by go_num, fun j h h' => hst'.out j h h' hne'.out, below_drewN hB _⟩
        case measure => simp [intOf]; omega
      · cases p
        · have hne : keyA L[k] ≠ (s, yf, yg, yb) := fun e => by have := hkb.out; rw [hq, hp'.out, e] at this; simp at this
          have hne' := Lib.hid hne; clear hne
          go_wp2
          go_quiet (fail)
          go_wp2
          go_roundw
          case rel => exact ⟨k + 1, by omega, by go_num, fun j h h' => hst'.out j h h' hne'.out, below_drewN hB _⟩
          case measure => simp [intOf]; omega
        · have he : keyA L[k] = (s, yf, yg, yb) := by have := hkb.out; rw [hq, hp'.out] at this; simpa using this.symm
          have he' := Lib.hid he; clear he
          go_wp2
          go_quiet (fail)
          go_wp2
          go_ret
          exact ⟨⟨_, rfl, Or.inr ⟨k, hlt, he'.out, rfl⟩⟩, below_drewN hBt _⟩
    · obtain rfl : k = L.length := by omega
      go_wp2
      go_ret
      exact ⟨⟨_, rfl, Or.inl ⟨fun ⟨j, h, e⟩ => hN'.out j h h e, rfl⟩⟩, hBt⟩
end Go.Proofs.Ytfjpdikaodojhaa
