/- Package assoc: Active. Conditions: the row reads as associations; at most a million. -/
import Derived.Test.YtcelpincmpjhkaaAssocE
namespace Go.Proofs.Ytcelpincmpjhkaa
open Go.RowKit
set_option linter.unusedVariables false

def noX : Xid := (0, ⟨#[]⟩, ⟨#[]⟩)
/-- A session's active association. -/
noncomputable def actA (L : List Asc) (s : Int) : Option Xid := if rowE L = 0 then (L.find? (fun a => a.1 == s && !a.2.2)).map (fun a => a.2.1) else none
def optX (o : Option Xid) : Xid := o.getD noX
theorem actA_bad {L : List Asc} (h : rowE L ≠ 0) (s : Int) : actA L s = none := by unfold actA; rw [if_neg h]
theorem find_none_take {p : Asc → Bool} {L : List Asc} {k : Nat} (h : k < L.length) (hn : ∀ a ∈ L.take k, p a = false) (hp : p L[k] = false) : ∀ a ∈ L.take (k + 1), p a = false := by
  rw [List.take_succ_eq_append_getElem h]
  intro a ha
  rcases List.mem_append.1 ha with h1 | h1
  · exact hn a h1
  · rw [List.mem_singleton.1 h1]; exact hp
theorem find_at {p : Asc → Bool} {L : List Asc} {k : Nat} (h : k < L.length) (hn : ∀ a ∈ L.take k, p a = false) (hp : p L[k] = true) : L.find? p = some L[k] := by
  have e : L = L.take k ++ L[k] :: L.drop (k + 1) := by rw [← List.drop_eq_getElem_cons h, List.take_append_drop]
  have : (L.take k ++ L[k] :: L.drop (k + 1)).find? p = some L[k] := by
    rw [List.find?_append, List.find?_eq_none.2 (fun a ha => by simp [hn a ha]), List.find?_cons_of_pos hp]; rfl
  rw [← e] at this; exact this

theorem below_set {B : Nat} {w w1 : World} {b : Nat} (h : Below B w w1) (hb : B ≤ b) (j : Nat) (v : Value) : Below B w (w1.setCell ⟨b, j, none⟩ v) := Below.setCell h hb v
theorem bytes_self (a : ByteArray) : (a == a) = true := by rw [beq_toListBytes]; simp

set_option maxRecDepth 100000 in
set_option maxHeartbeats 1600000 in
theorem active_any (w : World) (v : Value) (L : List Asc) (s : Int) (hs : Slc ascEnc 5 w v L) (hL : L.length ≤ 1000000) :
    Calls Try.prog 49 #[v, .int .u64 s] w fun e w' => e = .returned (.tuple #[.agg #[.int .u32 (optX (actA L s)).1, .string (optX (actA L s)).2.1, .string (optX (actA L s)).2.2], .bool (actA L s).isSome]) ∧ Below w.heap.size w w' := by
  obtain ⟨a, cap, rfl, hm⟩ := hs.len
  unfold maxLen at hm
  have hB0 := (Below.refl w.heap.size w).alloc (Nat.le_refl _) (.cells #[.int .u32 0, .string ⟨#[]⟩, .string ⟨#[]⟩] 28)
  have b0 := Blk.new w [.int .u32 0, .string ⟨#[]⟩, .string ⟨#[]⟩] 28
  have hc := check_any (w.alloc (.cells #[.int .u32 0, .string ⟨#[]⟩, .string ⟨#[]⟩] 28)) _ L (hs.pure hB0) hL
  obtain ⟨r, hr⟩ : ∃ r, r = rowE L := ⟨_, rfl⟩
  rw [← hr] at hc
  by_cases hz : r = 0
  · have hrz := Lib.hid (show rowE L = 0 by rw [← hr]; exact hz)
    have hzb : (r != 0) = false := by rw [hz]; rfl
    clear hz hr
    go_enter Try.func49, Try.ntmps49
    go_wp2_with (go_at_call 78; refine hc.mono ?_; clear hc; rintro e w1 ⟨rfl, hB1⟩; have b1 := b0.pure hB1; have c0 : w1.cell? ⟨w.heap.size, 0, none⟩ = some (.int .u32 0) := b1.cell 0; have z0 := b1.frozen 0; have c1 : w1.cell? ⟨w.heap.size, 1, none⟩ = some (.string ⟨#[]⟩) := b1.cell 1; have z1 := b1.frozen 1; have c2 : w1.cell? ⟨w.heap.size, 2, none⟩ = some (.string ⟨#[]⟩) := b1.cell 2; have z2 := b1.frozen 2)
    have hB1t := hB0.trans (hB1.mono (by simp))
    have hB1s : w.heap.size + 1 ≤ w1.heap.size := by have := hB1.size; simpa using this
    go_loopw [14] (fun s14 wr => ∃ k : Nat, k ≤ L.length ∧ s14 = .int .i64 k ∧ (∀ a ∈ L.take k, (a.1 == s && !a.2.2) = false) ∧ Below w1.heap.size w1 wr) (fun s14 _ => L.length - (intOf s14).toNat)
    case atStart => exact ⟨0, by omega, rfl, by simp, Below.refl _ _⟩
    case round =>
      obtain ⟨k, hk, rfl, hN, hB⟩ := hrel
      have hN' := Lib.hid hN; clear hN
      have hBs := hB.size
      clear c0 c1 c2 z0 z1 z2
      have b2 := b1.pure hB
      by_cases hlt : k < L.length
      · have hsr := (hs.pure hB1t).pure hB
        obtain ⟨g, off, rfl⟩ := hsr.addr hlt
        obtain ⟨c0, c1, c2, c3, c4⟩ := asc_cells hsr hlt
        have hfa := Lib.hid (fun hp => find_at (p := fun a => a.1 == s && !a.2.2) hlt hN'.out hp)
        have hfn := Lib.hid (fun hp => find_none_take (p := fun a => a.1 == s && !a.2.2) hlt hN'.out hp)
        obtain ⟨x, hx⟩ : ∃ x, x = L[k] := ⟨_, rfl⟩
        rw [← hx] at c0 c1 c2 c3 c4 hfa hfn
        clear hx
        obtain ⟨xs, ⟨xf, xg, xb⟩, xz⟩ := x
        simp only at c0 c1 c2 c3 c4 hfa hfn
        have b3 := b2.alloc (.cells #[.int .u64 xs, .int .u32 xf, .string xg, .string xb, .bool xz] 57)
        have b4 := Blk.new wr [.int .u64 xs, .int .u32 xf, .string xg, .string xb, .bool xz] 57
        have hBb := hB.alloc hBs (.cells #[.int .u64 xs, .int .u32 xf, .string xg, .string xb, .bool xz] 57)
        have z0 := b3.frozen 0; have d0 : (wr.alloc (.cells #[.int .u64 xs, .int .u32 xf, .string xg, .string xb, .bool xz] 57)).cell? ⟨w.heap.size, 0, none⟩ = some (.int .u32 0) := b3.cell 0
        have z1 := b3.frozen 1; have d1 : (wr.alloc (.cells #[.int .u64 xs, .int .u32 xf, .string xg, .string xb, .bool xz] 57)).cell? ⟨w.heap.size, 1, none⟩ = some (.string ⟨#[]⟩) := b3.cell 1
        have z2 := b3.frozen 2; have d2 : (wr.alloc (.cells #[.int .u64 xs, .int .u32 xf, .string xg, .string xb, .bool xz] 57)).cell? ⟨w.heap.size, 2, none⟩ = some (.string ⟨#[]⟩) := b3.cell 2
        cases hq : (xs == s && !xz)
        · have hN2 := Lib.hid (hfn.out hq)
          have hqe : ∀ u : World, (binOp .eql 57 (.agg #[.int .u64 xs, .int .u32 xf, .string xg, .string xb, .bool xz]) (.agg #[.int .u64 s, .int .u32 xf, .string xg, .string xb, .bool false])).run Try.prog u = .ok (.bool false) u := fun u => by
            rw [asc_eql]; revert hq; cases (xs == s) <;> cases xz <;> simp [bytes_self]
          clear hq
          go_wp2
          go_roundw
          case rel => exact ⟨k + 1, by omega, by go_num, hN2.out, hBb⟩
          case measure => simp [intOf]; omega
        · have hF := Lib.hid (hfa.out hq)
          have hqe : ∀ u : World, (binOp .eql 57 (.agg #[.int .u64 xs, .int .u32 xf, .string xg, .string xb, .bool xz]) (.agg #[.int .u64 s, .int .u32 xf, .string xg, .string xb, .bool false])).run Try.prog u = .ok (.bool true) u := fun u => by
            rw [asc_eql]; revert hq; cases (xs == s) <;> cases xz <;> simp [bytes_self]
          clear hq
          go_wp2
          have hA : actA L s = some (xf, xg, xb) := by unfold actA; rw [if_pos hrz.out, hF.out]; rfl
          have b5 := ((b3.set 0 (.int .u32 xf)).set 1 (.string xg)).set 2 (.string xb)
          have y0 := b5.cell 0; have y1 := b5.cell 1; have y2 := b5.cell 2
          simp only [List.set, List.getElem?_cons_zero, List.getElem?_cons_succ] at y0 y1 y2
          rw [hA]
          refine bodyPost_ret (v := .tuple #[.agg #[.int .u32 xf, .string xg, .string xb], .bool true]) (by simp [results, Try.results49, go_sem, y0, y1, y2]) rfl ⟨rfl, ?_⟩
          exact below_set (below_set (below_set (hB1t.trans (hBb.mono hB1t.size)) (Nat.le_refl _) _ _) (Nat.le_refl _) _ _) (Nat.le_refl _) _ _
      · obtain rfl : k = L.length := by omega
        have hN2 := hN'.out
        rw [List.take_length] at hN2
        have hA : actA L s = none := by unfold actA; rw [if_pos hrz.out, List.find?_eq_none.2 (fun a ha => by simpa using hN2 a ha)]; rfl
        have hA' := Lib.hid hA
        clear hN2 hA
        have z0 := b2.frozen 0; have d0 : wr.cell? ⟨w.heap.size, 0, none⟩ = some (.int .u32 0) := b2.cell 0
        have z1 := b2.frozen 1; have d1 : wr.cell? ⟨w.heap.size, 1, none⟩ = some (.string ⟨#[]⟩) := b2.cell 1
        have z2 := b2.frozen 2; have d2 : wr.cell? ⟨w.heap.size, 2, none⟩ = some (.string ⟨#[]⟩) := b2.cell 2
        go_wp2
        have b5 := ((b2.set 0 (.int .u32 0)).set 1 (.string ⟨#[]⟩)).set 2 (.string ⟨#[]⟩)
        have y0 := b5.cell 0; have y1 := b5.cell 1; have y2 := b5.cell 2
        simp only [List.set, List.getElem?_cons_zero, List.getElem?_cons_succ] at y0 y1 y2
        rw [hA'.out]
        refine bodyPost_ret (v := .tuple #[.agg #[.int .u32 0, .string ⟨#[]⟩, .string ⟨#[]⟩], .bool false]) (by simp [results, Try.results49, go_sem, y0, y1, y2]) rfl ⟨rfl, ?_⟩
        exact below_set (below_set (below_set (hB1t.trans (hB.mono hB1t.size)) (Nat.le_refl _) _ _) (Nat.le_refl _) _ _) (Nat.le_refl _) _ _
  · have hn := Lib.hid (actA_bad (L := L) (by rw [← hr]; exact hz) s)
    have hzb : (r != 0) = true := bne_iff_ne.2 hz
    clear hz hr
    go_enter Try.func49, Try.ntmps49
    go_wp2_with (go_at_call 78; refine hc.mono ?_; clear hc; rintro e w1 ⟨rfl, hB1⟩; have b1 := b0.pure hB1; have c0 : w1.cell? ⟨w.heap.size, 0, none⟩ = some (.int .u32 0) := b1.cell 0; have z0 := b1.frozen 0; have c1 : w1.cell? ⟨w.heap.size, 1, none⟩ = some (.string ⟨#[]⟩) := b1.cell 1; have z1 := b1.frozen 1; have c2 : w1.cell? ⟨w.heap.size, 2, none⟩ = some (.string ⟨#[]⟩) := b1.cell 2; have z2 := b1.frozen 2)
    have hB1t := hB0.trans (hB1.mono (by simp))
    have b5 := ((b1.set 0 (.int .u32 0)).set 1 (.string ⟨#[]⟩)).set 2 (.string ⟨#[]⟩)
    have y0 := b5.cell 0; have y1 := b5.cell 1; have y2 := b5.cell 2
    simp only [List.set, List.getElem?_cons_zero, List.getElem?_cons_succ] at y0 y1 y2
    rw [hn.out]
    refine bodyPost_ret (v := .tuple #[.agg #[.int .u32 0, .string ⟨#[]⟩, .string ⟨#[]⟩], .bool false]) (by simp [results, Try.results49, go_sem, y0, y1, y2]) rfl ⟨rfl, ?_⟩
    exact below_set (below_set (below_set hB1t (Nat.le_refl _) _ _) (Nat.le_refl _) _ _) (Nat.le_refl _) _ _
end Go.Proofs.Ytcelpincmpjhkaa
