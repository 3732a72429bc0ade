/- Package assoc: at in a right row, Has, Count. Conditions: the row reads as associations; at most a million. -/
import Derived.Test.YtcelpincmpjhkaaAssocF
namespace Go.Proofs.Ytcelpincmpjhkaa
open Go.RowKit
set_option linter.unusedVariables false

theorem place_at {L : List Asc} {s : Int} {x : Xid} {i k : Nat} (hr : Rises L) (hp : PlaceA L (s, x, false) i) (hk : k < L.length) (he : keyA L[k] = (s, x)) : k = i := by
  obtain ⟨h0, h1, h2⟩ := hp
  have hz : cmpA L[k] (s, x, false) = 0 := cmpA_zero.2 he
  rcases Nat.lt_trichotomy k i with h | h | h
  · have := h1 k hk h; omega
  · exact h
  · have h3 : cmpA (L[i]'(by omega)) L[k] < 0 := List.pairwise_iff_getElem.1 hr i k (by omega) hk h
    have h4 := cmpA_lt_le h3 (Int.le_of_eq hz)
    have h5 := h2 i (by omega) (Nat.le_refl _)
    omega
def Mem (L : List Asc) (s : Int) (x : Xid) : Prop := ∃ k, ∃ h : k < L.length, keyA L[k] = (s, x)

theorem at_no (w : World) (v : Value) (L : List Asc) (s : Int) (x : Xid) (hs : Slc ascEnc 5 w v L) (hr : Rises L) (hL : L.length ≤ 1000000) (hn : ¬ Mem L s x) :
    Calls Try.prog 104 #[v, .int .u64 s, .agg #[.int .u32 x.1, .string x.2.1, .string x.2.2]] w fun e w' => ∃ i : Nat, PlaceA L (s, x, false) i ∧ e = .returned (.tuple #[.int .i64 i, .bool false]) ∧ Below w.heap.size w w' := by
  refine (at_any w v L s x hs hr hL).mono ?_
  rintro e w' ⟨i, hi, rfl, hB⟩
  refine ⟨i, hi, ?_, hB⟩
  rw [decide_eq_false]
  rintro ⟨h, hz⟩
  exact hn ⟨i, h, cmpA_zero.1 hz⟩
theorem at_yes (w : World) (v : Value) (L : List Asc) (s : Int) (x : Xid) (k : Nat) (hs : Slc ascEnc 5 w v L) (hr : Rises L) (hL : L.length ≤ 1000000) (hk : k < L.length) (he : keyA L[k] = (s, x)) :
    Calls Try.prog 104 #[v, .int .u64 s, .agg #[.int .u32 x.1, .string x.2.1, .string x.2.2]] w fun e w' => e = .returned (.tuple #[.int .i64 k, .bool true]) ∧ Below w.heap.size w w' := by
  refine (at_any w v L s x hs hr hL).mono ?_
  rintro e w' ⟨i, hi, rfl, hB⟩
  have := place_at hr hi hk he
  subst this
  refine ⟨?_, hB⟩
  rw [decide_eq_true]
  exact ⟨hk, cmpA_zero.2 he⟩

/-- What Has tells. -/
def HasA (L : List Asc) (s : Int) (x : Xid) (b z : Bool) : Prop :=
  (rowE L ≠ 0 ∧ b = false ∧ z = false) ∨ (RowA L ∧ ¬ Mem L s x ∧ b = false ∧ z = false) ∨ (RowA L ∧ ∃ k, ∃ h : k < L.length, keyA L[k] = (s, x) ∧ b = true ∧ z = L[k].2.2)

set_option maxRecDepth 100000 in
set_option maxHeartbeats 1600000 in
theorem has_any (w : World) (v : Value) (L : List Asc) (s : Int) (y : Xid) (hs : Slc ascEnc 5 w v L) (hL : L.length ≤ 1000000) :
    Calls Try.prog 65 #[v, .int .u64 s, .agg #[.int .u32 y.1, .string y.2.1, .string y.2.2]] w fun e w' => (∃ b z, e = .returned (.tuple #[.bool b, .bool z]) ∧ HasA L s y b z) ∧ Below w.heap.size w w' := by
  obtain ⟨yf, yg, yb⟩ := y
  simp only
  have hB0 := (Below.refl w.heap.size w).alloc (Nat.le_refl _) (.cells #[.int .u32 yf, .string yg, .string yb] 28)
  have b0 := Blk.new w [.int .u32 yf, .string yg, .string yb] 28
  have hc := check_any (w.alloc (.cells #[.int .u32 yf, .string yg, .string yb] 28)) v L (hs.pure hB0) hL
  rcases rowE_cases L with ⟨h1, h2⟩ | ⟨h1, h2⟩
  · rw [h2] at hc
    have hr := Lib.hid h1.rises
    rcases Classical.em (Mem L s (yf, yg, yb)) with hm | hm
    · obtain ⟨k, hk, he⟩ := hm
      have he' := Lib.hid he; clear he
      obtain ⟨z, hz⟩ : ∃ z, z = L[k].2.2 := ⟨_, rfl⟩
      have hz' := Lib.hid hz
      obtain ⟨a, cap, rfl, hm⟩ := hs.len
      obtain ⟨g, off, rfl⟩ := hs.addr hk
      clear h2 hm
      have h1' := Lib.hid h1; clear h1
      have hat := Lib.hid (fun (w1 : World) (h : Below w.heap.size w w1) => at_yes w1 _ L s (yf, yg, yb) k (hs.pure h) hr.out hL hk he'.out)
      have hsf := Lib.hid (fun (w1 : World) (h : Below w.heap.size w w1) => hz ▸ (asc_cells (hs.pure h) hk).2.2.2.2)
      clear hz hs
      go_enter Try.func65, Try.ntmps65
      go_wp2_with (first | (go_at_call 78; refine hc.mono ?_; clear hc; rintro e w1 ⟨rfl, hB1⟩; have hB1t := hB0.trans (hB1.mono (by simp)); have b1 := b0.pure hB1; have d0 : w1.cell? ⟨w.heap.size, 0, none⟩ = some (.int .u32 yf) := b1.cell 0; have d1 : w1.cell? ⟨w.heap.size, 1, none⟩ = some (.string yg) := b1.cell 1; have d2 : w1.cell? ⟨w.heap.size, 2, none⟩ = some (.string yb) := b1.cell 2) | (go_at_call 104; refine (hat.out _ hB1t).mono ?_; rintro e w2 ⟨rfl, hB2⟩; have hB2t := hB1t.trans (hB2.mono hB1t.size); have c4 := hsf.out _ hB2t))
      go_quiet (fail)
      go_wp2
      go_ret2
      exact ⟨⟨true, z, rfl, Or.inr (Or.inr ⟨h1'.out, k, hk, he'.out, rfl, hz'.out⟩)⟩, below_drewN hB2t _⟩
    · have h1' := Lib.hid h1; clear h1
      have hm' := Lib.hid hm
      have hat := Lib.hid (fun (w1 : World) (h : Below w.heap.size w w1) => at_no w1 v L s (yf, yg, yb) (hs.pure h) hr.out hL hm)
      obtain ⟨a, n, cap, rfl⟩ := hs.shape3
      clear h2 hm hs
      go_enter Try.func65, Try.ntmps65
      go_wp2_with (first | (go_at_call 78; refine hc.mono ?_; clear hc; rintro e w1 ⟨rfl, hB1⟩; have hB1t := hB0.trans (hB1.mono (by simp)); have b1 := b0.pure hB1; have d0 : w1.cell? ⟨w.heap.size, 0, none⟩ = some (.int .u32 yf) := b1.cell 0; have d1 : w1.cell? ⟨w.heap.size, 1, none⟩ = some (.string yg) := b1.cell 1; have d2 : w1.cell? ⟨w.heap.size, 2, none⟩ = some (.string yb) := b1.cell 2) | (go_at_call 104; refine (hat.out _ hB1t).mono ?_; rintro e w2 ⟨i, hi, rfl, hB2⟩; have hB2t := hB1t.trans (hB2.mono hB1t.size)))
      go_quiet (fail)
      go_wp2
      go_ret2
      exact ⟨⟨false, false, rfl, Or.inr (Or.inl ⟨h1'.out, hm'.out, rfl, rfl⟩)⟩, below_drewN hB2t _⟩
  · have hbad := Lib.hid (show rowE L ≠ 0 by rw [h2]; simp)
    rw [h2] at hc
    obtain ⟨a, n, cap, rfl⟩ := hs.shape3
    clear h2 h1 hs
    go_enter Try.func65, Try.ntmps65
    go_wp2_with (go_at_call 78; refine hc.mono ?_; clear hc; rintro e w1 ⟨rfl, hB1⟩; have hB1t := hB0.trans (hB1.mono (by simp)); have b1 := b0.pure hB1; have d0 : w1.cell? ⟨w.heap.size, 0, none⟩ = some (.int .u32 yf) := b1.cell 0; have d1 : w1.cell? ⟨w.heap.size, 1, none⟩ = some (.string yg) := b1.cell 1; have d2 : w1.cell? ⟨w.heap.size, 2, none⟩ = some (.string yb) := b1.cell 2)
    go_ret2
    exact ⟨⟨false, false, rfl, Or.inl ⟨hbad.out, rfl, rfl⟩⟩, hB1t⟩

theorem own_len {α : Type} {enc : α → List Value} {m base : Nat} {e : TypeId} {w : World} {v : Value} {L : List α} (h : Own base e m enc w v L) : ∃ a c, v = .slice a L.length c := by
  rcases h.cases with ⟨rfl, rfl⟩ | ⟨g, cap, rfl, _⟩
  · exact ⟨none, 0, rfl⟩
  · exact ⟨_, _, rfl⟩

noncomputable def cntA (L : List Asc) (x : Xid) : Int := if rowE L = 0 then (L.length : Int) - ((L.filter (fun a => a.2.1 != x)).length : Nat) else 0
set_option maxRecDepth 100000 in
set_option maxHeartbeats 1600000 in
theorem count_any (w : World) (v : Value) (L : List Asc) (y : Xid) (hs : Slc ascEnc 5 w v L) (hL : L.length ≤ 1000000) :
    Calls Try.prog 116 #[v, .agg #[.int .u32 y.1, .string y.2.1, .string y.2.2]] w fun e w' => e = .returned (.int .i64 (cntA L y)) ∧ Below w.heap.size w w' := by
  obtain ⟨yf, yg, yb⟩ := y
  simp only
  have hB0 := (Below.refl w.heap.size w).alloc (Nat.le_refl _) (.cells #[.int .u32 yf, .string yg, .string yb] 28)
  have b0 := Blk.new w [.int .u32 yf, .string yg, .string yb] 28
  have hc := check_any (w.alloc (.cells #[.int .u32 yf, .string yg, .string yb] 28)) v L (hs.pure hB0) hL
  have hfl : (L.filter (fun a => a.2.1 != (yf, yg, yb))).length ≤ L.length := List.length_filter_le _ _
  rcases rowE_cases L with ⟨h1, h2⟩ | ⟨h1, h2⟩
  · have hv := Lib.hid (show cntA L (yf, yg, yb) = (L.length : Int) - ((L.filter (fun a => a.2.1 != (yf, yg, yb))).length : Nat) by unfold cntA; rw [if_pos h2])
    rw [h2] at hc
    have hwo := Lib.hid (fun (w1 : World) (h : Below w.heap.size w w1) => without_xid w1 v L (yf, yg, yb) (hs.pure h) hL)
    obtain ⟨a, cap, rfl, hm⟩ := hs.len
    clear h2 h1 hs hm
    obtain ⟨n, hn⟩ : ∃ n, n = (L.filter (fun a => a.2.1 != (yf, yg, yb))).length := ⟨_, rfl⟩
    rw [← hn] at hfl hv
    have hn' := Lib.hid hn; clear hn
    have hwrap : IntKind.i64.wrap ((L.length : Int) - (n : Int)) = (L.length : Int) - (n : Int) := IntWalk.i64_in _ (by omega)
    go_enter Try.func116, Try.ntmps116
    go_wp2_with (first | (go_at_call 78; refine hc.mono ?_; clear hc; rintro e w1 ⟨rfl, hB1⟩; have hB1t := hB0.trans (hB1.mono (by simp)); have b1 := b0.pure hB1; have d0 : w1.cell? ⟨w.heap.size, 0, none⟩ = some (.int .u32 yf) := b1.cell 0; have d1 : w1.cell? ⟨w.heap.size, 1, none⟩ = some (.string yg) := b1.cell 1; have d2 : w1.cell? ⟨w.heap.size, 2, none⟩ = some (.string yb) := b1.cell 2) | (go_at_call 129; refine (hwo.out _ hB1t).mono ?_; rintro e w2 ⟨r, rfl, hO, hB2⟩; obtain ⟨ra, rc, rfl⟩ := own_len hO; rw [← hn'.out]; have hB2t := hB1t.trans (hB2.mono hB1t.size)))
    go_ret
    exact ⟨by rw [hv.out]; simp [hwrap], hB2t⟩
  · have hv := Lib.hid (show cntA L (yf, yg, yb) = 0 by unfold cntA; rw [if_neg (by rw [h2]; simp)])
    rw [h2] at hc
    obtain ⟨a, n, cap, rfl⟩ := hs.shape3
    clear h2 h1 hs
    go_enter Try.func116, Try.ntmps116
    go_wp2_with (go_at_call 78; refine hc.mono ?_; clear hc; rintro e w1 ⟨rfl, hB1⟩; have hB1t := hB0.trans (hB1.mono (by simp)); have b1 := b0.pure hB1; have d0 : w1.cell? ⟨w.heap.size, 0, none⟩ = some (.int .u32 yf) := b1.cell 0; have d1 : w1.cell? ⟨w.heap.size, 1, none⟩ = some (.string yg) := b1.cell 1; have d2 : w1.cell? ⟨w.heap.size, 2, none⟩ = some (.string yb) := b1.cell 2)
    go_ret
    exact ⟨by rw [hv.out]; rfl, hB1t⟩
end Go.Proofs.Ytcelpincmpjhkaa
