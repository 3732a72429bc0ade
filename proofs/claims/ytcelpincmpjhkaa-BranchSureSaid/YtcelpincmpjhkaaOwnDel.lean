/- Slices that a call owns, of elements of several cells: what stands when one element is taken out; 'clear' of one element. Conditions: none. -/
import Derived.Test.YtcelpincmpjhkaaOwnCut
namespace Go.Proofs.Ytcelpincmpjhkaa
open Go.RowKit

theorem flat_drop {α : Type} {enc : α → List Value} {m : Nat} (hm : ∀ x, (enc x).length = m) : ∀ (L : List α) (j : Nat), (L.drop j).flatMap enc = (L.flatMap enc).drop (j * m)
  | [], j => by simp
  | x :: L, 0 => by simp
  | x :: L, j + 1 => by
    rw [List.drop_succ_cons, flat_drop hm L j, List.flatMap_cons, List.drop_append, List.drop_eq_nil_of_le (as := enc x) (by rw [hm, Nat.add_mul]; omega), List.nil_append]
    congr 1
    rw [hm, Nat.add_mul]; omega
theorem flat_take {α : Type} {enc : α → List Value} {m : Nat} (hm : ∀ x, (enc x).length = m) : ∀ (L : List α) (j : Nat), (L.take j).flatMap enc = (L.flatMap enc).take (j * m)
  | [], j => by simp
  | x :: L, 0 => by simp
  | x :: L, j + 1 => by
    rw [List.take_succ_cons, List.flatMap_cons, flat_take hm L j, List.flatMap_cons, List.take_append, List.take_of_length_le (l := enc x) (by rw [hm, Nat.add_mul]; omega)]
    congr 2
    rw [hm, Nat.add_mul]; omega

theorem splice_eq (vs xs : List Value) (o : Nat) (h : o + vs.length ≤ xs.length) : splice xs o vs = xs.take o ++ vs ++ xs.drop (o + vs.length) := by
  apply List.ext_getElem?
  intro j
  by_cases hj : j < xs.length
  · rw [splice_get _ _ _ _ hj]
    by_cases h1 : o ≤ j ∧ j < o + vs.length
    · rw [if_pos h1, List.append_assoc, List.getElem?_append_right (by rw [List.length_take]; omega), List.getElem?_append_left (by rw [List.length_take]; omega), List.length_take, Nat.min_eq_left (by omega)]
    · rw [if_neg h1]
      by_cases h2 : j < o
      · rw [List.append_assoc, List.getElem?_append_left (by rw [List.length_take]; omega), List.getElem?_take, if_pos h2]
      · rw [List.getElem?_append_right (by simp; omega), List.getElem?_drop]
        congr 1
        simp; omega
  · rw [List.getElem?_eq_none (by rw [splice_len]; omega), List.getElem?_eq_none (by simp; omega)]

theorem splice_out {α : Type} {enc : α → List Value} {m : Nat} (hm : ∀ x, (enc x).length = m) (L : List α) (i : Nat) (hi : i < L.length) (z : List Value) (hz : z.length = m) :
    (splice (splice (L.flatMap enc) (i * m) ((L.drop (i + 1)).flatMap enc)) ((L.length - 1) * m) z).take ((L.length - 1) * m) = (L.eraseIdx i).flatMap enc := by
  have hl := flat_len hm L
  have hl2 := flat_len hm (L.drop (i + 1))
  have e1 : (L.length - 1) * m + m = L.length * m := by
    rw [← Nat.succ_mul]; congr 1; omega
  have e2 : (i + 1) * m + (L.length - (i + 1)) * m = L.length * m := by
    rw [← Nat.add_mul]; congr 1; omega
  have e3 : (i + 1) * m = i * m + m := Nat.succ_mul i m
  rw [List.length_drop] at hl2
  have e4 : i * m + (L.length - (i + 1)) * m = (L.length - 1) * m := by rw [← Nat.add_mul]; congr 1; omega
  rw [splice_eq _ _ _ (by rw [splice_len, hl, hz]; omega), splice_eq _ _ _ (by rw [hl, hl2]; omega), List.append_assoc, List.take_append_of_le_length (by rw [List.length_take, List.length_append, List.length_append, List.length_take, List.length_drop, hl, hl2]; omega)]
  rw [List.take_take, Nat.min_self, List.take_append_of_le_length (by rw [List.length_append, List.length_take, hl, hl2]; omega), List.take_of_length_le (by rw [List.length_append, List.length_take, hl, hl2]; omega)]
  rw [List.eraseIdx_eq_take_drop_succ, List.flatMap_append, flat_take hm]

/-- 'clear(s)', s a slice of one element. -/
theorem run_clear_one {P : Program} (w : World) (t e ty : TypeId) (z : Value) (zs : List Value) (ht : P.underlying t = some (.slice e)) (hv : ∀ w, (zeroValue e).run P w = .ok z w) (hz : z.cells = zs.toArray) (h1 : ∀ v ∈ zs, v.oneCell' = true) (b o n c : Nat) (hn : n = 1)
    (hc : ∀ j, j < zs.length → (w.cell? ⟨b, o + j, none⟩).isSome = true) (hf : ∀ j, j < zs.length → w.frozen? ⟨b, o + j, none⟩ = false) :
    (Builtin.clear_ #[t] ty #[.slice (some ⟨b, o, none⟩) n c]).run P w = .ok (.tuple #[]) (w.setCells b o zs) := by
  subst hn
  have hzc : (Builtin.zeroCells z.cells 1).toList = zs := by
    rw [hz]
    simp [Builtin.zeroCells]
    apply List.ext_getElem
    · simp
    · intro i h1 h2
      have : i % zs.length = i := Nat.mod_eq_of_lt h2
      simp [this, h2]
  have hst := run_storeCells_cells (P := P) b o zs 0 w (by simpa using hc) (by simpa using hf) h1
  simp only [Nat.add_zero] at hst
  simp [Builtin.clear_, run_underlying ht, hv, hzc, hst]
end Go.Proofs.Ytcelpincmpjhkaa
