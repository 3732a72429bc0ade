/- Plain law of posthouseref04.less: byte after byte. Conditions: none. -/
import Derived.Test.YtfjpdikaodojhaaOrd
namespace Go.Proofs.Ytfjpdikaodojhaa
open Go.RowKit

theorem cb_step : ∀ (a b : List UInt8) (k : Nat) (_ : k < a.length) (_ : k < b.length), a[k] = b[k] → Lib.compareBytes (a.drop k) (b.drop k) = Lib.compareBytes (a.drop (k + 1)) (b.drop (k + 1)) := by
  intro a b k ha hb h
  rw [List.drop_eq_getElem_cons ha, List.drop_eq_getElem_cons hb, h]
  simp [Lib.compareBytes]
theorem cb_lt (a b : List UInt8) (k : Nat) (ha : k < a.length) (hb : k < b.length) (h : a[k] < b[k]) : Lib.compareBytes (a.drop k) (b.drop k) = -1 := by
  rw [List.drop_eq_getElem_cons ha, List.drop_eq_getElem_cons hb]
  simp [Lib.compareBytes, h]
theorem cb_gt (a b : List UInt8) (k : Nat) (ha : k < a.length) (hb : k < b.length) (h : b[k] < a[k]) : Lib.compareBytes (a.drop k) (b.drop k) = 1 := by
  have h2 : ¬ a[k] < b[k] := fun q => UInt8.lt_asymm h q
  rw [List.drop_eq_getElem_cons ha, List.drop_eq_getElem_cons hb]
  simp [Lib.compareBytes, h, h2]
theorem cb_end (a b : List UInt8) (k : Nat) (h : a.length ≤ k ∨ b.length ≤ k) (ha : k ≤ a.length) (hb : k ≤ b.length) : (Lib.compareBytes (a.drop k) (b.drop k) < 0) ↔ a.length < b.length := by
  rcases h with h | h
  · rw [List.drop_eq_nil_of_le h]
    by_cases q : k < b.length
    · rw [List.drop_eq_getElem_cons q]; simp [Lib.compareBytes]; omega
    · rw [List.drop_eq_nil_of_le (by omega)]; simp [Lib.compareBytes]; omega
  · rw [List.drop_eq_nil_of_le h]
    by_cases q : k < a.length
    · rw [List.drop_eq_getElem_cons q]; simp [Lib.compareBytes]; omega
    · rw [List.drop_eq_nil_of_le (by omega)]; simp [Lib.compareBytes]; omega
end Go.Proofs.Ytfjpdikaodojhaa
