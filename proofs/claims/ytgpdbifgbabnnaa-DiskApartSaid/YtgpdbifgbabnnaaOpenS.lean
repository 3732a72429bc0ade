/- How a struct that came in is opened, field by field. Conditions: none. -/
import Derived.Test.YtgpdbifgbabnnaaOpen
namespace Go.Proofs.Ytgpdbifgbabnnaa
open Go.ChangeShapes Go.WideShapes Go.ChangeAt Go.RowKit
section
variable {H : Type} {enc : TypeId × Value → H} {P : Program} {w : World} {base : Nat} {spare : Nat → Bool} {held : Bool}

/-- A struct's cells: each field's part reads. -/
theorem open_fields {t : TypeId} {fs : Array Field} {n : Nat} {cs : List Value} {y : DataW H × List MemPlace} (ht : P.underlying t = some (.struct fs)) (h : DataW.trod enc P w base spare held n t cs = some y) :
    cs.length = P.cellsOf t ∧ ∃ m, ∀ (i : Nat) (f : Field), fs[i]? = some f → ∃ z, DataW.trod enc P w base spare held m f.type ((cs.drop f.offset).take (P.cellsOf f.type)) = some z := by
  obtain ⟨xs, n', rfl, -, hl, hlen, hf⟩ := DataW.trod_struct ht h
  refine ⟨hl, n', fun i f hi => ?_⟩
  have hlt : i < xs.length := by rw [hlen]; exact (Array.getElem?_eq_some_iff.1 hi).1
  exact ⟨xs[i], by rw [hf i f hi, List.getElem?_eq_getElem hlt]⟩

theorem field_int {k : IntKind} {m : Nat} {t o : Nat} {cs : List Value} {c : Value} (hi : P.underlying t = some (.int k)) (h1 : P.cellsOf t = 1) (hc : cs[o]? = some c) (h : ∃ z, DataW.trod enc P w base spare held m t ((cs.drop o).take (P.cellsOf t)) = some z) :
    ∃ a, c = .int k a ∧ (Lit.int k a).wf = true := by
  obtain ⟨z, h⟩ := h
  obtain ⟨a, e, _, hw⟩ := DataW.trod_int hi h
  refine ⟨a, ?_, hw⟩
  rw [h1] at e
  have : ((cs.drop o).take 1)[0]? = some c := by rw [List.getElem?_take]; simp [hc]
  rw [e] at this
  simpa using this.symm
theorem field_bool {m : Nat} {t o : Nat} {cs : List Value} {c : Value} (hi : P.underlying t = some .bool) (h1 : P.cellsOf t = 1) (hc : cs[o]? = some c) (h : ∃ z, DataW.trod enc P w base spare held m t ((cs.drop o).take (P.cellsOf t)) = some z) :
    ∃ a, c = .bool a := by
  obtain ⟨z, h⟩ := h
  obtain ⟨a, e, _⟩ := DataW.trod_bool hi h
  refine ⟨a, ?_⟩
  rw [h1] at e
  have : ((cs.drop o).take 1)[0]? = some c := by rw [List.getElem?_take]; simp [hc]
  rw [e] at this
  simpa using this.symm
theorem field_string {m : Nat} {t o : Nat} {cs : List Value} {c : Value} (hi : P.underlying t = some .string) (h1 : P.cellsOf t = 1) (hc : cs[o]? = some c) (h : ∃ z, DataW.trod enc P w base spare held m t ((cs.drop o).take (P.cellsOf t)) = some z) :
    ∃ s : ByteArray, c = .string s ∧ s.size ≤ maxLen := by
  obtain ⟨z, h⟩ := h
  obtain ⟨s, e, _, hl⟩ := DataW.trod_string hi h
  refine ⟨s, ?_, hl⟩
  rw [h1] at e
  have : ((cs.drop o).take 1)[0]? = some c := by rw [List.getElem?_take]; simp [hc]
  rw [e] at this
  simpa using this.symm
end
end Go.Proofs.Ytgpdbifgbabnnaa
