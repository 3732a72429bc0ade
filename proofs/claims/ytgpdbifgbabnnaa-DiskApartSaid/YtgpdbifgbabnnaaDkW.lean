/- Chapter 10, plain: a row of files of which the first k have been woken. Conditions: none. -/
import Derived.Test.YtgpdbifgbabnnaaDkL
namespace Go.Proofs.Ytgpdbifgbabnnaa
open Go.RowKit
set_option linter.unusedVariables false
set_option linter.unusedSimpArgs false
def wk (L : List Fl) (K : List Int) (k : Nat) : List Fl := (keepL L K).take k ++ L.drop k
theorem wk_zero (L : List Fl) (K : List Int) : wk L K 0 = L := by simp [wk]
theorem wk_end (L : List Fl) (K : List Int) : wk L K L.length = keepL L K := by
  unfold wk
  rw [List.drop_length, List.append_nil, List.take_of_length_le (by rw [keepL_len]; omega)]
theorem wk_len (L : List Fl) (K : List Int) (k : Nat) : (wk L K k).length = L.length := by
  unfold wk
  rw [List.length_append, List.length_take, List.length_drop, keepL_len]; omega
theorem wk_names (L : List Fl) (K : List Int) (k : Nat) : (wk L K k).map Fl.n = L.map Fl.n := by
  unfold wk
  rw [List.map_append, List.map_take, List.map_drop, keepL_names, List.take_append_drop]
theorem wk_rises {L : List Fl} {K : List Int} {k : Nat} (h : Rises L) : Rises (wk L K k) := rises_names (wk_names L K k).symm h
theorem wk_at {L : List Fl} {K : List Int} {k : Nat} (h : k < L.length) (h' : k < (wk L K k).length) : (wk L K k)[k] = L[k] := by
  have hl : ((keepL L K).take k).length = k := by rw [List.length_take, keepL_len]; omega
  have e : (wk L K k)[k]? = some L[k] := by
    unfold wk
    rw [List.getElem?_append_right (by omega), hl, Nat.sub_self, List.getElem?_drop]
    simp [h]
  rw [List.getElem?_eq_getElem h'] at e
  exact Option.some.inj e
theorem wk_get {L : List Fl} {K : List Int} {k : Nat} (hr : Rises L) (h : k < L.length) : getF (wk L K k) L[k].n = some L[k] := by
  have h' : k < (wk L K k).length := by rw [wk_len]; exact h
  have e := wk_at (K := K) h h'
  have := getF_at (wk_rises (K := K) (k := k) hr) h'
  rw [e] at this
  exact this
theorem wk_set {L : List Fl} {K : List Int} {k : Nat} (hr : Rises L) (h : k < L.length) : setF (wk L K k) (keepF L[k] K[k]?) = wk L K (k + 1) := by
  have h' : k < (wk L K k).length := by rw [wk_len]; exact h
  have hk : k < (keepL L K).length := by rw [keepL_len]; exact h
  rw [setF_at (wk_rises hr) h' (by rw [wk_at h h', keepF_n])]
  have e2 : keepF L[k] K[k]? = (keepL L K)[k] := (keepL_at hk h).symm
  rw [e2]
  unfold wk
  have hl : ((keepL L K).take k).length = k := by rw [List.length_take]; omega
  rw [List.set_append_right _ _ (by omega), hl, Nat.sub_self, List.drop_eq_getElem_cons h, List.set_cons_zero, List.take_succ_eq_append_getElem hk, List.append_assoc]
  rfl
theorem wk_file {L : List Fl} {K : List Int} {k : Nat} (h : ∀ f ∈ L, FOk f) : ∀ f ∈ wk L K k, FOk f := fun f hf => by
  unfold wk at hf
  rcases List.mem_append.1 hf with q | q
  · obtain ⟨g, hg, j, rfl⟩ := keepL_mem (List.mem_of_mem_take q)
    exact keepF_ok (h g hg) j
  · exact h f (List.mem_of_mem_drop q)
end Go.Proofs.Ytgpdbifgbabnnaa
