/- Document's side of chapter 18: Copy. Conditions: at most a million. -/
import Derived.Test.YtfjpdikaodojhaaAssocM
namespace Go.Proofs.Ytfjpdikaodojhaa
open Go.RowKit
set_option linter.unusedVariables false

set_option maxRecDepth 100000 in
set_option maxHeartbeats 1600000 in
theorem rcopy (w : World) (v : Value) (L : List Asc) (h : Slc ascEnc 5 w v L) (hL : L.length ≤ 1000000) :
    Calls Try.prog 17 #[v] w fun e w' => ∃ r, e = .returned r ∧ Own w.heap.size 37 5 ascEnc w' r L ∧ Below w.heap.size w w' := by
  obtain ⟨a, n, cap, rfl⟩ := h.shape3
  go_enter Try.func17, Try.ntmps17
  go_wp2_with (at_builtin; refine wpList_app rfl _ _ 22 37 rfl elem_asc ascEnc_len ascEnc_one _ ([] : List Asc) rfl (Own.nil (base := w.heap.size)) _ L rfl h (by unfold maxLen; simp <;> omega) (by simp <;> omega) (Nat.le_refl _) ?_; intro v' w2 hown hgr hfr hsh; obtain ⟨ra, rc, rfl⟩ := own_len hown)
  go_ret
  rw [List.nil_append] at hown
  exact ⟨_, rfl, hown, (Below.refl _ _).grown hgr (Nat.le_refl _) (fun j e => by simp [Value.ownBlock, Act.eval] at e)⟩
end Go.Proofs.Ytfjpdikaodojhaa
