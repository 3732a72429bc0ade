/- slices.Clone at []api.Branch. Conditions: the slice reads as rows; at most a million. Written by gen_clone.py. -/
import Derived.Test.YtcelpincmpjhkaaBrB
namespace Go.Proofs.Ytcelpincmpjhkaa
open Go.RowKit
set_option linter.unusedVariables false

theorem br_eql_nil (w : World) (a : Option Addr) (n c : Nat) : (binOp .eql 22 (.slice a n c) (.slice none 0 0)).run Try.prog w = .ok (.bool a.isNone) w := Lib.run_eql_slice_nil w _ _ a n c 0 0 Try.underlying22

set_option maxHeartbeats 800000 in
theorem br_clone (w : World) (v : Value) (L : List Brn) (h : Slc brEnc 7 w v L) (hL : L.length ≤ 1000000) :
    Calls Try.prog 100 #[v] w fun e w' => ∃ r, e = .returned r ∧ Own w.heap.size 44 7 brEnc w' r L ∧ Below w.heap.size w w' := by
  have qS := br_eql_nil
  obtain ⟨a, cap, rfl, hm⟩ := h.len
  cases a with
  | none =>
    have hn : L = [] := by
      rcases h with ⟨_, _, _, _, h0⟩ | ⟨g, off, cap', hv, _⟩
      · exact h0
      · simp at hv
    subst hn
    go_enter Try.func100, Try.ntmps100
    go_wp2
    go_ret
    exact ⟨_, rfl, Own.nil, Below.refl _ _⟩
  | some ad =>
    go_enter Try.func100, Try.ntmps100
    go_wp2_with (at_builtin; refine wpList_app rfl _ _ 22 44 rfl elem_br brEnc_len brEnc_one _ ([] : List Brn) rfl (Own.made0 w 44 (Nat.le_refl _)) _ L rfl (h.pure ((Below.refl _ _).alloc (Nat.le_refl _) _)) (by unfold maxLen; simp <;> omega) (by simp <;> omega) (by simp) ?_; intro v' w2 hown hgr hfr hshape)
    go_ret
    refine ⟨_, rfl, by simpa using hown, ?_⟩
    exact ((Below.refl w.heap.size w).alloc (Nat.le_refl _) _).grown hgr (by simp) (fun j e => by have e : some w.heap.size = some j := e; injection e with e; omega)
end Go.Proofs.Ytcelpincmpjhkaa
