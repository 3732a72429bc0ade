/- Chapter 19: Leave in plain lists as the document goes: row by row. Conditions: the table is right. -/
import Derived.Test.YtcelpincmpjhkaaHT
namespace Go.Proofs.Ytcelpincmpjhkaa
set_option linter.unusedSimpArgs false
set_option linter.unusedVariables false
open Go.RowKit
theorem step_gone0 {R : List Brn} {C : List Asc} {xs : List Xid} {b : Brn} (hr : RisesB R) (hb : b ∈ R) (hx : b.x ∉ xs) (hc : cntA C b.x = 0) :
    withoutB (stepR R C xs) b.x = stepR R C (xs ++ [b.x]) := by
  unfold withoutB stepR
  rw [List.filter_filterMap]
  refine fm_congr (fun d hd => ?_)
  by_cases e : d.x = b.x
  · obtain rfl := uniqB hr hd hb e
    rw [lvX_no hx, lvX_gone (List.mem_append_right _ (by simp)) hc]
    rw [Option.filter_some, if_neg (by rw [neX_decide]; simp)]
  · rw [lvX_more e]
    cases q : lvX C xs d with
    | none => rfl
    | some c =>
      have hcx := lvX_x q
      rw [Option.filter_some, if_pos (by rw [neX_decide]; exact decide_eq_true (by rw [hcx]; exact e))]
theorem fsnocB {p : Brn → Bool} {L : List Brn} {k : Nat} (h : k < L.length) : (L.take (k + 1)).filter p = (L.take k).filter p ++ (if p L[k] = true then [L[k]] else []) := by
  rw [List.take_succ_eq_append_getElem h, List.filter_append, List.filter_cons, List.filter_nil]
/-- The names of a session's rows among the first k. -/
noncomputable def rowsX (R : List Brn) (A : List Asc) (s : Int) (k : Nat) : List Xid := by
  classical exact ((R.take k).filter (fun b => decide (Mem A s b.x))).map Brn.x
theorem rowsX_zero (R : List Brn) (A : List Asc) (s : Int) : rowsX R A s 0 = [] := by unfold rowsX; rw [List.take_zero]; rfl
theorem rowsX_no {R : List Brn} {A : List Asc} {s : Int} {k : Nat} (h : k < R.length) (hn : ¬ Mem A s R[k].x) : rowsX R A s (k + 1) = rowsX R A s k := by
  classical
  unfold rowsX
  rw [fsnocB h, if_neg (by simpa using hn), List.append_nil]
theorem rowsX_yes {R : List Brn} {A : List Asc} {s : Int} {k : Nat} (h : k < R.length) (hm : Mem A s R[k].x) : rowsX R A s (k + 1) = rowsX R A s k ++ [R[k].x] := by
  classical
  unfold rowsX
  rw [fsnocB h, if_pos (by simpa using hm), List.map_append]
  rfl
theorem rowsX_rises {R : List Brn} (hr : RisesB R) (A : List Asc) (s : Int) (k : Nat) : RisesX (rowsX R A s k) := by
  unfold rowsX
  exact List.pairwise_map.2 ((hr.sublist (List.take_sublist _ _)).filter _)
theorem rowsX_all {R : List Brn} {A : List Asc} (hT : TabOk R A) (s : Int) : rowsX R A s R.length = withX A s := by
  classical
  refine rx_eq (rowsX_rises hT.1.2 A s _) (withX_rises hT.2.1 s) (fun x => ?_)
  unfold rowsX
  rw [List.take_length, List.mem_map, withX_mem]
  constructor
  · rintro ⟨b, hb, rfl⟩
    exact of_decide_eq_true (List.mem_filter.1 hb).2
  · intro h
    obtain ⟨b, hb, e⟩ := with_row hT (withX_mem.2 h)
    exact ⟨b, List.mem_filter.2 ⟨hb, decide_eq_true (by rw [e]; exact h)⟩, e⟩
theorem rowsX_fresh {R : List Brn} (hr : RisesB R) {A : List Asc} {s : Int} {k : Nat} (h : k < R.length) : R[k].x ∉ rowsX R A s k := by
  intro q
  unfold rowsX at q
  obtain ⟨b, hb, e⟩ := List.mem_map.1 q
  obtain ⟨i, hi, rfl⟩ := List.getElem_of_mem (List.mem_filter.1 hb).1
  rw [List.getElem_take] at e
  rw [List.length_take] at hi
  exact absurd (sameB_idx hr (by omega) h e) (by omega)
theorem rowsX_len (R : List Brn) (A : List Asc) (s : Int) (k : Nat) : (rowsX R A s k).length ≤ k := by
  unfold rowsX; rw [List.length_map]; exact Nat.le_trans (List.length_filter_le _ _) (by rw [List.length_take]; omega)
theorem rowsX_end {R : List Brn} {A : List Asc} (hT : TabOk R A) (s : Int) : stepR R (outA A s) (rowsX R A s R.length) = leaveR R A s ∧ toldX R (rowsX R A s R.length) = leaveT R A s := by
  rw [rowsX_all hT]; exact ⟨step_all R A s, told_all hT s⟩
end Go.Proofs.Ytcelpincmpjhkaa
