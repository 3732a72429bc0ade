/- Chapter 19: what Commit and Prepare leave, in plain lists. Conditions: the table is right. -/
import Derived.Test.YtcelpincmpjhkaaBrV
namespace Go.Proofs.Ytcelpincmpjhkaa
open Go.RowKit
set_option linter.unusedVariables false

theorem mayB_tab {R : List Brn} {A : List Asc} {x : Xid} (h : TabOk R A) : mayB R A true x = if XidOk x then 0 else 40 := by
  unfold mayB; rw [tabE_yes h]; simp
theorem overB_cases {m : Int} {D : Res} (h : (overB m D).2.2.2 = 0) : m = 0 ∧ overB m D = D ∨ False := by
  unfold overB at h ⊢
  by_cases hm : m = 0
  · exact .inl ⟨hm, by rw [if_pos hm]⟩
  · rw [if_neg hm] at h; exact absurd h hm
theorem sure_commit {R : List Brn} {A : List Asc} {x : Xid} {one : Bool} (hT : TabOk R A) (h1 : (overB (mayB R A true x) (commitD R A x one)).2.2.2 = 0) (h2 : (overB (mayB R A true x) (commitD R A x one)).2.2.1 = 0) :
    ∃ k, ∃ h : k < R.length, R[k].x = x ∧ R[k].why = 0 ∧ (R[k].st == 1) = one ∧ ¬ 0 < cntA A x ∧ overB (mayB R A true x) (commitD R A x one) = (withoutB R x, A, 0, 0) := by
  rcases overB_cases h1 with ⟨hm, e⟩ | h
  rw [e] at h1 h2 ⊢
  rcases Classical.em (MemB R x) with hm | hm
  · obtain ⟨k, hk, hx⟩ := hm
    refine ⟨k, hk, hx, ?_⟩
    unfold commitD at h1 h2 ⊢
    rw [idxB_yes hT.1.2 hk hx] at h1 h2 ⊢
    simp only [List.getD_eq_getElem?_getD, List.getElem?_eq_getElem hk, Option.getD_some] at h1 h2 ⊢
    by_cases ha : answerD R[k].st = 0
    · rw [if_neg (fun h => h ha)] at h1 h2 ⊢
      by_cases hs : R[k].st ≠ (if one = true then 1 else 2) ∨ cntA A x > 0
      · rw [if_pos hs] at h1; exact absurd h1 (by simp [errR])
      · rw [if_neg hs] at h1 h2 ⊢
        have hs1 : R[k].st = (if one = true then 1 else 2) := Classical.not_not.1 (fun h => hs (.inl h))
        simp only at h2
        refine ⟨h2, ?_, fun h => hs (.inr h), by rw [h2]⟩
        cases one <;> simp_all
    · rw [if_pos ha] at h2; exact absurd h2 ha
  · unfold commitD at h1; rw [idxB_no hm] at h1; exact absurd h1 (by simp [errR])
  · exact h.elim
theorem sure_prepare {R : List Brn} {A : List Asc} {x : Xid} (hT : TabOk R A) (h1 : (overB (mayB R A true x) (prepareD R A x false)).2.2.2 = 0) (h2 : (overB (mayB R A true x) (prepareD R A x false)).2.2.1 = 0) :
    ∃ k, ∃ h : k < R.length, R[k].x = x ∧ R[k].why = 0 ∧ R[k].st = 1 ∧ ¬ 0 < cntA A x ∧ overB (mayB R A true x) (prepareD R A x false) = (R.set k { R[k] with st := 2, lf := 0 }, A, 0, 0) := by
  rcases overB_cases h1 with ⟨hm, e⟩ | h
  rw [e] at h1 h2 ⊢
  rcases Classical.em (MemB R x) with hm | hm
  · obtain ⟨k, hk, hx⟩ := hm
    refine ⟨k, hk, hx, ?_⟩
    unfold prepareD at h1 h2 ⊢
    rw [idxB_yes hT.1.2 hk hx] at h1 h2 ⊢
    simp only [List.getD_eq_getElem?_getD, List.getElem?_eq_getElem hk, Option.getD_some] at h1 h2 ⊢
    by_cases hs : R[k].st ≠ 1 ∨ cntA A x > 0
    · rw [if_pos hs] at h1; exact absurd h1 (by simp [errR])
    · rw [if_neg hs] at h1 h2 ⊢
      by_cases hw : R[k].why = 0
      · rw [if_neg (fun h => h hw), if_neg (by simp)]
        exact ⟨hw, Classical.not_not.1 (fun h => hs (.inl h)), fun h => hs (.inr h), rfl⟩
      · rw [if_pos hw] at h2; exact absurd h2 hw
  · unfold prepareD at h1; rw [idxB_no hm] at h1; exact absurd h1 (by simp [errR])
  · exact h.elim
theorem find_gone (R : List Brn) (A : List Asc) (x : Xid) : findD (withoutB R x) A x = none := findD_no (fun ⟨k, hk, e⟩ => by
  have := List.getElem_mem hk
  unfold withoutB at this
  rw [List.mem_filter, neX_decide] at this
  exact of_decide_eq_true this.2 e)
theorem cnt_any {A : List Asc} {x : Xid} (hr : RowA A) (h : ¬ 0 < cntA A x) : ∀ a ∈ A, a.2.1 ≠ x := by
  intro a ha e
  apply h
  unfold cntA
  rw [if_pos (rowE_yes hr)]
  have : (A.filter (fun a => a.2.1 != x)).length < A.length := List.length_filter_lt_length_iff_exists.2 ⟨a, ha, by rw [neX_decide]; simp [e]⟩
  omega
theorem set_rises {R : List Brn} {k : Nat} (hk : k < R.length) (h : RisesB R) (b : Brn) (hb : b.x = R[k].x) : RisesB (R.set k b) := by
  refine List.pairwise_iff_getElem.2 (fun i j hi hj hij => ?_)
  rw [List.length_set] at hi hj
  have h0 := List.pairwise_iff_getElem.1 h i j hi hj hij
  rw [List.getElem_set, List.getElem_set]
  split <;> split <;> simp_all
theorem tab_set {R : List Brn} {A : List Asc} {x : Xid} {k : Nat} (hT : TabOk R A) (hk : k < R.length) (hx : R[k].x = x) (b : Brn) (hb : b.x = x) (hok : RowOk b) (hc : b.st = 1 ∨ ∀ a ∈ A, a.2.1 ≠ x) : TabOk (R.set k b) A := by
  refine ⟨⟨fun c hc => ?_, set_rises hk hT.1.2 b (hb.trans hx.symm)⟩, hT.2.1, fun a ha => ?_⟩
  · rcases List.mem_or_eq_of_mem_set hc with q | q
    · exact hT.1.1 c q
    · rw [q]; exact hok
  · obtain ⟨c, hc1, hc2, hc3⟩ := hT.2.2 a ha
    by_cases he : a.2.1 = x
    · rcases hc with hc | hc
      · exact ⟨b, List.mem_iff_getElem.2 ⟨k, by simpa using hk, by simp⟩, by rw [hb, he], hc⟩
      · exact absurd he (hc a ha)
    · obtain ⟨j, hj, rfl⟩ := List.mem_iff_getElem.1 hc1
      have hjk : k ≠ j := fun e => he (by subst e; rw [← hc2, hx])
      exact ⟨R[j], List.mem_iff_getElem.2 ⟨j, by simpa using hj, by rw [List.getElem_set_ne hjk]⟩, hc2, hc3⟩
theorem rowOk_prep {b : Brn} (h : RowOk b) (hw : b.why = 0) : RowOk { b with st := 2, lf := 0 } := by
  refine ⟨h.1, by simp, by simp, by simp [hw], ?_⟩
  simp [hw]
theorem find_prep {R : List Brn} {A : List Asc} {x : Xid} {k : Nat} (hT : TabOk R A) (hk : k < R.length) (hx : R[k].x = x) (hw : R[k].why = 0) (hc : ¬ 0 < cntA A x) :
    findD (R.set k { R[k] with st := 2, lf := 0 }) A x = some { R[k] with st := 2, lf := 0 } := by
  have h1 := tab_set hT hk hx { R[k] with st := 2, lf := 0 } hx (rowOk_prep (hT.1.1 _ (List.getElem_mem hk)) hw) (.inr (cnt_any hT.2.1 hc))
  have hk2 : k < (R.set k { R[k] with st := 2, lf := 0 }).length := by simpa using hk
  have e := findD_yes (x := x) h1 hk2 (by simp [hx])
  rw [e]; simp
theorem without_len (R : List Brn) (x : Xid) : (withoutB R x).length ≤ R.length := List.length_filter_le _ _
end Go.Proofs.Ytcelpincmpjhkaa
