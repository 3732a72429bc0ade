/- Chapter 19: bounds of what is left of a timeout, and what a row of calls keeps, in plain lists. Conditions: none. -/
import Derived.Test.YtcelpincmpjhkaaBrGo
import Derived.Test.YtcelpincmpjhkaaHZ
namespace Go.Proofs.Ytcelpincmpjhkaa
set_option linter.unusedSimpArgs false
set_option linter.unusedVariables false
open Go.RowKit
def LfOk (R : List Brn) : Prop := ∀ b ∈ R, 0 ≤ b.lf ∧ b.lf ≤ 4294967295
theorem lf_nil : LfOk [] := fun b h => absurd h (by simp)
theorem lf_set {R : List Brn} (h : LfOk R) (k : Nat) {c : Brn} (hc : 0 ≤ c.lf ∧ c.lf ≤ 4294967295) : LfOk (R.set k c) := fun b hb => by
  rcases List.mem_or_eq_of_mem_set hb with q | q
  · exact h b q
  · rw [q]; exact hc
theorem lf_ins {R : List Brn} (h : LfOk R) (k : Nat) {c : Brn} (hc : 0 ≤ c.lf ∧ c.lf ≤ 4294967295) : LfOk (insB R k c) := fun b hb => by
  rcases mem_ins.1 hb with q | q
  · exact h b q
  · rw [q]; exact hc
theorem lf_without {R : List Brn} (h : LfOk R) (x : Xid) : LfOk (withoutB R x) := fun b hb => h b (mem_without.1 hb).1
theorem lf_getD {R : List Brn} (h : LfOk R) (k : Nat) (x : Xid) (s : Int) : 0 ≤ (R.getD k (newB x s)).lf ∧ (R.getD k (newB x s)).lf ≤ 4294967295 := by
  rw [List.getD_eq_getElem?_getD]
  cases q : R[k]? with
  | none => simp [newB]
  | some b => exact h b (List.mem_of_getElem? q)
theorem lf_err (e : Int) : LfOk (errR e).1 := lf_nil
theorem lf_over {m : Int} {D : Res} (h : LfOk D.1) : LfOk (overB m D).1 := by
  unfold overB; split
  · exact h
  · exact lf_nil
theorem lf_go {R : List Brn} (A : List Asc) (h : LfOk R) (se : Int) (x : Xid) (ja rb : Bool) {n : Int} (hn : 0 ≤ n ∧ n ≤ 4294967295) (q : Int) : LfOk (goD R A se x ja rb n q).1 := by
  have z : (0 : Int) ≤ 0 ∧ (0 : Int) ≤ 4294967295 := by omega
  unfold goD
  split
  · refine lf_over ?_
    unfold startD
    repeat' split
    all_goals first | exact lf_nil | exact h | exact lf_ins h _ z
  split
  · refine lf_over ?_
    unfold endD
    repeat' split
    all_goals first | exact lf_nil | exact h | exact lf_set h _ z
  split
  · refine lf_over ?_
    unfold prepareD
    repeat' split
    all_goals first | exact lf_nil | exact h | exact lf_without h _ | exact lf_set h _ z
  split
  · refine lf_over ?_
    unfold commitD
    repeat' split
    all_goals first | exact lf_nil | exact h | exact lf_without h _
  split
  · refine lf_over ?_
    unfold rollbackD
    repeat' split
    all_goals first | exact lf_nil | exact h | exact lf_without h _
  split
  · refine lf_over ?_
    unfold forgetD
    repeat' split
    all_goals first | exact lf_nil | exact h | exact lf_without h _
  split
  · refine lf_over ?_
    unfold decideD
    split
    · exact lf_nil
    · split
      · exact lf_set h _ (lf_getD h _ x 0)
      · exact lf_nil
  split
  · refine lf_over ?_
    unfold timeoutD
    split
    · exact lf_nil
    · split
      · refine lf_set h _ ?_
        simp only
        split
        · exact hn
        · exact lf_getD h _ x 0
      · exact lf_nil
  split
  · refine lf_over ?_
    intro b hb
    obtain ⟨c, hc, rfl⟩ := List.mem_map.1 hb
    have := h c hc
    unfold tickB
    split
    · exact this
    · simp only; omega
  · refine lf_over ?_
    intro c hc
    obtain ⟨b, hb, e⟩ := List.mem_filterMap.1 hc
    rcases (lvB_x e).2.2 with q | ⟨_, q⟩
    · rw [q]; exact h b hb
    · rw [q]; exact z

/-- May a branch of the state s change by the call q on its name? -/
def mayC (q s : Int) : Prop := if s = 2 then q = 3 ∨ q = 4 ∨ q = 6 else q = 5
theorem fine_go {R : List Brn} {A : List Asc} (hT : TabOk R A) (se : Int) (x : Xid) (ja rb : Bool) {n : Int} (hn : 0 ≤ n) {q : Int} : Fine R A x (mayC q) (goD R A se x ja rb n q) := by
  unfold goD
  split
  · exact fine_over (fun hm => fine_start hT (mayB_zero hm).2.2 _ _ _)
  split
  · refine fine_over (fun hm => ?_)
    have hok := (mayB_zero hm).2.1
    exact fine_end hT (mayB_zero hm).2.2 (by intro e; rw [e] at hok; simp [okS] at hok) _ _
  split
  · exact fine_over (fun _ => fine_prepare hT _)
  split
  · rename_i h; exact fine_over (fun _ => fine_commit hT _ (by unfold mayC; rw [if_pos rfl]; exact .inl h))
  split
  · rename_i h; exact fine_over (fun _ => fine_rollback hT (by unfold mayC; rw [if_pos rfl]; exact .inr (.inl h)))
  split
  · rename_i h; exact fine_over (fun _ => fine_forget hT (by unfold mayC; rw [if_neg (by decide)]; exact h) (by unfold mayC; rw [if_neg (by decide)]; exact h))
  split
  · rename_i h; exact fine_over (fun _ => fine_decide hT _ (by unfold mayC; rw [if_pos rfl]; exact .inr (.inr h)))
  split
  · exact fine_over (fun _ => fine_timeout hT hn)
  split
  · exact fine_over (fun _ _ => ⟨tab_tick hT, by simp, by simp, fun b hb hs => .inr (tick_keep hT hb hs)⟩)
  · exact fine_over (fun _ _ => ⟨tab_leave hT se, Nat.le_succ_of_le (leaveR_len R A se), Nat.le_succ_of_le (outA_len A se), fun b hb hs => .inr (leave_keep hT se hb hs)⟩)
/-- The table behind a call: right, little longer, in bounds; what is prepared or decided is found as it was, but where the call may. -/
theorem next_ok {R : List Brn} {A : List Asc} (hT : TabOk R A) (hl : LfOk R) (se : Int) (x : Xid) (ja rb : Bool) {n : Int} (hn : 0 ≤ n ∧ n ≤ 4294967295) (q : Int) :
    TabOk (nextR R A (goD R A se x ja rb n q)).1 (nextR R A (goD R A se x ja rb n q)).2 ∧ LfOk (nextR R A (goD R A se x ja rb n q)).1 ∧ (nextR R A (goD R A se x ja rb n q)).1.length ≤ R.length + 1 ∧ (nextR R A (goD R A se x ja rb n q)).2.length ≤ A.length + 1 ∧
    ∀ b ∈ R, b.st ≠ 1 → findD (nextR R A (goD R A se x ja rb n q)).1 (nextR R A (goD R A se x ja rb n q)).2 b.x = some b ∨ ((goD R A se x ja rb n q).2.2.2 = 0 ∧ b.x = x ∧ mayC q b.st) := by
  have key : ∀ {R' : List Brn} {A' : List Asc} {b : Brn}, TabOk R' A' → b ∈ R' → findD R' A' b.x = some b := by
    intro R' A' b hT' hb
    obtain ⟨k, hk, rfl⟩ := List.getElem_of_mem hb
    exact findD_yes hT' hk rfl
  by_cases he : (goD R A se x ja rb n q).2.2.2 = 0
  · obtain ⟨h1, h2, h3, h4⟩ := fine_go hT se x ja rb hn.1 (q := q) he
    have e : nextR R A (goD R A se x ja rb n q) = ((goD R A se x ja rb n q).1, (goD R A se x ja rb n q).2.1) := by unfold nextR; rw [if_pos he]
    rw [e]
    refine ⟨h1, lf_go A hl se x ja rb hn q, h2, h3, fun b hb hs => ?_⟩
    rcases h4 b hb hs with h | h
    · exact .inr ⟨he, h.1, h.2⟩
    · exact .inl (key h1 h)
  · have e : nextR R A (goD R A se x ja rb n q) = (R, A) := by unfold nextR; rw [if_neg he]
    rw [e]
    exact ⟨hT, hl, by simp, by simp, fun b hb _ => .inl (key hT hb)⟩
end Go.Proofs.Ytcelpincmpjhkaa
