/- Rows of associations: what is right, in plain lists. Conditions: none. -/
import Derived.Test.YtcelpincmpjhkaaAssocB
namespace Go.Proofs.Ytcelpincmpjhkaa
open Go.RowKit
set_option linter.unusedVariables false

def XidOk (x : Xid) : Prop := 0 < x.2.1.size ∧ x.2.1.size ≤ 64 ∧ x.2.2.size ≤ 64
instance (x : Xid) : Decidable (XidOk x) := by unfold XidOk; infer_instance
def RelA (a b : Asc) : Prop := cmpA a b < 0 ∧ (a.1 = b.1 → a.2.2 = true ∨ b.2.2 = true)
def RowA (L : List Asc) : Prop := (∀ a ∈ L, a.1 ≠ 0 ∧ XidOk a.2.1) ∧ L.Pairwise RelA
theorem RowA.rises {L : List Asc} (h : RowA L) : Rises L := h.2.imp (fun h => h.1)
theorem RowA.nil : RowA [] := ⟨by simp, List.Pairwise.nil⟩
theorem RowA.take {L : List Asc} (h : RowA L) (k : Nat) : RowA (L.take k) := ⟨fun a ha => h.1 a (List.mem_of_mem_take ha), h.2.sublist (List.take_sublist _ _)⟩
theorem RowA.sub {L M : List Asc} (h : RowA L) (hs : M.Sublist L) : RowA M := ⟨fun a ha => h.1 a (hs.subset ha), h.2.sublist hs⟩

noncomputable def rowE (L : List Asc) : Int := @ite _ (RowA L) (Classical.propDecidable _) 0 180
theorem rowE_yes {L : List Asc} (h : RowA L) : rowE L = 0 := by unfold rowE; rw [if_pos h]
theorem rowE_no {L : List Asc} (h : ¬ RowA L) : rowE L = 180 := by unfold rowE; rw [if_neg h]

/-- The session of the last association that is active. -/
def actFrom (c : Int) (L : List Asc) : Int := L.foldl (fun c a => if a.2.2 = true then c else a.1) c
def actOf (L : List Asc) : Int := actFrom 0 L
theorem actFrom_cases (L : List Asc) : ∀ c, actFrom c L = c ∨ ∃ a ∈ L, a.2.2 = false ∧ actFrom c L = a.1 := by
  induction L with
  | nil => intro c; exact .inl rfl
  | cons a L ih =>
    intro c
    show actFrom (if a.2.2 = true then c else a.1) L = c ∨ _
    rcases ih (if a.2.2 = true then c else a.1) with h | ⟨b, hb, h1, h2⟩
    · by_cases hz : a.2.2 = true
      · left; rw [h, if_pos hz]
      · right; exact ⟨a, by simp, by simpa using hz, by show actFrom (if a.2.2 = true then c else a.1) L = _; rw [h, if_neg hz]⟩
    · right; exact ⟨b, by simp [hb], h1, h2⟩
theorem cmpA_ses {a b : Asc} (h : cmpA a b < 0) : a.1 ≤ b.1 := by
  unfold cmpA keyC lexC thenC keyA at h
  split at h
  · unfold cmpI at h; split at h <;> (try split at h) <;> omega
  · rename_i h'; have := (cmpI_ok.eq a.1 b.1).1 (Decidable.of_not_not h'); omega
theorem actFrom_ge (L : List Asc) : ∀ c, Rises L → ∀ b ∈ L, b.2.2 = false → ∃ d ∈ L, actFrom c L = d.1 ∧ b.1 ≤ d.1 := by
  induction L with
  | nil => intro c _ b hb; cases hb
  | cons a L ih =>
    intro c hr b hb hz
    have hr' := List.pairwise_cons.1 hr
    rcases List.mem_cons.1 hb with rfl | hb
    · have e : actFrom c (b :: L) = actFrom b.1 L := by show actFrom (if b.2.2 = true then c else b.1) L = _; rw [if_neg (by rw [hz]; simp)]
      rcases actFrom_cases L b.1 with h | ⟨d, hd, _, h2⟩
      · exact ⟨b, by simp, e.trans h, Int.le_refl _⟩
      · exact ⟨d, by simp [hd], e.trans h2, cmpA_ses (hr'.1 d hd)⟩
    · obtain ⟨d, hd, h1, h2⟩ := ih (if a.2.2 = true then c else a.1) hr'.2 b hb hz
      exact ⟨d, by simp [hd], h1, h2⟩
theorem actOf_snoc (M : List Asc) (a : Asc) : actOf (M ++ [a]) = if a.2.2 = true then actOf M else a.1 := by
  unfold actOf actFrom; rw [List.foldl_append]; rfl

theorem row_snoc (M : List Asc) (a : Asc) : RowA (M ++ [a]) ↔ RowA M ∧ a.1 ≠ 0 ∧ XidOk a.2.1 ∧ (∀ b, M.getLast? = some b → cmpA b a < 0) ∧ (a.2.2 = true ∨ a.1 ≠ actOf M) := by
  unfold RowA
  rw [List.pairwise_append]
  constructor
  · rintro ⟨h1, h2, _, h3⟩
    have ha := h1 a (by simp)
    refine ⟨⟨fun b hb => h1 b (by simp [hb]), h2⟩, ha.1, ha.2, fun b hb => (h3 b (List.mem_of_getLast? hb) a (by simp)).1, ?_⟩
    by_cases hz : a.2.2 = true
    · exact .inl hz
    · right
      intro he
      rcases actFrom_cases M 0 with h | ⟨b, hb, hbz, h⟩
      · exact ha.1 (he.trans h)
      · have := (h3 b hb a (by simp)).2 (h.symm.trans he.symm)
        rcases this with h' | h'
        · rw [hbz] at h'; cases h'
        · exact hz h'
  · rintro ⟨⟨h1, h2⟩, h3, h4, h5, h6⟩
    have hlt : ∀ b ∈ M, cmpA b a < 0 := by
      intro b hb
      obtain ⟨i, hi, rfl⟩ := List.getElem_of_mem hb
      have hl : M.getLast? = some (M[M.length - 1]'(by omega)) := by rw [List.getLast?_eq_getElem?]; exact List.getElem?_eq_getElem (by omega)
      exact cmpA_le_lt (rises_le (h2.imp (fun h => h.1)) hi (by omega) (by omega)) (h5 _ hl)
    refine ⟨?_, h2, List.pairwise_singleton _ _, ?_⟩
    · intro b hb
      rw [List.mem_append] at hb
      rcases hb with hb | hb
      · exact h1 b hb
      · simp at hb; subst hb; exact ⟨h3, h4⟩
    · intro b hb c hc
      simp at hc; subst hc
      refine ⟨hlt b hb, fun he => ?_⟩
      rcases h6 with h6 | h6
      · exact .inr h6
      · by_cases hz : b.2.2 = true
        · exact .inl hz
        · exfalso
          obtain ⟨d, hd, h7, h8⟩ := actFrom_ge M 0 (h2.imp (fun h => h.1)) b hb (by simpa using hz)
          have hle := cmpA_ses (hlt d hd)
          apply h6
          unfold actOf
          omega
end Go.Proofs.Ytcelpincmpjhkaa
