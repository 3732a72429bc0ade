/- Chapter 18: plain laws: what Start, Suspend, Leave, Clear leave is right; End undoes Start, Resume undoes Suspend. Conditions: none. -/
import Derived.Test.YtfjpdikaodojhaaAssocX
namespace Go.Proofs.Ytfjpdikaodojhaa
open Go.RowKit
set_option linter.unusedVariables false

theorem actA_not {L : List Asc} {s : Int} (h : RowA L) (hn : actA L s = none) : ∀ a ∈ L, a.1 = s → a.2.2 = true := by
  rw [act_eq h, Option.map_eq_none_iff, List.find?_eq_none] at hn
  intro a ha he
  have := hn a ha
  simp only [he, beq_self_eq_true, Bool.true_and, Bool.not_eq_true', Bool.not_eq_false] at this
  exact this
theorem take_drop_pw {R : Asc → Asc → Prop} {L : List Asc} (h : L.Pairwise R) (i : Nat) : (L.take i).Pairwise R ∧ (L.drop i).Pairwise R ∧ ∀ a ∈ L.take i, ∀ b ∈ L.drop i, R a b := by
  have := List.pairwise_append.1 (by rw [List.take_append_drop]; exact h : (L.take i ++ L.drop i).Pairwise R)
  exact this
theorem row_ins {L : List Asc} {s : Int} {x : Xid} {i : Nat} (h : RowA L) (hs : s ≠ 0) (hx : XidOk x) (ha : actA L s = none) (hm : ¬ Mem L s x) (hp : PlaceA L (s, x, false) i) : RowA (insA L i (s, x, false)) := by
  have hac := actA_not h ha
  obtain ⟨p0, p1, p2⟩ := hp
  have ht : ∀ a ∈ L.take i, RelA a (s, x, false) := by
    intro a hm2
    obtain ⟨j, hj, rfl⟩ := List.getElem_of_mem hm2
    have hj' : j < i := by simp at hj; omega
    refine ⟨by rw [List.getElem_take]; exact p1 j (by simp at hj; omega) hj', fun he => .inl (hac _ (List.mem_of_mem_take hm2) he)⟩
  have hd : ∀ b ∈ L.drop i, RelA (s, x, false) b := by
    intro b hm2
    have hmL := List.mem_of_mem_drop hm2
    obtain ⟨j, hj, rfl⟩ := List.getElem_of_mem hm2
    rw [List.length_drop] at hj
    have h2 := p2 (i + j) (by omega) (by omega)
    rw [List.getElem_drop] at hmL ⊢
    refine ⟨?_, fun he => .inr (hac _ hmL he.symm)⟩
    rw [cmpA_anti]
    have : cmpA L[i + j] (s, x, false) ≠ 0 := fun e => hm ⟨i + j, by omega, cmpA_zero.1 e⟩
    omega
  obtain ⟨q1, q2, q3⟩ := take_drop_pw h.2 i
  refine ⟨?_, ?_⟩
  · intro a hmem
    rcases List.mem_append.1 hmem with h1 | h1
    · exact h.1 a (List.mem_of_mem_take h1)
    · rcases List.mem_cons.1 h1 with rfl | h1
      · exact ⟨hs, hx⟩
      · exact h.1 a (List.mem_of_mem_drop h1)
  · unfold insA
    rw [List.pairwise_append]
    refine ⟨q1, List.pairwise_cons.2 ⟨hd, q2⟩, fun a ha2 b hb => ?_⟩
    rcases List.mem_cons.1 hb with rfl | hb
    · exact ht a ha2
    · exact q3 a ha2 b hb
theorem act_ins {L : List Asc} {s : Int} {x : Xid} {i : Nat} (h : RowA L) (ha : actA L s = none) (hr : RowA (insA L i (s, x, false))) : actA (insA L i (s, x, false)) s = some x := by
  have hac := actA_not h ha
  rw [act_eq hr]
  unfold insA
  rw [List.find?_append, List.find?_eq_none.2 (fun a hm => by
    have := hac a (List.mem_of_mem_take hm)
    simp only [Bool.and_eq_true, beq_iff_eq, Bool.not_eq_true', not_and, Bool.not_eq_false]; exact this)]
  simp
theorem ins_at {L : List Asc} {i : Nat} {t : Asc} (hi : i ≤ L.length) : ∃ h : i < (insA L i t).length, (insA L i t)[i] = t := by
  refine ⟨by rw [insA_len]; omega, ?_⟩
  unfold insA
  rw [List.getElem_append_right (by simp; omega)]
  simp [Nat.min_eq_left hi]
theorem end_ins {L : List Asc} {s : Int} {x : Xid} {i : Nat} (hs : s ≠ 0) (hx : XidOk x) (hi : i ≤ L.length) (hr : RowA (insA L i (s, x, false))) : endF (insA L i (s, x, false)) s x = (L, 0) := by
  obtain ⟨hl, he⟩ := ins_at (t := (s, x, false)) hi
  unfold endF
  rw [if_pos (may_yes hr hs hx), idx_yes (k := i) hr.rises hl (by rw [he]; rfl)]
  simp only
  congr 1
  rw [List.eraseIdx_eq_take_drop_succ]
  unfold insA
  rw [List.take_append_of_le_length (by simp; omega), List.drop_append]
  simp only [List.length_take, Nat.min_eq_left hi, List.take_take, Nat.min_self]
  rw [List.drop_eq_nil_of_le (by simp; omega), show i + 1 - i = 1 by omega]
  simp
theorem xid_self (x : Xid) : (x == x) = true := by
  obtain ⟨a, b, c⟩ := x
  show (a == a && (b == b && c == c)) = true
  rw [bytes_self, bytes_self]; simp
theorem filter_td (p : Asc → Bool) (L : List Asc) (i : Nat) : ((L.take i).filter p).length + ((L.drop i).filter p).length = (L.filter p).length := by
  rw [← List.length_append, ← List.filter_append, List.take_append_drop]
theorem place_ex {L : List Asc} (hr : Rises L) (t : Asc) : ∃ i, PlaceA L t i := by
  have key : ∀ n, n ≤ L.length → (∃ i, PlaceA L t i) ∨ ∀ j, (h : j < L.length) → j < n → cmpA L[j] t < 0 := by
    intro n
    induction n with
    | zero => intro _; exact .inr (fun j _ h => by omega)
    | succ n ih =>
      intro hn
      rcases ih (by omega) with h | h
      · exact .inl h
      · rcases Int.lt_or_le (cmpA L[n] t) 0 with q | q
        · exact .inr (fun j hj hjn => by
            rcases Nat.lt_or_ge j n with r | r
            · exact h j hj r
            · obtain rfl : j = n := by omega
              exact q)
        · exact .inl ⟨n, place_of hr (by omega) h (fun _ => by omega)⟩
  rcases key L.length (Nat.le_refl _) with h | h
  · exact h
  · exact ⟨L.length, place_of hr (Nat.le_refl _) h (fun h => by omega)⟩
theorem cnt_ins {L : List Asc} {s : Int} {x : Xid} {i : Nat} (h : RowA L) (hr : RowA (insA L i (s, x, false))) : cntA (insA L i (s, x, false)) x = cntA L x + 1 := by
  unfold cntA
  rw [if_pos (rowE_yes h), if_pos (rowE_yes hr), insA_len]
  have : ((insA L i (s, x, false)).filter (fun a => a.2.1 != x)).length = (L.filter (fun a => a.2.1 != x)).length := by
    unfold insA
    have e : (((s, x, false) : Asc).2.1 != x) = false := by
      have : ((s, x, false) : Asc).2.1 = x := rfl
      rw [this, bne, xid_self]; rfl
    have := filter_td (fun a => a.2.1 != x) L i
    rw [List.filter_append, List.filter_cons, e, List.length_append]
    simpa using this
  omega
theorem start_ok {L : List Asc} {s : Int} {x : Xid} (h : RowA L) (hs : s ≠ 0) (hx : XidOk x) :
    (∃ A, startF L s x = (A, 0) ∧ RowA A ∧ A.length ≤ L.length + 1 ∧ actA A s = some x ∧ endF A s x = (L, 0) ∧ cntA A x = cntA L x + 1) ∨ ∃ A c, c ≠ 0 ∧ startF L s x = (A, c) := by
  unfold startF
  rw [if_pos (may_yes h hs hx)]
  by_cases ha : (actA L s).isSome = true
  · rw [if_pos ha]; exact .inr ⟨_, _, by omega, rfl⟩
  · rw [if_neg ha]
    have hn : actA L s = none := by simpa using ha
    rcases Classical.em (Mem L s x) with hm | hm
    · obtain ⟨k, hk, he⟩ := hm
      rw [idx_yes h.rises hk he]; exact .inr ⟨_, _, by omega, rfl⟩
    · rw [idx_no hm]
      obtain ⟨i, hp⟩ := place_ex h.rises (s, x, false)
      rw [place_eq hp]
      have hr := row_ins h hs hx hn hm hp
      exact .inl ⟨_, rfl, hr, by rw [insA_len]; omega, act_ins h hn hr, end_ins hs hx hp.1 hr, cnt_ins h hr⟩
theorem row_susp {L : List Asc} {k : Nat} (h : RowA L) (hk : k < L.length) : RowA (L.set k (L[k].susp true)) := by
  have key : ∀ i, (hi : i < L.length) → (hi2 : i < (L.set k (L[k].susp true)).length) → keyA (L.set k (L[k].susp true))[i] = keyA L[i] ∧ (L[i].2.2 = true → (L.set k (L[k].susp true))[i].2.2 = true) := by
    intro i hi hi2
    rw [List.getElem_set]
    split
    · rename_i e; subst e; exact ⟨rfl, fun _ => rfl⟩
    · exact ⟨rfl, fun h => h⟩
  refine ⟨fun a ha => ?_, ?_⟩
  · obtain ⟨i, hi, rfl⟩ := List.getElem_of_mem ha
    have hi' : i < L.length := by simpa using hi
    have hkey := (key i hi' hi).1
    unfold keyA at hkey
    simp only [Prod.mk.injEq] at hkey
    rw [hkey.1, hkey.2]; exact h.1 _ (List.getElem_mem hi')
  · rw [List.pairwise_iff_getElem]
    intro i j hi hj hij
    have hi' : i < L.length := by simpa using hi
    have hj' : j < L.length := by simpa using hj
    obtain ⟨a1, a2⟩ := key i hi' hi
    obtain ⟨b1, b2⟩ := key j hj' hj
    have hR := List.pairwise_iff_getElem.1 h.2 i j hi' hj' hij
    refine ⟨by unfold cmpA; rw [a1, b1]; exact hR.1, fun he => ?_⟩
    unfold keyA at a1 b1
    simp only [Prod.mk.injEq] at a1 b1
    rcases hR.2 (by rw [← a1.1, ← b1.1]; exact he) with h1 | h1
    · exact .inl (a2 h1)
    · exact .inr (b2 h1)
theorem susp_ok {L : List Asc} {s : Int} {x : Xid} (h : RowA L) (hs : s ≠ 0) (hx : XidOk x) :
    (∃ C, suspendF L s x = (C, 0) ∧ RowA C ∧ C.length ≤ L.length + 1 ∧ actA C s = none ∧ resumeF C s x = (L, 0)) ∨ ∃ A c, c ≠ 0 ∧ suspendF L s x = (A, c) := by
  unfold suspendF
  rw [if_pos (may_yes h hs hx)]
  rcases Classical.em (Mem L s x) with hm | hm
  · obtain ⟨k, hk, he⟩ := hm
    rw [idx_yes h.rises hk he]
    have hgd : L.getD k (0, noX, false) = L[k] := by rw [List.getD_eq_getElem?_getD, List.getElem?_eq_getElem hk]; rfl
    simp only [hgd]
    by_cases hz : L[k].2.2 = true
    · rw [if_pos hz]; exact .inr ⟨_, _, by omega, rfl⟩
    · rw [if_neg hz]
      have hr := row_susp h hk
      have hz' : L[k].2.2 = false := by simpa using hz
      have hC : suspA L k true = L.set k (L[k].susp true) := suspA_eq hk true
      have hks : L[k].1 = s := congrArg Prod.fst he
      have hn : actA (L.set k (L[k].susp true)) s = none := by
        refine actA_none (fun _ a ha => ?_)
        obtain ⟨i, hi, rfl⟩ := List.getElem_of_mem ha
        have hi' : i < L.length := by simpa using hi
        rw [List.getElem_set]
        split
        · simp [Asc.susp]
        · rename_i hne
          by_cases hse : L[i].1 = s
          · have : L[i].2.2 = true := by
              rcases Nat.lt_or_ge i k with q | q
              · rcases (List.pairwise_iff_getElem.1 h.2 i k hi' hk q).2 (hse.trans hks.symm) with r | r
                · exact r
                · exact absurd r hz
              · rcases (List.pairwise_iff_getElem.1 h.2 k i hk hi' (by omega)).2 (hks.trans hse.symm) with r | r
                · exact absurd r hz
                · exact r
            simp [this]
          · simp [hse]
      refine .inl ⟨L.set k (L[k].susp true), by rw [hC], hr, by simp, hn, ?_⟩
      unfold resumeF
      have hks2 : k < (L.set k (L[k].susp true)).length := by simpa using hk
      rw [if_pos (may_yes hr hs hx), hn, idx_yes (k := k) hr.rises hks2 (by rw [List.getElem_set_self]; exact he)]
      simp only [Option.isSome_none, Bool.false_eq_true, if_false]
      rw [suspA_eq hks2, List.getElem_set_self, List.set_set]
      congr 1
      have : ((L[k].susp true).susp false) = L[k] := by
        unfold Asc.susp; rw [← hz']
      rw [this, List.set_getElem_self]
  · rw [idx_no hm]; exact .inr ⟨_, _, by omega, rfl⟩
theorem row_filter {L : List Asc} (h : RowA L) (p : Asc → Bool) : RowA (L.filter p) := h.sub List.filter_sublist
theorem cnt_clear {L : List Asc} (h : RowA L) (x : Xid) : cntA (L.filter (fun a => a.2.1 != x)) x = 0 := by
  unfold cntA
  rw [if_pos (rowE_yes (row_filter h _)), List.filter_filter]
  simp
end Go.Proofs.Ytfjpdikaodojhaa
