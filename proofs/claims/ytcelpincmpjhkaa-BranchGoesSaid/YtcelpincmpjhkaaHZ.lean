/- Chapter 19: how long what the calls leave is, in plain lists. Conditions: none. (Texts joined; the heads of the others stand below.) -/
import Derived.Test.YtcelpincmpjhkaaBrV
import Derived.Test.YtcelpincmpjhkaaAssocI

/- Chapter 19: what Commit and Prepare leave, in plain lists. Conditions: the table is right. -/
namespace Go.Proofs.Ytcelpincmpjhkaa
set_option linter.unusedSimpArgs false
set_option linter.unusedVariables false
open Go.RowKit

theorem mayB_tab {R : List Brn} {A : List Asc} {x : Xid} (h : TabOk R A) : mayB R A true x = if XidOk x then 0 else 40 := by
  unfold mayB; rw [tabE_yes h]; simp
theorem overB_cases {m : Int} {D : Res} (h : (overB m D).2.2.2 = 0) : m = 0 ∧ overB m D = D ∨ False := by
  unfold overB at h ⊢
  by_cases hm : m = 0
  · exact .inl ⟨hm, by rw [if_pos hm]⟩
  · rw [if_neg hm] at h; exact absurd h hm
theorem sure_commit {R : List Brn} {A : List Asc} {x : Xid} {one : Bool} (hT : TabOk R A) (h1 : (overB (mayB R A true x) (commitD R A x one)).2.2.2 = 0) (h2 : (overB (mayB R A true x) (commitD R A x one)).2.2.1 = 0) :
    ∃ k, ∃ h : k < R.length, R[k].x = x ∧ R[k].why = 0 ∧ (R[k].st == 1) = one ∧ ¬ 0 < cntA A x ∧ overB (mayB R A true x) (commitD R A x one) = (withoutB R x, A, 0, 0) := by
  rcases overB_cases h1 with ⟨hm, e⟩ | h
  rw [e] at h1 h2 ⊢
  rcases Classical.em (MemB R x) with hm | hm
  · obtain ⟨k, hk, hx⟩ := hm
    refine ⟨k, hk, hx, ?_⟩
    unfold commitD at h1 h2 ⊢
    rw [idxB_yes hT.1.2 hk hx] at h1 h2 ⊢
    simp only [List.getD_eq_getElem?_getD, List.getElem?_eq_getElem hk, Option.getD_some] at h1 h2 ⊢
    by_cases ha : answerD R[k].st = 0
    · rw [if_neg (fun h => h ha)] at h1 h2 ⊢
      by_cases hs : R[k].st ≠ (if one = true then 1 else 2) ∨ cntA A x > 0
      · rw [if_pos hs] at h1; exact absurd h1 (by simp [errR])
      · rw [if_neg hs] at h1 h2 ⊢
        have hs1 : R[k].st = (if one = true then 1 else 2) := Classical.not_not.1 (fun h => hs (.inl h))
        simp only at h2
        refine ⟨h2, ?_, fun h => hs (.inr h), by rw [h2]⟩
        cases one <;> simp_all
    · rw [if_pos ha] at h2; exact absurd h2 ha
  · unfold commitD at h1; rw [idxB_no hm] at h1; exact absurd h1 (by simp [errR])
  · exact h.elim
theorem sure_prepare {R : List Brn} {A : List Asc} {x : Xid} (hT : TabOk R A) (h1 : (overB (mayB R A true x) (prepareD R A x false)).2.2.2 = 0) (h2 : (overB (mayB R A true x) (prepareD R A x false)).2.2.1 = 0) :
    ∃ k, ∃ h : k < R.length, R[k].x = x ∧ R[k].why = 0 ∧ R[k].st = 1 ∧ ¬ 0 < cntA A x ∧ overB (mayB R A true x) (prepareD R A x false) = (R.set k { R[k] with st := 2, lf := 0 }, A, 0, 0) := by
  rcases overB_cases h1 with ⟨hm, e⟩ | h
  rw [e] at h1 h2 ⊢
  rcases Classical.em (MemB R x) with hm | hm
  · obtain ⟨k, hk, hx⟩ := hm
    refine ⟨k, hk, hx, ?_⟩
    unfold prepareD at h1 h2 ⊢
    rw [idxB_yes hT.1.2 hk hx] at h1 h2 ⊢
    simp only [List.getD_eq_getElem?_getD, List.getElem?_eq_getElem hk, Option.getD_some] at h1 h2 ⊢
    by_cases hs : R[k].st ≠ 1 ∨ cntA A x > 0
    · rw [if_pos hs] at h1; exact absurd h1 (by simp [errR])
    · rw [if_neg hs] at h1 h2 ⊢
      by_cases hw : R[k].why = 0
      · rw [if_neg (fun h => h hw), if_neg (by simp)]
        exact ⟨hw, Classical.not_not.1 (fun h => hs (.inl h)), fun h => hs (.inr h), rfl⟩
      · rw [if_pos hw] at h2; exact absurd h2 hw
  · unfold prepareD at h1; rw [idxB_no hm] at h1; exact absurd h1 (by simp [errR])
  · exact h.elim
theorem find_gone (R : List Brn) (A : List Asc) (x : Xid) : findD (withoutB R x) A x = none := findD_no (fun ⟨k, hk, e⟩ => by
  have := List.getElem_mem hk
  unfold withoutB at this
  rw [List.mem_filter, neX_decide] at this
  exact of_decide_eq_true this.2 e)
theorem cnt_any {A : List Asc} {x : Xid} (hr : RowA A) (h : ¬ 0 < cntA A x) : ∀ a ∈ A, a.2.1 ≠ x := by
  intro a ha e
  apply h
  unfold cntA
  rw [if_pos (rowE_yes hr)]
  have : (A.filter (fun a => a.2.1 != x)).length < A.length := List.length_filter_lt_length_iff_exists.2 ⟨a, ha, by rw [neX_decide]; simp [e]⟩
  omega
theorem set_rises {R : List Brn} {k : Nat} (hk : k < R.length) (h : RisesB R) (b : Brn) (hb : b.x = R[k].x) : RisesB (R.set k b) := by
  refine List.pairwise_iff_getElem.2 (fun i j hi hj hij => ?_)
  rw [List.length_set] at hi hj
  have h0 := List.pairwise_iff_getElem.1 h i j hi hj hij
  rw [List.getElem_set, List.getElem_set]
  split <;> split <;> simp_all
theorem tab_set {R : List Brn} {A : List Asc} {x : Xid} {k : Nat} (hT : TabOk R A) (hk : k < R.length) (hx : R[k].x = x) (b : Brn) (hb : b.x = x) (hok : RowOk b) (hc : b.st = 1 ∨ ∀ a ∈ A, a.2.1 ≠ x) : TabOk (R.set k b) A := by
  refine ⟨⟨fun c hc => ?_, set_rises hk hT.1.2 b (hb.trans hx.symm)⟩, hT.2.1, fun a ha => ?_⟩
  · rcases List.mem_or_eq_of_mem_set hc with q | q
    · exact hT.1.1 c q
    · rw [q]; exact hok
  · obtain ⟨c, hc1, hc2, hc3⟩ := hT.2.2 a ha
    by_cases he : a.2.1 = x
    · rcases hc with hc | hc
      · exact ⟨b, List.mem_iff_getElem.2 ⟨k, by simpa using hk, by simp⟩, by rw [hb, he], hc⟩
      · exact absurd he (hc a ha)
    · obtain ⟨j, hj, rfl⟩ := List.mem_iff_getElem.1 hc1
      have hjk : k ≠ j := fun e => he (by subst e; rw [← hc2, hx])
      exact ⟨R[j], List.mem_iff_getElem.2 ⟨j, by simpa using hj, by rw [List.getElem_set_ne hjk]⟩, hc2, hc3⟩
theorem rowOk_prep {b : Brn} (h : RowOk b) (hw : b.why = 0) : RowOk { b with st := 2, lf := 0 } := by
  refine ⟨h.1, by simp, by simp, by simp [hw], ?_⟩
  simp [hw]
theorem find_prep {R : List Brn} {A : List Asc} {x : Xid} {k : Nat} (hT : TabOk R A) (hk : k < R.length) (hx : R[k].x = x) (hw : R[k].why = 0) (hc : ¬ 0 < cntA A x) :
    findD (R.set k { R[k] with st := 2, lf := 0 }) A x = some { R[k] with st := 2, lf := 0 } := by
  have h1 := tab_set hT hk hx { R[k] with st := 2, lf := 0 } hx (rowOk_prep (hT.1.1 _ (List.getElem_mem hk)) hw) (.inr (cnt_any hT.2.1 hc))
  have hk2 : k < (R.set k { R[k] with st := 2, lf := 0 }).length := by simpa using hk
  have e := findD_yes (x := x) h1 hk2 (by simp [hx])
  rw [e]; simp
theorem without_len (R : List Brn) (x : Xid) : (withoutB R x).length ≤ R.length := List.length_filter_le _ _
end Go.Proofs.Ytcelpincmpjhkaa

/- Associations in plain lists: what Start, Suspend, Resume, End, Leave leave is right (as in chapter 18). Conditions: none. -/
namespace Go.Proofs.Ytcelpincmpjhkaa
set_option linter.unusedSimpArgs false
set_option linter.unusedVariables false
open Go.RowKit
theorem placez_of {L : List Asc} {t : Asc} {i : Nat} (hr : Rises L) (h0 : i ≤ L.length) (h1 : ∀ j, (h : j < L.length) → j < i → cmpA L[j] t < 0) (h2 : ∀ h : i < L.length, ¬ cmpA L[i] t < 0) : PlaceA L t i := by
  refine ⟨h0, h1, fun j h hij => ?_⟩
  have hi : i < L.length := by omega
  rcases Int.lt_or_le (cmpA L[j] t) 0 with q | q
  · exact absurd (cmpA_le_lt (rises_le hr hi h hij) q) (h2 hi)
  · exact q
theorem actz_none {L : List Asc} {s : Int} (h : rowE L = 0 → ∀ a ∈ L, (a.1 == s && !a.2.2) = false) : actA L s = none := by
  unfold actA
  by_cases hz : rowE L = 0
  · rw [if_pos hz, List.find?_eq_none.2 (fun a ha => by simpa using h hz a ha)]; rfl
  · rw [if_neg hz]
theorem mayz_yes {L : List Asc} {s : Int} {x : Xid} (h : RowA L) (hs : s ≠ 0) (hx : XidOk x) : mayN L s x = 0 := by
  unfold mayN; rw [rowE_yes h, if_neg (by simp), if_neg hs, if_pos hx]
theorem actz_eq {L : List Asc} (h : RowA L) (s : Int) : actA L s = (L.find? (fun a => a.1 == s && !a.2.2)).map (fun a => a.2.1) := by unfold actA; rw [if_pos (rowE_yes h)]

theorem suspA_len (L : List Asc) (k : Nat) (b : Bool) : (suspA L k b).length = L.length := by
  unfold suspA; split <;> simp
theorem insA_len (L : List Asc) (k : Nat) (t : Asc) : (insA L k t).length = L.length + 1 := by
  unfold insA; simp; omega
theorem start_len (L : List Asc) (s : Int) (x : Xid) : (startF L s x).1.length ≤ L.length + 1 := by
  unfold startF; split
  · split
    · simp
    · split
      · simp only; rw [insA_len]; omega
      · simp
  · simp
theorem resume_len (L : List Asc) (s : Int) (x : Xid) : (resumeF L s x).1.length ≤ L.length + 1 := by
  unfold resumeF; split
  · split
    · simp
    · split
      · simp
      · simp only; rw [suspA_len]; omega
  · simp
theorem suspend_len (L : List Asc) (s : Int) (x : Xid) : (suspendF L s x).1.length ≤ L.length + 1 := by
  unfold suspendF; split
  · split
    · simp
    · split
      · simp
      · simp only; rw [suspA_len]; omega
  · simp
theorem end_len (L : List Asc) (s : Int) (x : Xid) : (endF L s x).1.length ≤ L.length + 1 := by
  unfold endF; split
  · split
    · simp
    · simp only; have := List.length_eraseIdx_le L (by assumption); omega
  · simp
theorem turnz_len {a b : Nat} (h : a ≤ b + 1) (hb : b ≤ 1000000) (h30 : b ≤ 30 := by omega) : a ≤ 1000000 := by omega
theorem ownz_at {base : Nat} {e : TypeId} {w : World} {a : Option Addr} {n c : Nat} {N : List Asc} (h : Own base e 5 ascEnc w (.slice a n c) N) {k : Nat} (hk : k < N.length) : ∃ g, a = some ⟨g, 0, none⟩ ∧ base ≤ g := by
  obtain ⟨g, c, hv, hb, _⟩ := h.shape (fun e => by rw [e] at hk; simp at hk)
  simp only [Value.slice.injEq] at hv
  exact ⟨g, hv.1, hb⟩


theorem actA_not {L : List Asc} {s : Int} (h : RowA L) (hn : actA L s = none) : ∀ a ∈ L, a.1 = s → a.2.2 = true := by
  rw [actz_eq h, Option.map_eq_none_iff, List.find?_eq_none] at hn
  intro a ha he
  have := hn a ha
  simp only [he, beq_self_eq_true, Bool.true_and, Bool.not_eq_true', Bool.not_eq_false] at this
  exact this
theorem take_drop_pw {R : Asc → Asc → Prop} {L : List Asc} (h : L.Pairwise R) (i : Nat) : (L.take i).Pairwise R ∧ (L.drop i).Pairwise R ∧ ∀ a ∈ L.take i, ∀ b ∈ L.drop i, R a b := by
  have := List.pairwise_append.1 (by rw [List.take_append_drop]; exact h : (L.take i ++ L.drop i).Pairwise R)
  exact this
theorem row_ins {L : List Asc} {s : Int} {x : Xid} {i : Nat} (h : RowA L) (hs : s ≠ 0) (hx : XidOk x) (ha : actA L s = none) (hm : ¬ Mem L s x) (hp : PlaceA L (s, x, false) i) : RowA (insA L i (s, x, false)) := by
  have hac := actA_not h ha
  obtain ⟨p0, p1, p2⟩ := hp
  have ht : ∀ a ∈ L.take i, RelA a (s, x, false) := by
    intro a hm2
    obtain ⟨j, hj, rfl⟩ := List.getElem_of_mem hm2
    have hj' : j < i := by simp at hj; omega
    refine ⟨by rw [List.getElem_take]; exact p1 j (by simp at hj; omega) hj', fun he => .inl (hac _ (List.mem_of_mem_take hm2) he)⟩
  have hd : ∀ b ∈ L.drop i, RelA (s, x, false) b := by
    intro b hm2
    have hmL := List.mem_of_mem_drop hm2
    obtain ⟨j, hj, rfl⟩ := List.getElem_of_mem hm2
    rw [List.length_drop] at hj
    have h2 := p2 (i + j) (by omega) (by omega)
    rw [List.getElem_drop] at hmL ⊢
    refine ⟨?_, fun he => .inr (hac _ hmL he.symm)⟩
    rw [cmpA_anti]
    have : cmpA L[i + j] (s, x, false) ≠ 0 := fun e => hm ⟨i + j, by omega, cmpA_zero.1 e⟩
    omega
  obtain ⟨q1, q2, q3⟩ := take_drop_pw h.2 i
  refine ⟨?_, ?_⟩
  · intro a hmem
    rcases List.mem_append.1 hmem with h1 | h1
    · exact h.1 a (List.mem_of_mem_take h1)
    · rcases List.mem_cons.1 h1 with rfl | h1
      · exact ⟨hs, hx⟩
      · exact h.1 a (List.mem_of_mem_drop h1)
  · unfold insA
    rw [List.pairwise_append]
    refine ⟨q1, List.pairwise_cons.2 ⟨hd, q2⟩, fun a ha2 b hb => ?_⟩
    rcases List.mem_cons.1 hb with rfl | hb
    · exact ht a ha2
    · exact q3 a ha2 b hb
theorem act_ins {L : List Asc} {s : Int} {x : Xid} {i : Nat} (h : RowA L) (ha : actA L s = none) (hr : RowA (insA L i (s, x, false))) : actA (insA L i (s, x, false)) s = some x := by
  have hac := actA_not h ha
  rw [actz_eq hr]
  unfold insA
  rw [List.find?_append, List.find?_eq_none.2 (fun a hm => by
    have := hac a (List.mem_of_mem_take hm)
    simp only [Bool.and_eq_true, beq_iff_eq, Bool.not_eq_true', not_and, Bool.not_eq_false]; exact this)]
  simp
theorem ins_at {L : List Asc} {i : Nat} {t : Asc} (hi : i ≤ L.length) : ∃ h : i < (insA L i t).length, (insA L i t)[i] = t := by
  refine ⟨by rw [insA_len]; omega, ?_⟩
  unfold insA
  rw [List.getElem_append_right (by simp; omega)]
  simp [Nat.min_eq_left hi]
theorem end_ins {L : List Asc} {s : Int} {x : Xid} {i : Nat} (hs : s ≠ 0) (hx : XidOk x) (hi : i ≤ L.length) (hr : RowA (insA L i (s, x, false))) : endF (insA L i (s, x, false)) s x = (L, 0) := by
  obtain ⟨hl, he⟩ := ins_at (t := (s, x, false)) hi
  unfold endF
  rw [if_pos (mayz_yes hr hs hx), idx_yes (k := i) hr.rises hl (by rw [he]; rfl)]
  simp only
  congr 1
  rw [List.eraseIdx_eq_take_drop_succ]
  unfold insA
  rw [List.take_append_of_le_length (by simp; omega), List.drop_append]
  simp only [List.length_take, Nat.min_eq_left hi, List.take_take, Nat.min_self]
  rw [List.drop_eq_nil_of_le (by simp; omega), show i + 1 - i = 1 by omega]
  simp
theorem xid_self (x : Xid) : (x == x) = true := by
  obtain ⟨a, b, c⟩ := x
  show (a == a && (b == b && c == c)) = true
  rw [bytes_self, bytes_self]; simp
theorem filter_td (p : Asc → Bool) (L : List Asc) (i : Nat) : ((L.take i).filter p).length + ((L.drop i).filter p).length = (L.filter p).length := by
  rw [← List.length_append, ← List.filter_append, List.take_append_drop]
theorem place_ex {L : List Asc} (hr : Rises L) (t : Asc) : ∃ i, PlaceA L t i := by
  have key : ∀ n, n ≤ L.length → (∃ i, PlaceA L t i) ∨ ∀ j, (h : j < L.length) → j < n → cmpA L[j] t < 0 := by
    intro n
    induction n with
    | zero => intro _; exact .inr (fun j _ h => by omega)
    | succ n ih =>
      intro hn
      rcases ih (by omega) with h | h
      · exact .inl h
      · rcases Int.lt_or_le (cmpA L[n] t) 0 with q | q
        · exact .inr (fun j hj hjn => by
            rcases Nat.lt_or_ge j n with r | r
            · exact h j hj r
            · obtain rfl : j = n := by omega
              exact q)
        · exact .inl ⟨n, placez_of hr (by omega) h (fun _ => by omega)⟩
  rcases key L.length (Nat.le_refl _) with h | h
  · exact h
  · exact ⟨L.length, placez_of hr (Nat.le_refl _) h (fun h => by omega)⟩
theorem cnt_ins {L : List Asc} {s : Int} {x : Xid} {i : Nat} (h : RowA L) (hr : RowA (insA L i (s, x, false))) : cntA (insA L i (s, x, false)) x = cntA L x + 1 := by
  unfold cntA
  rw [if_pos (rowE_yes h), if_pos (rowE_yes hr), insA_len]
  have : ((insA L i (s, x, false)).filter (fun a => a.2.1 != x)).length = (L.filter (fun a => a.2.1 != x)).length := by
    unfold insA
    have e : (((s, x, false) : Asc).2.1 != x) = false := by
      have : ((s, x, false) : Asc).2.1 = x := rfl
      rw [this, bne, xid_self]; rfl
    have := filter_td (fun a => a.2.1 != x) L i
    rw [List.filter_append, List.filter_cons, e, List.length_append]
    simpa using this
  omega
theorem start_ok {L : List Asc} {s : Int} {x : Xid} (h : RowA L) (hs : s ≠ 0) (hx : XidOk x) :
    (∃ A, startF L s x = (A, 0) ∧ RowA A ∧ A.length ≤ L.length + 1 ∧ actA A s = some x ∧ endF A s x = (L, 0) ∧ cntA A x = cntA L x + 1) ∨ ∃ A c, c ≠ 0 ∧ startF L s x = (A, c) := by
  unfold startF
  rw [if_pos (mayz_yes h hs hx)]
  by_cases ha : (actA L s).isSome = true
  · rw [if_pos ha]; exact .inr ⟨_, _, by omega, rfl⟩
  · rw [if_neg ha]
    have hn : actA L s = none := by simpa using ha
    rcases Classical.em (Mem L s x) with hm | hm
    · obtain ⟨k, hk, he⟩ := hm
      rw [idx_yes h.rises hk he]; exact .inr ⟨_, _, by omega, rfl⟩
    · rw [idx_no hm]
      obtain ⟨i, hp⟩ := place_ex h.rises (s, x, false)
      rw [place_eq hp]
      have hr := row_ins h hs hx hn hm hp
      exact .inl ⟨_, rfl, hr, by rw [insA_len]; omega, act_ins h hn hr, end_ins hs hx hp.1 hr, cnt_ins h hr⟩
theorem row_susp {L : List Asc} {k : Nat} (h : RowA L) (hk : k < L.length) : RowA (L.set k (L[k].susp true)) := by
  have key : ∀ i, (hi : i < L.length) → (hi2 : i < (L.set k (L[k].susp true)).length) → keyA (L.set k (L[k].susp true))[i] = keyA L[i] ∧ (L[i].2.2 = true → (L.set k (L[k].susp true))[i].2.2 = true) := by
    intro i hi hi2
    rw [List.getElem_set]
    split
    · rename_i e; subst e; exact ⟨rfl, fun _ => rfl⟩
    · exact ⟨rfl, fun h => h⟩
  refine ⟨fun a ha => ?_, ?_⟩
  · obtain ⟨i, hi, rfl⟩ := List.getElem_of_mem ha
    have hi' : i < L.length := by simpa using hi
    have hkey := (key i hi' hi).1
    unfold keyA at hkey
    simp only [Prod.mk.injEq] at hkey
    rw [hkey.1, hkey.2]; exact h.1 _ (List.getElem_mem hi')
  · rw [List.pairwise_iff_getElem]
    intro i j hi hj hij
    have hi' : i < L.length := by simpa using hi
    have hj' : j < L.length := by simpa using hj
    obtain ⟨a1, a2⟩ := key i hi' hi
    obtain ⟨b1, b2⟩ := key j hj' hj
    have hR := List.pairwise_iff_getElem.1 h.2 i j hi' hj' hij
    refine ⟨by unfold cmpA; rw [a1, b1]; exact hR.1, fun he => ?_⟩
    unfold keyA at a1 b1
    simp only [Prod.mk.injEq] at a1 b1
    rcases hR.2 (by rw [← a1.1, ← b1.1]; exact he) with h1 | h1
    · exact .inl (a2 h1)
    · exact .inr (b2 h1)
theorem susp_ok {L : List Asc} {s : Int} {x : Xid} (h : RowA L) (hs : s ≠ 0) (hx : XidOk x) :
    (∃ C, suspendF L s x = (C, 0) ∧ RowA C ∧ C.length ≤ L.length + 1 ∧ actA C s = none ∧ resumeF C s x = (L, 0)) ∨ ∃ A c, c ≠ 0 ∧ suspendF L s x = (A, c) := by
  unfold suspendF
  rw [if_pos (mayz_yes h hs hx)]
  rcases Classical.em (Mem L s x) with hm | hm
  · obtain ⟨k, hk, he⟩ := hm
    rw [idx_yes h.rises hk he]
    have hgd : L.getD k (0, noX, false) = L[k] := by rw [List.getD_eq_getElem?_getD, List.getElem?_eq_getElem hk]; rfl
    simp only [hgd]
    by_cases hz : L[k].2.2 = true
    · rw [if_pos hz]; exact .inr ⟨_, _, by omega, rfl⟩
    · rw [if_neg hz]
      have hr := row_susp h hk
      have hz' : L[k].2.2 = false := by simpa using hz
      have hC : suspA L k true = L.set k (L[k].susp true) := suspA_eq hk true
      have hks : L[k].1 = s := congrArg Prod.fst he
      have hn : actA (L.set k (L[k].susp true)) s = none := by
        refine actz_none (fun _ a ha => ?_)
        obtain ⟨i, hi, rfl⟩ := List.getElem_of_mem ha
        have hi' : i < L.length := by simpa using hi
        rw [List.getElem_set]
        split
        · simp [Asc.susp]
        · rename_i hne
          by_cases hse : L[i].1 = s
          · have : L[i].2.2 = true := by
              rcases Nat.lt_or_ge i k with q | q
              · rcases (List.pairwise_iff_getElem.1 h.2 i k hi' hk q).2 (hse.trans hks.symm) with r | r
                · exact r
                · exact absurd r hz
              · rcases (List.pairwise_iff_getElem.1 h.2 k i hk hi' (by omega)).2 (hks.trans hse.symm) with r | r
                · exact absurd r hz
                · exact r
            simp [this]
          · simp [hse]
      refine .inl ⟨L.set k (L[k].susp true), by rw [hC], hr, by simp, hn, ?_⟩
      unfold resumeF
      have hks2 : k < (L.set k (L[k].susp true)).length := by simpa using hk
      rw [if_pos (mayz_yes hr hs hx), hn, idx_yes (k := k) hr.rises hks2 (by rw [List.getElem_set_self]; exact he)]
      simp only [Option.isSome_none, Bool.false_eq_true, if_false]
      rw [suspA_eq hks2, List.getElem_set_self, List.set_set]
      congr 1
      have : ((L[k].susp true).susp false) = L[k] := by
        unfold Asc.susp; rw [← hz']
      rw [this, List.set_getElem_self]
  · rw [idx_no hm]; exact .inr ⟨_, _, by omega, rfl⟩
theorem row_filter {L : List Asc} (h : RowA L) (p : Asc → Bool) : RowA (L.filter p) := h.sub List.filter_sublist
theorem cnt_clear {L : List Asc} (h : RowA L) (x : Xid) : cntA (L.filter (fun a => a.2.1 != x)) x = 0 := by
  unfold cntA
  rw [if_pos (rowE_yes (row_filter h _)), List.filter_filter]
  simp
noncomputable def leaveF (L : List Asc) (s : Int) : List Asc × Int := (if mayN L s (0, ⟨#[120]⟩, ⟨#[]⟩) = 0 then L.filter (fun a => a.1 != s) else [], mayN L s (0, ⟨#[120]⟩, ⟨#[]⟩))
noncomputable def clearF (L : List Asc) (x : Xid) : List Asc × Int := (if mayN L 1 x = 0 then L.filter (fun a => a.2.1 != x) else [], mayN L 1 x)
def Good (L : List Asc) (p : List Asc × Int) : Prop := p.1.length ≤ L.length + 1 ∧ (p.2 = 0 → RowA p.1)
theorem good_start (L : List Asc) (s : Int) (x : Xid) : Good L (startF L s x) := ⟨start_len _ _ _, fun h => by
  by_cases hm : mayN L s x = 0
  · obtain ⟨h1, h2, h3⟩ := may_zero hm
    rcases start_ok h1 h2 h3 with ⟨A, e, hr, _⟩ | ⟨A, c, hc, e⟩
    · rw [e]; exact hr
    · rw [e] at h; exact absurd h hc
  · unfold startF at h; rw [if_neg hm] at h; exact absurd h hm⟩
theorem good_suspend (L : List Asc) (s : Int) (x : Xid) : Good L (suspendF L s x) := ⟨suspend_len _ _ _, fun h => by
  by_cases hm : mayN L s x = 0
  · obtain ⟨h1, h2, h3⟩ := may_zero hm
    rcases susp_ok h1 h2 h3 with ⟨A, e, hr, _⟩ | ⟨A, c, hc, e⟩
    · rw [e]; exact hr
    · rw [e] at h; exact absurd h hc
  · unfold suspendF at h; rw [if_neg hm] at h; exact absurd h hm⟩
theorem row_resume {L : List Asc} {k : Nat} (h : RowA L) (hk : k < L.length) (ha : actA L L[k].1 = none) : RowA (L.set k (L[k].susp false)) := by
  have hac := actA_not h ha
  have key : ∀ i, (hi : i < L.length) → (hi2 : i < (L.set k (L[k].susp false)).length) → keyA (L.set k (L[k].susp false))[i] = keyA L[i] ∧ (i ≠ k → (L.set k (L[k].susp false))[i] = L[i]) := by
    intro i hi hi2
    rw [List.getElem_set]
    split
    · rename_i e; subst e; exact ⟨rfl, fun h => absurd rfl h⟩
    · exact ⟨rfl, fun _ => rfl⟩
  refine ⟨fun a ha => ?_, ?_⟩
  · obtain ⟨i, hi, rfl⟩ := List.getElem_of_mem ha
    have hi' : i < L.length := by simpa using hi
    have hkey := (key i hi' hi).1
    unfold keyA at hkey
    simp only [Prod.mk.injEq] at hkey
    rw [hkey.1, hkey.2]; exact h.1 _ (List.getElem_mem hi')
  · rw [List.pairwise_iff_getElem]
    intro i j hi hj hij
    have hi' : i < L.length := by simpa using hi
    have hj' : j < L.length := by simpa using hj
    obtain ⟨a1, a2⟩ := key i hi' hi
    obtain ⟨b1, b2⟩ := key j hj' hj
    have hR := List.pairwise_iff_getElem.1 h.2 i j hi' hj' hij
    refine ⟨by unfold cmpA; rw [a1, b1]; exact hR.1, fun he => ?_⟩
    have a1' := a1; have b1' := b1
    unfold keyA at a1' b1'
    simp only [Prod.mk.injEq] at a1' b1'
    have hes : L[i].1 = L[j].1 := by rw [← a1'.1, ← b1'.1]; exact he
    by_cases hik : i = k
    · subst hik
      right
      rw [b2 (by omega)]
      exact hac _ (List.getElem_mem hj') hes.symm
    · by_cases hjk : j = k
      · left
        rw [a2 hik]
        subst hjk; exact hac _ (List.getElem_mem hi') hes
      · rw [a2 hik, b2 hjk]; exact hR.2 hes
theorem good_resume (L : List Asc) (s : Int) (x : Xid) : Good L (resumeF L s x) := ⟨resume_len _ _ _, fun h => by
  by_cases hm : mayN L s x = 0
  · obtain ⟨h1, h2, h3⟩ := may_zero hm
    unfold resumeF at h ⊢
    rw [if_pos hm] at h ⊢
    by_cases ha : (actA L s).isSome = true
    · rw [if_pos ha] at h; simp at h
    · rw [if_neg ha] at h ⊢
      rcases Classical.em (Mem L s x) with hq | hq
      · obtain ⟨k, hk, he⟩ := hq
        rw [idx_yes h1.rises hk he] at h ⊢
        simp only
        rw [suspA_eq hk]
        have hks : L[k].1 = s := congrArg Prod.fst he
        exact row_resume h1 hk (by rw [hks]; simpa using ha)
      · rw [idx_no hq] at h; simp at h
  · unfold resumeF at h; rw [if_neg hm] at h; exact absurd h hm⟩
theorem good_end (L : List Asc) (s : Int) (x : Xid) : Good L (endF L s x) := ⟨end_len _ _ _, fun h => by
  by_cases hm : mayN L s x = 0
  · obtain ⟨h1, h2, h3⟩ := may_zero hm
    unfold endF at h ⊢
    rw [if_pos hm] at h ⊢
    rcases Classical.em (Mem L s x) with hq | hq
    · obtain ⟨k, hk, he⟩ := hq
      rw [idx_yes h1.rises hk he]
      exact h1.sub (List.eraseIdx_sublist _ _)
    · rw [idx_no hq] at h; simp at h
  · unfold endF at h; rw [if_neg hm] at h; exact absurd h hm⟩
theorem good_leave (L : List Asc) (s : Int) : Good L (leaveF L s) := ⟨by
  unfold leaveF; simp only; split
  · have := List.length_filter_le (fun a : Asc => a.1 != s) L; omega
  · simp, fun h => by
  unfold leaveF at h ⊢
  simp only at h ⊢
  rw [if_pos h]
  exact row_filter (may_zero h).1 _⟩
theorem good_clear (L : List Asc) (x : Xid) : Good L (clearF L x) := ⟨by
  unfold clearF; simp only; split
  · have := List.length_filter_le (fun a : Asc => a.2.1 != x) L; omega
  · simp, fun h => by
  unfold clearF at h ⊢
  simp only at h ⊢
  rw [if_pos h]
  exact row_filter (may_zero h).1 _⟩

end Go.Proofs.Ytcelpincmpjhkaa

/- Chapter 19: what each call leaves is right, and keeps what is prepared or decided, in plain lists. Conditions: the table is right. -/
namespace Go.Proofs.Ytcelpincmpjhkaa
set_option linter.unusedSimpArgs false
set_option linter.unusedVariables false
open Go.RowKit

/-! ### names of associations -/
theorem name_susp {L : List Asc} {k : Nat} {b : Bool} {a : Asc} (h : a ∈ suspA L k b) : ∃ c ∈ L, c.2.1 = a.2.1 := by
  unfold suspA at h
  split at h
  · rename_i c hc
    rcases List.mem_or_eq_of_mem_set h with q | q
    · exact ⟨a, q, rfl⟩
    · exact ⟨c, List.mem_of_getElem? hc, by rw [q]; rfl⟩
  · exact ⟨a, h, rfl⟩
theorem name_start {L : List Asc} {s : Int} {x : Xid} {a : Asc} (h : a ∈ (startF L s x).1) : a.2.1 = x ∨ ∃ c ∈ L, c.2.1 = a.2.1 := by
  unfold startF at h
  split at h
  · split at h
    · simp at h
    · split at h
      · simp only [insA, List.mem_append, List.mem_cons] at h
        rcases h with h | h | h
        · exact .inr ⟨a, List.mem_of_mem_take h, rfl⟩
        · exact .inl (by rw [h])
        · exact .inr ⟨a, List.mem_of_mem_drop h, rfl⟩
      · simp at h
  · simp at h
theorem name_resume {L : List Asc} {s : Int} {x : Xid} {a : Asc} (h : a ∈ (resumeF L s x).1) : ∃ c ∈ L, c.2.1 = a.2.1 := by
  unfold resumeF at h
  split at h
  · split at h
    · simp at h
    · split at h
      · simp at h
      · exact name_susp h
  · simp at h
theorem name_suspend {L : List Asc} {s : Int} {x : Xid} {a : Asc} (h : a ∈ (suspendF L s x).1) : ∃ c ∈ L, c.2.1 = a.2.1 := by
  unfold suspendF at h
  split at h
  · split at h
    · simp at h
    · split at h
      · simp at h
      · exact name_susp h
  · simp at h
theorem name_end {L : List Asc} {s : Int} {x : Xid} {a : Asc} (h : a ∈ (endF L s x).1) : ∃ c ∈ L, c.2.1 = a.2.1 := by
  unfold endF at h
  split at h
  · split at h
    · simp at h
    · exact ⟨a, List.mem_of_mem_eraseIdx h, rfl⟩
  · simp at h

/-! ### rows -/
theorem idxB_spec {R : List Brn} {x : Xid} {k : Nat} (h : idxB R x = some k) : ∃ hk : k < R.length, R[k].x = x := by
  unfold idxB at h
  split at h
  · rename_i hm
    injection h with h
    subst h
    exact hm.choose_spec
  · simp at h
theorem idxB_none {R : List Brn} {x : Xid} (h : idxB R x = none) : ¬ MemB R x := by
  unfold idxB at h
  split at h
  · simp at h
  · rename_i hm; exact hm
theorem getD_at {R : List Brn} {k : Nat} (hk : k < R.length) (d : Brn) : R.getD k d = R[k] := by
  rw [List.getD_eq_getElem?_getD, List.getElem?_eq_getElem hk, Option.getD_some]
theorem placeB_ex {R : List Brn} (hr : RisesB R) (x : Xid) : ∃ i, PlaceB R x i := by
  have key : ∀ n, n ≤ R.length → (∃ i, PlaceB R x i) ∨ ∀ j, (h : j < R.length) → j < n → cmpX R[j].x x < 0 := by
    intro n
    induction n with
    | zero => intro _; exact .inr (fun j _ h => by omega)
    | succ n ih =>
      intro hn
      rcases ih (by omega) with h | h
      · exact .inl h
      · rcases Int.lt_or_le (cmpX R[n].x x) 0 with q | q
        · exact .inr (fun j hj hjn => by
            rcases Nat.lt_or_ge j n with r | r
            · exact h j hj r
            · obtain rfl : j = n := by omega
              exact q)
        · refine .inl ⟨n, by omega, h, fun j hj hnj => ?_⟩
          rcases Nat.lt_or_ge n j with r | r
          · rcases Int.lt_or_le (cmpX R[j].x x) 0 with q2 | q2
            · have h3 : cmpX (R[n]'(by omega)).x R[j].x < 0 := List.pairwise_iff_getElem.1 hr n j (by omega) hj r
              have := cmpX_ok.lt_le h3 (Int.le_of_lt q2)
              omega
            · exact q2
          · obtain rfl : j = n := by omega
            exact q
  rcases key R.length (Nat.le_refl _) with h | h
  · exact h
  · exact ⟨R.length, Nat.le_refl _, h, fun j hj h2 => by omega⟩
theorem mem_ins {R : List Brn} {i : Nat} {b c : Brn} : c ∈ insB R i b ↔ c ∈ R ∨ c = b := by
  unfold insB
  rw [List.mem_append, List.mem_cons]
  constructor
  · rintro (h | h | h)
    · exact .inl (List.mem_of_mem_take h)
    · exact .inr h
    · exact .inl (List.mem_of_mem_drop h)
  · rintro (h | h)
    · rw [← List.take_append_drop i R, List.mem_append] at h
      rcases h with h | h
      · exact .inl h
      · exact .inr (.inr h)
    · exact .inr (.inl h)
theorem ins_rises {R : List Brn} {x : Xid} {i : Nat} (hr : RisesB R) (hn : ¬ MemB R x) (hp : PlaceB R x i) (b : Brn) (hb : b.x = x) : RisesB (insB R i b) := by
  obtain ⟨h0, h1, h2⟩ := hp
  have hlt : ∀ j, (h : j < R.length) → i ≤ j → cmpX x R[j].x < 0 := by
    intro j h hij
    have q := h2 j h hij
    have ha := cmpX_ok.anti R[j].x x
    rcases Int.lt_or_eq_of_le q with q | q
    · omega
    · exact absurd ⟨j, h, cmpX_zero.1 q.symm⟩ hn
  unfold insB
  refine List.pairwise_append.2 ⟨hr.sublist (List.take_sublist _ _), List.pairwise_cons.2 ⟨fun c hc => ?_, hr.sublist (List.drop_sublist _ _)⟩, fun c hc d hd => ?_⟩
  · obtain ⟨j, hj, rfl⟩ := List.getElem_of_mem hc
    rw [List.getElem_drop, hb]
    exact hlt _ _ (by omega)
  · obtain ⟨j, hj, rfl⟩ := List.getElem_of_mem hc
    have hj' : j < R.length ∧ j < i := by rw [List.length_take] at hj; omega
    rw [List.getElem_take]
    rcases List.mem_cons.1 hd with e | e
    · rw [e, hb]; exact h1 j hj'.1 hj'.2
    · obtain ⟨q, hq, rfl⟩ := List.getElem_of_mem e
      rw [List.getElem_drop]
      rw [List.length_drop] at hq
      exact List.pairwise_iff_getElem.1 hr j (i + q) hj'.1 (by omega) (by omega)
theorem uniqB {R : List Brn} {b c : Brn} (hr : RisesB R) (hb : b ∈ R) (hc : c ∈ R) (h : b.x = c.x) : b = c := by
  obtain ⟨i, hi, rfl⟩ := List.getElem_of_mem hb
  obtain ⟨j, hj, rfl⟩ := List.getElem_of_mem hc
  have e := sameB_idx hr hi hj h
  subst e; rfl
theorem no_assoc {R : List Brn} {A : List Asc} (hT : TabOk R A) {b : Brn} (hb : b ∈ R) (hs : b.st ≠ 1) : ∀ a ∈ A, a.2.1 ≠ b.x := by
  intro a ha e
  obtain ⟨c, hc, h1, h2⟩ := hT.2.2 a ha
  have := uniqB hT.1.2 hc hb (h1.trans e)
  subst this
  exact hs h2
theorem tab_names {R : List Brn} {A A' : List Asc} (hT : TabOk R A) (hA : RowA A') (hn : ∀ a ∈ A', ∃ c ∈ R, c.x = a.2.1 ∧ c.st = 1) : TabOk R A' := ⟨hT.1, hA, hn⟩
theorem tab_sub {R : List Brn} {A A' : List Asc} (hT : TabOk R A) (hA : RowA A') (hn : ∀ a ∈ A', ∃ c ∈ A, c.2.1 = a.2.1) : TabOk R A' :=
  tab_names hT hA (fun a ha => by
    obtain ⟨c, hc, e⟩ := hn a ha
    obtain ⟨d, hd, h1, h2⟩ := hT.2.2 c hc
    exact ⟨d, hd, h1.trans e, h2⟩)
theorem tab_ins {R : List Brn} {A : List Asc} {x : Xid} {i : Nat} (hT : TabOk R A) (hn : ¬ MemB R x) (hp : PlaceB R x i) (b : Brn) (hb : b.x = x) (hok : RowOk b) : TabOk (insB R i b) A :=
  ⟨⟨fun c hc => (mem_ins.1 hc).elim (hT.1.1 c) (fun e => by rw [e]; exact hok), ins_rises hT.1.2 hn hp b hb⟩, hT.2.1, fun a ha => by
    obtain ⟨c, hc, h⟩ := hT.2.2 a ha
    exact ⟨c, mem_ins.2 (.inl hc), h⟩⟩
theorem mem_without {R : List Brn} {x : Xid} {b : Brn} : b ∈ withoutB R x ↔ b ∈ R ∧ b.x ≠ x := by
  unfold withoutB; rw [List.mem_filter, neX_decide, decide_eq_true_iff]
theorem tab_without {R : List Brn} {A : List Asc} {x : Xid} (hT : TabOk R A) (hn : ∀ a ∈ A, a.2.1 ≠ x) : TabOk (withoutB R x) A :=
  ⟨⟨fun b hb => hT.1.1 b (mem_without.1 hb).1, hT.1.2.sublist List.filter_sublist⟩, hT.2.1, fun a ha => by
    obtain ⟨c, hc, h1, h2⟩ := hT.2.2 a ha
    exact ⟨c, mem_without.2 ⟨hc, fun e => hn a ha (h1.symm.trans e)⟩, h1, h2⟩⟩
theorem rowOk_new {x : Xid} (hx : XidOk x) {s : Int} (h1 : 1 ≤ s) (h2 : s ≤ 4) : RowOk (newB x s) := ⟨hx, h1, h2, by simp [newB], by simp [newB]⟩
theorem rowOk_lf {b : Brn} (h : RowOk b) (hs : b.st ≠ 1) : b.lf = 0 ∧ b.why = 0 := by
  obtain ⟨_, _, _, _, h5⟩ := h
  rw [if_pos (.inl hs)] at h5
  exact ⟨h5.1, h5.2.resolve_left hs⟩
theorem rowOk_spoil {b : Brn} (h : RowOk b) (hs : b.st = 1) : RowOk (b.spoil 1) := by
  obtain ⟨h1, h2, h3, h4, h5⟩ := h
  have hw : (b.spoil 1).why ≠ 0 := by unfold Brn.spoil; simp only; split <;> omega
  refine ⟨h1, h2, h3, ?_, ?_⟩
  · unfold Brn.spoil; simp only; split <;> omega
  · rw [if_pos (.inr (.inl hw))]; exact ⟨rfl, .inl hs⟩
theorem rowOk_tm {b : Brn} (h : RowOk b) (hs : b.st = 1) {n : Int} (hn : 0 ≤ n) : RowOk { b with tm := n, lf := if b.why = 0 then n else b.lf } := by
  obtain ⟨h1, h2, h3, h4, h5⟩ := h
  refine ⟨h1, h2, h3, h4, ?_⟩
  simp only
  by_cases hw : b.why = 0
  · rw [if_pos hw]
    by_cases hz : n = 0
    · rw [if_pos (.inr (.inr hz))]; exact ⟨hz, .inl hs⟩
    · rw [if_neg (fun h => by rcases h with h | h | h; exact h hs; exact h hw; exact hz h)]; omega
  · rw [if_neg hw, if_pos (.inr (.inl hw))]
    rw [if_pos (.inr (.inl hw))] at h5
    exact h5
theorem rowOk_st {b : Brn} (h : RowOk b) (hs : b.st ≠ 1) {s : Int} (h1 : 2 ≤ s) (h2 : s ≤ 4) : RowOk { b with st := s } := by
  obtain ⟨q1, q2⟩ := rowOk_lf h hs
  refine ⟨h.1, by simp only; omega, h2, by simp only [q2]; omega, ?_⟩
  simp only
  rw [if_pos (.inl (by omega))]
  exact ⟨q1, .inr q2⟩
theorem keep_set {R : List Brn} {k : Nat} (hk : k < R.length) (hs : R[k].st = 1) (c : Brn) {b : Brn} (hb : b ∈ R) (h : b.st ≠ 1) : b ∈ R.set k c := by
  obtain ⟨j, hj, rfl⟩ := List.getElem_of_mem hb
  have hjk : k ≠ j := fun e => by subst e; exact h hs
  exact List.mem_iff_getElem.2 ⟨j, by simpa using hj, by rw [List.getElem_set_ne hjk]⟩
theorem keep_set2 {R : List Brn} {k : Nat} (hk : k < R.length) (c : Brn) {b : Brn} (hb : b ∈ R) (h : b.x ≠ R[k].x) : b ∈ R.set k c := by
  obtain ⟨j, hj, rfl⟩ := List.getElem_of_mem hb
  have hjk : k ≠ j := fun e => by subst e; exact h rfl
  exact List.mem_iff_getElem.2 ⟨j, by simpa using hj, by rw [List.getElem_set_ne hjk]⟩

/-! ### what a call leaves is fine -/
def Fine (R : List Brn) (A : List Asc) (x : Xid) (may : Int → Prop) (p : Res) : Prop :=
  p.2.2.2 = 0 → TabOk p.1 p.2.1 ∧ p.1.length ≤ R.length + 1 ∧ p.2.1.length ≤ A.length + 1 ∧ ∀ b ∈ R, b.st ≠ 1 → (b.x = x ∧ may b.st) ∨ b ∈ p.1
section
variable {R : List Brn} {A : List Asc} {x : Xid} {may : Int → Prop}
theorem fine_err {c : Int} (h : c ≠ 0) : Fine R A x may (errR c) := fun e => absurd e h
theorem fine_over {m : Int} {D : Res} (h : m = 0 → Fine R A x may D) : Fine R A x may (overB m D) := by
  unfold overB
  by_cases hm : m = 0
  · rw [if_pos hm]; exact h hm
  · rw [if_neg hm]; exact fine_err hm
theorem fine_same (hT : TabOk R A) (y e : Int) : Fine R A x may (R, A, y, e) := fun _ => ⟨hT, by simp, by simp, fun b hb _ => .inr hb⟩
theorem fine_asc (hT : TabOk R A) {A' : List Asc} (hA : RowA A') (hn : ∀ a ∈ A', ∃ c ∈ A, c.2.1 = a.2.1) (hl : A'.length ≤ A.length + 1) (y e : Int) : Fine R A x may (R, A', y, e) :=
  fun _ => ⟨tab_sub hT hA hn, by simp, hl, fun b hb _ => .inr hb⟩
theorem fine_without (hT : TabOk R A) (hn : ∀ a ∈ A, a.2.1 ≠ x) (hm : ∀ b ∈ R, b.x = x → b.st ≠ 1 → may b.st) (y e : Int) : Fine R A x may (withoutB R x, A, y, e) :=
  fun _ => ⟨tab_without hT hn, Nat.le_succ_of_le (without_len R x), by simp, fun b hb hs => by
    by_cases hx : b.x = x
    · exact .inl ⟨hx, hm b hb hx hs⟩
    · exact .inr (mem_without.2 ⟨hb, hx⟩)⟩
theorem fine_set (hT : TabOk R A) {k : Nat} (hk : k < R.length) (hx : R[k].x = x) (hs : R[k].st = 1) (c : Brn) (hc : c.x = x) (hok : RowOk c) (h : c.st = 1 ∨ ∀ a ∈ A, a.2.1 ≠ x) (y e : Int) : Fine R A x may (R.set k c, A, y, e) :=
  fun _ => ⟨tab_set hT hk hx c hc hok h, by simp, by simp, fun b hb h => .inr (keep_set hk hs c hb h)⟩

theorem fine_start (hT : TabOk R A) (hx : XidOk x) (s : Int) (join resume : Bool) : Fine R A x may (startD R A s x join resume) := by
  unfold startD
  split
  · exact fine_err (by omega)
  · split
    · split
      · exact fine_err (by omega)
      · rename_i hi
        have hn := idxB_none hi
        obtain ⟨i, hp⟩ := placeB_ex hT.1.2 x
        split
        · rename_i h0
          rw [placeB_eq hp]
          refine fun _ => ⟨⟨(tab_ins hT hn hp (newB x 1) rfl (rowOk_new hx (by omega) (by omega))).1, (good_start A s x).2 h0, fun a ha => ?_⟩, ?_, (good_start A s x).1, fun b hb _ => .inr (mem_ins.2 (.inl hb))⟩
          · rcases name_start ha with e | ⟨c, hc, e⟩
            · exact ⟨newB x 1, mem_ins.2 (.inr rfl), e.symm, rfl⟩
            · obtain ⟨d, hd, h1, h2⟩ := hT.2.2 c hc
              exact ⟨d, mem_ins.2 (.inl hd), h1.trans e, h2⟩
          · simp only [insB, List.length_append, List.length_take, List.length_cons, List.length_drop]; omega
        · exact fine_err (by omega)
    · split
      · exact fine_err (by omega)
      · rename_i k hi
        obtain ⟨hk, hkx⟩ := idxB_spec hi
        rw [getD_at hk]
        split
        · exact fine_err (by omega)
        · rename_i hst
          have hst' : R[k].st = 1 := Classical.not_not.1 hst
          split
          · exact fine_same hT _ _
          · split
            · split
              · rename_i h0
                exact fine_asc hT ((good_resume A s x).2 h0) (fun a ha => name_resume ha) (good_resume A s x).1 _ _
              · exact fine_err (by omega)
            · split
              · rename_i h0
                refine fun _ => ⟨tab_names hT ((good_start A s x).2 h0) (fun a ha => ?_), by simp, (good_start A s x).1, fun b hb _ => .inr hb⟩
                rcases name_start ha with e | ⟨c, hc, e⟩
                · exact ⟨R[k], List.getElem_mem hk, hkx.trans e.symm, hst'⟩
                · obtain ⟨d, hd, h1, h2⟩ := hT.2.2 c hc
                  exact ⟨d, hd, h1.trans e, h2⟩
              · exact fine_err (by omega)

theorem idxA_spec {s : Int} {j : Nat} (h : idxA A s x = some j) : ∃ hj : j < A.length, keyA A[j] = (s, x) := by
  unfold idxA at h
  split at h
  · rename_i hm
    injection h with h
    subst h
    exact hm.choose_spec
  · simp at h
theorem end_ok {s : Int} {j : Nat} (hA : RowA A) (hm : mayN A s x = 0) (h : idxA A s x = some j) : (endF A s x).2 = 0 := by
  unfold endF; rw [if_pos hm, h]
theorem susp_ok2 {s : Int} {j : Nat} (hm : mayN A s x = 0) (h : idxA A s x = some j) (hz : ¬ (A.getD j (0, noX, false)).2.2 = true) : (suspendF A s x).2 = 0 := by
  unfold suspendF; rw [if_pos hm, h]; simp only; rw [if_neg hz]
theorem mem_st {R : List Brn} {A : List Asc} {s : Int} {b : Brn} (hT : TabOk R A) (hb : b ∈ R) (hm : Mem A s b.x) : b.st = 1 := by
  obtain ⟨j, hj, he⟩ := hm
  have hn : A[j].2.1 = b.x := congrArg Prod.snd he
  refine Classical.byContradiction (fun h => ?_)
  exact no_assoc hT hb h _ (List.getElem_mem hj) hn
theorem fine_end (hT : TabOk R A) (hx : XidOk x) {s : Int} (hs : s ≠ 0) (fail susp : Bool) : Fine R A x may (endD R A s x fail susp) := by
  have hm : mayN A s x = 0 := mayz_yes hT.2.1 hs hx
  unfold endD
  split
  · exact fine_err (by omega)
  · rename_i k hi
    obtain ⟨hk, hkx⟩ := idxB_spec hi
    rw [getD_at hk]
    split
    · exact fine_err (by omega)
    · rename_i j hj
      have hst : R[k].st = 1 := mem_st (s := s) hT (List.getElem_mem hk) (by rw [hkx]; exact ⟨j, idxA_spec hj⟩)
      split
      · exact fine_err (by omega)
      · rename_i hz
        split
        · rename_i hsw
          have h0 := susp_ok2 hm hj (fun h => hz ⟨hsw.1, h⟩)
          exact fine_asc hT ((good_suspend A s x).2 h0) (fun a ha => name_suspend ha) (good_suspend A s x).1 _ _
        · have h0 := end_ok hT.2.1 hm hj
          have hT2 : TabOk R (endF A s x).1 := tab_sub hT ((good_end A s x).2 h0) (fun a ha => name_end ha)
          split
          · refine fun _ => ⟨tab_set hT2 hk hkx (R[k].spoil 1) hkx (rowOk_spoil (hT.1.1 _ (List.getElem_mem hk)) hst) (.inl hst), by simp, (good_end A s x).1, fun b hb h => .inr (keep_set hk hst _ hb h)⟩
          · exact fine_asc hT ((good_end A s x).2 h0) (fun a ha => name_end ha) (good_end A s x).1 _ _

theorem fine_prepare (hT : TabOk R A) (empty : Bool) : Fine R A x may (prepareD R A x empty) := by
  unfold prepareD
  split
  · exact fine_err (by omega)
  · rename_i k hi
    obtain ⟨hk, hkx⟩ := idxB_spec hi
    rw [getD_at hk]
    split
    · exact fine_err (by omega)
    · rename_i h
      have hst : R[k].st = 1 := Classical.not_not.1 (fun q => h (.inl q))
      have hc := cnt_any hT.2.1 (x := x) (fun q => h (.inr q))
      have hm : ∀ b ∈ R, b.x = x → b.st ≠ 1 → may b.st := fun b hb hbx hs => absurd (by rw [uniqB hT.1.2 hb (List.getElem_mem hk) (hbx.trans hkx.symm)]; exact hst) hs
      split
      · exact fine_without hT hc hm _ _
      · rename_i hw
        split
        · exact fine_without hT hc hm _ _
        · exact fine_set hT hk hkx hst { R[k] with st := 2, lf := 0 } hkx (rowOk_prep (hT.1.1 _ (List.getElem_mem hk)) (Classical.not_not.1 hw)) (.inr hc) _ _
theorem answer_st {s : Int} (h : ¬ answerD s ≠ 0) : s ≠ 3 ∧ s ≠ 4 := by
  unfold answerD at h
  refine ⟨fun e => h (by rw [if_pos e]; omega), fun e => h (by rw [if_neg (by omega), if_pos e]; omega)⟩
theorem open_or {b : Brn} (h : RowOk b) (hs : b.st ≠ 1) (ha : b.st ≠ 3 ∧ b.st ≠ 4) : b.st = 2 := by
  obtain ⟨_, h2, h3, _⟩ := h; omega
theorem fine_commit (hT : TabOk R A) (one : Bool) (hmay : may 2) : Fine R A x may (commitD R A x one) := by
  unfold commitD
  split
  · exact fine_err (by omega)
  · rename_i k hi
    obtain ⟨hk, hkx⟩ := idxB_spec hi
    rw [getD_at hk]
    split
    · exact fine_same hT _ _
    · rename_i ha
      by_cases h : R[k].st ≠ (if one = true then 1 else 2) ∨ cntA A x > 0
      · rw [if_pos h]; exact fine_err (by omega)
      · rw [if_neg h]
        have hc := cnt_any hT.2.1 (x := x) (fun q => h (.inr q))
        refine fine_without hT hc (fun b hb hbx hs => ?_) _ _
        have e := uniqB hT.1.2 hb (List.getElem_mem hk) (hbx.trans hkx.symm)
        subst e
        rw [open_or (hT.1.1 _ hb) hs (answer_st ha)]; exact hmay
theorem fine_rollback (hT : TabOk R A) (hmay : may 2) : Fine R A x may (rollbackD R A x) := by
  unfold rollbackD
  split
  · exact fine_err (by omega)
  · rename_i k hi
    obtain ⟨hk, hkx⟩ := idxB_spec hi
    rw [getD_at hk]
    split
    · exact fine_same hT _ _
    · rename_i ha
      split
      · exact fine_err (by omega)
      · rename_i h
        refine fine_without hT (cnt_any hT.2.1 (x := x) h) (fun b hb hbx hs => ?_) _ _
        have e := uniqB hT.1.2 hb (List.getElem_mem hk) (hbx.trans hkx.symm)
        subst e
        rw [open_or (hT.1.1 _ hb) hs (answer_st ha)]; exact hmay
theorem fine_forget (hT : TabOk R A) (h3 : may 3) (h4 : may 4) : Fine R A x may (forgetD R A x) := by
  unfold forgetD
  split
  · exact fine_err (by omega)
  · rename_i k hi
    obtain ⟨hk, hkx⟩ := idxB_spec hi
    rw [getD_at hk]
    split
    · rename_i ha
      have hst : R[k].st = 3 ∨ R[k].st = 4 := by
        unfold answerD at ha
        by_cases q : R[k].st = 3
        · exact .inl q
        · rw [if_neg q] at ha
          by_cases q2 : R[k].st = 4
          · exact .inr q2
          · rw [if_neg q2] at ha; exact absurd rfl ha
      have hne : R[k].st ≠ 1 := by omega
      have hc := no_assoc hT (List.getElem_mem hk) hne
      rw [hkx] at hc
      refine fine_without hT hc (fun b hb hbx hs => ?_) _ _
      have e := uniqB hT.1.2 hb (List.getElem_mem hk) (hbx.trans hkx.symm)
      subst e
      rcases hst with e | e
      · rw [e]; exact h3
      · rw [e]; exact h4
    · exact fine_err (by omega)
theorem fine_decide (hT : TabOk R A) (commit : Bool) (hmay : may 2) : Fine R A x may (decideD R A x commit) := by
  unfold decideD
  split
  · exact fine_err (by omega)
  · rename_i k hi
    obtain ⟨hk, hkx⟩ := idxB_spec hi
    rw [getD_at hk]
    split
    · rename_i h2
      have hne : R[k].st ≠ 1 := by omega
      have hc := no_assoc hT (List.getElem_mem hk) hne
      rw [hkx] at hc
      refine fun _ => ⟨tab_set hT hk hkx { R[k] with st := if commit = true then 3 else 4 } hkx (rowOk_st (hT.1.1 _ (List.getElem_mem hk)) hne (by split <;> omega) (by split <;> omega)) (.inr hc), by simp, by simp, fun b hb hs => ?_⟩
      by_cases hbx : b.x = x
      · have e := uniqB hT.1.2 hb (List.getElem_mem hk) (hbx.trans hkx.symm)
        subst e
        exact .inl ⟨hkx, by rw [h2]; exact hmay⟩
      · exact .inr (keep_set2 hk _ hb (by rw [hkx]; exact hbx))
    · exact fine_err (by omega)
theorem fine_timeout (hT : TabOk R A) {n : Int} (hn : 0 ≤ n) : Fine R A x may (timeoutD R A x n) := by
  unfold timeoutD
  split
  · exact fine_err (by omega)
  · rename_i k hi
    obtain ⟨hk, hkx⟩ := idxB_spec hi
    rw [getD_at hk]
    split
    · rename_i h1
      exact fine_set hT hk hkx h1 { R[k] with tm := n, lf := if R[k].why = 0 then n else R[k].lf } hkx (rowOk_tm (hT.1.1 _ (List.getElem_mem hk)) h1 hn) (.inl h1) _ _
    · exact fine_err (by omega)
end

/-! ### Tick -/
def tickB (b : Brn) : Brn := if b.lf = 0 then b else { b with lf := b.lf - 1, why := if b.lf - 1 = 0 then 2 else b.why }
def tickT (R : List Brn) : List Xid := (R.filter (fun b => b.lf == 1)).map Brn.x
theorem tick_x (b : Brn) : (tickB b).x = b.x ∧ (tickB b).st = b.st := by unfold tickB; split <;> exact ⟨rfl, rfl⟩
theorem rowOk_tick {b : Brn} (h : RowOk b) : RowOk (tickB b) := by
  unfold tickB
  split
  · exact h
  · rename_i hl
    obtain ⟨h1, h2, h3, h4, h5⟩ := h
    by_cases hq : b.st ≠ 1 ∨ b.why ≠ 0 ∨ b.tm = 0
    · rw [if_pos hq] at h5; exact absurd h5.1 hl
    · rw [if_neg hq] at h5
      have q1 : b.st = 1 := Classical.not_not.1 (fun q => hq (.inl q))
      have q2 : b.why = 0 := Classical.not_not.1 (fun q => hq (.inr (.inl q)))
      refine ⟨h1, h2, h3, by simp only; split <;> omega, ?_⟩
      simp only
      by_cases hz : b.lf - 1 = 0
      · rw [if_pos hz, if_pos (.inr (.inl (by omega)))]; exact ⟨hz, .inl q1⟩
      · rw [if_neg hz, if_neg hq]; omega
theorem tab_tick {R : List Brn} {A : List Asc} (hT : TabOk R A) : TabOk (R.map tickB) A :=
  ⟨⟨fun b hb => by
      obtain ⟨c, hc, rfl⟩ := List.mem_map.1 hb
      exact rowOk_tick (hT.1.1 c hc), List.pairwise_map.2 (hT.1.2.imp (fun h => by rw [(tick_x _).1, (tick_x _).1]; exact h))⟩, hT.2.1, fun a ha => by
    obtain ⟨c, hc, h1, h2⟩ := hT.2.2 a ha
    exact ⟨tickB c, List.mem_map_of_mem hc, (tick_x c).1.trans h1, (tick_x c).2.trans h2⟩⟩
theorem tick_keep {R : List Brn} {A : List Asc} (hT : TabOk R A) {b : Brn} (hb : b ∈ R) (hs : b.st ≠ 1) : b ∈ R.map tickB := by
  have h0 := (rowOk_lf (hT.1.1 b hb) hs).1
  refine List.mem_map.2 ⟨b, hb, ?_⟩
  unfold tickB; rw [if_pos h0]

/-! ### Leave -/
def outA (A : List Asc) (s : Int) : List Asc := A.filter (fun a => a.1 != s)
noncomputable def lvB (A : List Asc) (s : Int) (b : Brn) : Option Brn := by
  classical exact if Mem A s b.x then (if cntA (outA A s) b.x = 0 then none else some (b.spoil 1)) else some b
noncomputable def leaveR (R : List Brn) (A : List Asc) (s : Int) : List Brn := R.filterMap (lvB A s)
noncomputable def leaveT (R : List Brn) (A : List Asc) (s : Int) : List Xid := by
  classical exact (R.filter (fun b => decide (Mem A s b.x ∧ b.why = 0))).map Brn.x
theorem lvB_no {A : List Asc} {s : Int} {b : Brn} (h : ¬ Mem A s b.x) : lvB A s b = some b := by unfold lvB; rw [if_neg h]
theorem lvB_gone {A : List Asc} {s : Int} {b : Brn} (h : Mem A s b.x) (hc : cntA (outA A s) b.x = 0) : lvB A s b = none := by unfold lvB; rw [if_pos h, if_pos hc]
theorem lvB_stay {A : List Asc} {s : Int} {b : Brn} (h : Mem A s b.x) (hc : cntA (outA A s) b.x ≠ 0) : lvB A s b = some (b.spoil 1) := by unfold lvB; rw [if_pos h, if_neg hc]
theorem lvB_x {A : List Asc} {s : Int} {b c : Brn} (h : lvB A s b = some c) : c.x = b.x ∧ c.st = b.st ∧ (c = b ∨ Mem A s b.x ∧ c = b.spoil 1) := by
  unfold lvB at h
  split at h
  · rename_i hm
    split at h
    · simp at h
    · injection h with h; subst h; exact ⟨rfl, rfl, .inr ⟨hm, rfl⟩⟩
  · injection h with h; subst h; exact ⟨rfl, rfl, .inl rfl⟩
theorem tab_leave {R : List Brn} {A : List Asc} (hT : TabOk R A) (s : Int) : TabOk (leaveR R A s) (outA A s) := by
  have hA : RowA (outA A s) := row_filter hT.2.1 _
  refine ⟨⟨fun c hc => ?_, ?_⟩, hA, fun a ha => ?_⟩
  · obtain ⟨b, hb, e⟩ := List.mem_filterMap.1 hc
    rcases (lvB_x e).2.2 with q | ⟨hm, q⟩
    · rw [q]; exact hT.1.1 b hb
    · rw [q]; exact rowOk_spoil (hT.1.1 b hb) (mem_st hT hb hm)
  · refine List.pairwise_filterMap.2 (hT.1.2.imp (fun h c hc d hd => ?_))
    rw [(lvB_x hc).1, (lvB_x hd).1]; exact h
  · have haA := (List.mem_filter.1 ha).1
    obtain ⟨c, hc, h1, h2⟩ := hT.2.2 a haA
    rcases Classical.em (Mem A s c.x) with hm | hm
    · have hcn : cntA (outA A s) c.x ≠ 0 := fun e => cnt_any hA (x := c.x) (by omega) a ha h1.symm
      exact ⟨c.spoil 1, List.mem_filterMap.2 ⟨c, hc, lvB_stay hm hcn⟩, h1, h2⟩
    · exact ⟨c, List.mem_filterMap.2 ⟨c, hc, lvB_no hm⟩, h1, h2⟩
theorem leave_keep {R : List Brn} {A : List Asc} (hT : TabOk R A) (s : Int) {b : Brn} (hb : b ∈ R) (hs : b.st ≠ 1) : b ∈ leaveR R A s :=
  List.mem_filterMap.2 ⟨b, hb, lvB_no (fun h => hs (mem_st hT hb h))⟩
theorem leaveR_len (R : List Brn) (A : List Asc) (s : Int) : (leaveR R A s).length ≤ R.length := List.length_filterMap_le _ _
theorem outA_len (A : List Asc) (s : Int) : (outA A s).length ≤ A.length := List.length_filter_le _ _
end Go.Proofs.Ytcelpincmpjhkaa

/- Chapter 19: how long what the calls leave is, in plain lists. Conditions: none. -/
namespace Go.Proofs.Ytcelpincmpjhkaa
set_option linter.unusedSimpArgs false
set_option linter.unusedVariables false
open Go.RowKit
def Len (R : List Brn) (A : List Asc) (p : Res) : Prop := p.1.length ≤ R.length + 1 ∧ p.2.1.length ≤ A.length + 1
section
variable (R : List Brn) (A : List Asc)
theorem len_err (e : Int) : Len R A (errR e) := ⟨by simp [errR], by simp [errR]⟩
theorem len_mk {R' : List Brn} {A' : List Asc} {a e : Int} (h1 : R'.length ≤ R.length + 1) (h2 : A'.length ≤ A.length + 1) : Len R A (R', A', a, e) := ⟨h1, h2⟩
theorem len_w (x : Xid) : (withoutB R x).length ≤ R.length + 1 := Nat.le_succ_of_le (without_len R x)
theorem len_set (k : Nat) (b : Brn) : (R.set k b).length ≤ R.length + 1 := by simp
theorem len_ins (k : Nat) (b : Brn) : (insB R k b).length ≤ R.length + 1 := by unfold insB; simp; omega
variable {R A}
theorem len_over {m : Int} {D : Res} (h : Len R A D) : Len R A (overB m D) := by
  unfold overB; split
  · exact h
  · exact len_err _ _ _
variable (R A)
theorem len_prepare (x : Xid) (is : Bool) : Len R A (prepareD R A x is) := by
  unfold prepareD; split
  · exact len_err _ _ _
  · split
    · exact len_err _ _ _
    · split
      · exact len_mk _ _ (len_w _ _) (by simp)
      · split
        · exact len_mk _ _ (len_w _ _) (by simp)
        · exact len_mk _ _ (len_set _ _ _) (by simp)
theorem len_commit (x : Xid) (one : Bool) : Len R A (commitD R A x one) := by
  unfold commitD; split
  · exact len_err _ _ _
  · rename_i k _
    by_cases h : answerD (R.getD k (newB x 0)).st ≠ 0
    · rw [if_pos h]; exact len_mk _ _ (by simp) (by simp)
    · rw [if_neg h]
      by_cases h2 : (R.getD k (newB x 0)).st ≠ (if one = true then 1 else 2) ∨ cntA A x > 0
      · rw [if_pos h2]; exact len_err _ _ _
      · rw [if_neg h2]; exact len_mk _ _ (len_w _ _) (by simp)
theorem len_rollback (x : Xid) : Len R A (rollbackD R A x) := by
  unfold rollbackD; split
  · exact len_err _ _ _
  · split
    · exact len_mk _ _ (by simp) (by simp)
    · split
      · exact len_err _ _ _
      · exact len_mk _ _ (len_w _ _) (by simp)
theorem len_forget (x : Xid) : Len R A (forgetD R A x) := by
  unfold forgetD; split
  · exact len_err _ _ _
  · split
    · exact len_mk _ _ (len_w _ _) (by simp)
    · exact len_err _ _ _
theorem len_decide (x : Xid) (c : Bool) : Len R A (decideD R A x c) := by
  unfold decideD; split
  · exact len_err _ _ _
  · split
    · exact len_mk _ _ (len_set _ _ _) (by simp)
    · exact len_err _ _ _
theorem len_spoil (x : Xid) : Len R A (spoilD R A x) := by
  unfold spoilD; split
  · exact len_err _ _ _
  · split
    · exact len_mk _ _ (len_set _ _ _) (by simp)
    · exact len_err _ _ _
theorem len_timeout (x : Xid) (n : Int) : Len R A (timeoutD R A x n) := by
  unfold timeoutD; split
  · exact len_err _ _ _
  · split
    · exact len_mk _ _ (len_set _ _ _) (by simp)
    · exact len_err _ _ _
theorem len_restore (x : Xid) (s : Int) : Len R A (restoreD R A x s) := by
  unfold restoreD; split
  · exact len_err _ _ _
  · exact len_mk _ _ (len_ins _ _ _) (by simp)
theorem len_start (s : Int) (x : Xid) (join resume : Bool) : Len R A (startD R A s x join resume) := by
  unfold startD; split
  · exact len_err _ _ _
  · split
    · split
      · exact len_err _ _ _
      · split
        · exact len_mk _ _ (len_ins _ _ _) (good_start A s x).1
        · exact len_err _ _ _
    · split
      · exact len_err _ _ _
      · split
        · exact len_err _ _ _
        · split
          · exact len_mk _ _ (by simp) (by simp)
          · split
            · split
              · exact len_mk _ _ (by simp) (good_resume A s x).1
              · exact len_err _ _ _
            · split
              · exact len_mk _ _ (by simp) (good_start A s x).1
              · exact len_err _ _ _
theorem len_end (s : Int) (x : Xid) (fail susp : Bool) : Len R A (endD R A s x fail susp) := by
  unfold endD; split
  · exact len_err _ _ _
  · split
    · exact len_err _ _ _
    · split
      · exact len_err _ _ _
      · split
        · exact len_mk _ _ (by simp) (good_suspend A s x).1
        · split
          · exact len_mk _ _ (len_set _ _ _) (good_end A s x).1
          · exact len_mk _ _ (by simp) (good_end A s x).1
end
end Go.Proofs.Ytcelpincmpjhkaa
