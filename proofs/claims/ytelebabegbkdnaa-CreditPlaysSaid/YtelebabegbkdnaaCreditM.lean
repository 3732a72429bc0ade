/- What stays right of a round and of the document's, from call to call: plain lists. Conditions: none. -/
import Derived.Test.YtelebabegbkdnaaCreditL
namespace Go.Proofs.Ytelebabegbkdnaa
open Go.RowKit
set_option linter.unusedVariables false

def tagsOf (L : List Sub) : List ByteArray := L.map (·.1)
def fT (T : List ByteArray) (t : ByteArray) : Option Nat := T.findIdx? (fun x => sameS x t)
theorem findS_T (L : List Sub) (t : ByteArray) : findS L t = fT (tagsOf L) t := by
  unfold findS fT tagsOf
  rw [List.findIdx?_map]; rfl
theorem fT_some {T : List ByteArray} {t : ByteArray} {i : Nat} (h : fT T t = some i) : T[i]? = some t := by
  unfold fT at h
  rw [List.findIdx?_eq_some_iff_getElem] at h
  obtain ⟨hi, hp, _⟩ := h
  rw [List.getElem?_eq_getElem hi, sameS_iff.1 hp]
theorem fT_of {T : List ByteArray} (hn : T.Nodup) {t : ByteArray} {i : Nat} (h : T[i]? = some t) : fT T t = some i := by
  obtain ⟨hi, rfl⟩ := List.getElem?_eq_some_iff.1 h
  unfold fT
  rw [List.findIdx?_eq_some_iff_getElem]
  refine ⟨hi, sameS_iff.2 rfl, fun j hj => ?_⟩
  rw [sameS_iff]
  intro e
  have := (List.pairwise_iff_getElem.1 hn) j i (by omega) hi hj
  exact this e
theorem fT_none {T : List ByteArray} {t : ByteArray} : fT T t = none ↔ t ∉ T := by
  unfold fT
  rw [List.findIdx?_eq_none_iff]
  constructor
  · intro h hm; have := h t hm; rw [sameS_iff.2 rfl] at this; cases this
  · intro h x hx; rw [sameS_no]; exact fun e => h (e ▸ hx)
theorem nxOf_some {L : List Sub} (hn : (tagsOf L).Nodup) {t : ByteArray} {i : Nat} (h : (tagsOf L)[i]? = some t) : nxOf L t = i + 1 := by
  unfold nxOf; rw [findS_T, fT_of hn h]
theorem nxOf_none {L : List Sub} {t : ByteArray} (h : t ∉ tagsOf L) : nxOf L t = 0 := by
  unfold nxOf; rw [findS_T, fT_none.2 h]

structure COk (L : List Sub) (nx : Nat) (last : ByteArray) : Prop where
  cred : ∀ x ∈ L, 0 ≤ x.2 ∧ x.2 ≤ 4294967295
  tags : ∀ x ∈ tagsOf L, 0 < x.size
  nodup : (tagsOf L).Nodup
  nx : nx = nxOf L last
  last : last = ⟨#[]⟩ ∨ ∃ i : Nat, (tagsOf L)[i]? = some last

theorem COk.nil : COk [] 0 ⟨#[]⟩ := ⟨by simp, by simp [tagsOf], by simp [tagsOf], rfl, .inl rfl⟩
theorem COk.nx_le {L : List Sub} {nx : Nat} {last : ByteArray} (h : COk L nx last) : nx ≤ L.length := by rw [h.nx]; exact nxOf_le _ _
theorem COk.empty {L : List Sub} {nx : Nat} {last : ByteArray} (h : COk L nx last) : (⟨#[]⟩ : ByteArray) ∉ tagsOf L := fun hm => by have := h.tags _ hm; simp [ByteArray.size] at this

theorem COk.add {L : List Sub} {nx : Nat} {last t : ByteArray} (h : COk L nx last) : COk (addOf L t).2 nx last ∧ (addOf L t).2.length ≤ L.length + 1 := by
  unfold addOf
  by_cases h1 : t.size = 0 ∨ 40 < t.size
  · rw [if_pos h1]; exact ⟨h, Nat.le_succ _⟩
  · rw [if_neg h1]
    cases hf : findS L t with
    | some i => exact ⟨h, Nat.le_succ _⟩
    | none =>
      simp only [Option.isSome_none, Bool.false_eq_true, if_false]
      rw [findS_T, fT_none] at hf
      have et : tagsOf (L ++ [(t, 0)]) = tagsOf L ++ [t] := by simp [tagsOf]
      have hn : (tagsOf (L ++ [(t, 0)])).Nodup := by
        rw [et, List.nodup_append]
        exact ⟨h.nodup, by simp, fun a ha b hb e => by simp at hb; subst hb; subst e; exact hf ha⟩
      refine ⟨⟨?_, ?_, hn, ?_, ?_⟩, by simp⟩
      · intro x hx
        rw [List.mem_append] at hx
        rcases hx with hx | hx
        · exact h.cred x hx
        · simp at hx; subst hx; simp
      · intro x hx
        rw [et, List.mem_append] at hx
        rcases hx with hx | hx
        · exact h.tags x hx
        · simp at hx; subst hx; omega
      · rcases h.last with hl | ⟨i, hi⟩
        · rw [h.nx, hl, nxOf_none h.empty, nxOf_none]
          rw [et, List.mem_append]
          rintro (hm | hm)
          · exact h.empty hm
          · simp at hm; rw [← hm] at h1; simp [ByteArray.size] at h1
        · rw [h.nx, nxOf_some h.nodup hi]
          refine (nxOf_some hn ?_).symm
          rw [et, List.getElem?_append_left (List.getElem?_eq_some_iff.1 hi).1, hi]
      · rcases h.last with hl | ⟨i, hi⟩
        · exact .inl hl
        · exact .inr ⟨i, by rw [et, List.getElem?_append_left (List.getElem?_eq_some_iff.1 hi).1, hi]⟩

theorem tags_modify (L : List Sub) (i : Nat) (f : Int → Int) : tagsOf (L.modify i (fun x => (x.1, f x.2))) = tagsOf L := by
  apply List.ext_getElem?
  intro j
  unfold tagsOf
  rw [List.getElem?_map, List.getElem?_map, List.getElem?_modify]
  cases L[j]? with
  | none => rfl
  | some x => simp only [Option.map_some]; split <;> rfl
theorem nxOf_tags {L M : List Sub} {t : ByteArray} (h : tagsOf L = tagsOf M) : nxOf L t = nxOf M t := by unfold nxOf; rw [findS_T, findS_T, h]
theorem cred_modify {L : List Sub} {i : Nat} {f : Int → Int} (h : ∀ x ∈ L, 0 ≤ x.2 ∧ x.2 ≤ 4294967295) (hf : ∀ c, L[i]?.map (·.2) = some c → 0 ≤ f c ∧ f c ≤ 4294967295) : ∀ x ∈ L.modify i (fun x => (x.1, f x.2)), 0 ≤ x.2 ∧ x.2 ≤ 4294967295 := by
  intro x hx
  obtain ⟨j, hj, rfl⟩ := List.getElem_of_mem hx
  rw [List.length_modify] at hj
  rw [List.getElem_modify]
  split
  · rename_i e; subst e
    exact hf _ (by rw [List.getElem?_eq_getElem hj]; rfl)
  · exact h _ (List.getElem_mem hj)
theorem COk.mod {L : List Sub} {nx i : Nat} {last : ByteArray} {f : Int → Int} (h : COk L nx last) (hf : ∀ c, L[i]?.map (·.2) = some c → 0 ≤ f c ∧ f c ≤ 4294967295) : COk (L.modify i (fun x => (x.1, f x.2))) nx last :=
  ⟨cred_modify h.cred hf, by rw [tags_modify]; exact h.tags, by rw [tags_modify]; exact h.nodup, by rw [nxOf_tags (tags_modify L i f)]; exact h.nx, by rw [tags_modify]; exact h.last⟩
theorem COk.set {L : List Sub} {nx : Nat} {last t : ByteArray} {f : Int → Int} (h : COk L nx last) (hf : ∀ c, 0 ≤ c ∧ c ≤ 4294967295 → 0 ≤ f c ∧ f c ≤ 4294967295) : COk (setOf L t f).2 nx last ∧ (setOf L t f).2.length ≤ L.length + 1 := by
  unfold setOf
  cases findS L t with
  | none => exact ⟨h, Nat.le_succ _⟩
  | some i =>
    refine ⟨h.mod (fun c hc => hf c ?_), by simp⟩
    cases hi : L[i]? with
    | none => rw [hi] at hc; cases hc
    | some x => rw [hi] at hc; simp at hc; subst hc; exact h.cred x (List.mem_of_getElem? hi)
theorem gave_ok {n : Int} (n0 : 0 ≤ n) (c : Int) (h : 0 ≤ c ∧ c ≤ 4294967295) : 0 ≤ gave c n ∧ gave c n ≤ 4294967295 := by
  unfold gave; split <;> omega

theorem COk.rem {L : List Sub} {nx : Nat} {last t : ByteArray} (h : COk L nx last) : COk (remOf L t).2 (remNx L t nx) (remLast L t last) ∧ (remOf L t).2.length ≤ L.length + 1 := by
  unfold remOf remNx remLast
  cases hf : findS L t with
  | none => exact ⟨h, Nat.le_succ _⟩
  | some i =>
    have hi := findS_lt hf
    rw [findS_T] at hf
    have hT := fT_some hf
    have et : tagsOf (L.eraseIdx i) = (tagsOf L).eraseIdx i := by unfold tagsOf; rw [List.eraseIdx_eq_take_drop_succ, List.eraseIdx_eq_take_drop_succ, List.map_append, List.map_take, List.map_drop]
    have hn : (tagsOf (L.eraseIdx i)).Nodup := by rw [et]; exact h.nodup.sublist (List.eraseIdx_sublist _ _)
    have hsub : ∀ x, x ∈ tagsOf (L.eraseIdx i) → x ∈ tagsOf L := fun x hx => by rw [et] at hx; exact (List.eraseIdx_sublist _ _).subset hx
    have hge : ∀ j, (tagsOf (L.eraseIdx i))[j]? = if j < i then (tagsOf L)[j]? else (tagsOf L)[j + 1]? := fun j => by rw [et, List.getElem?_eraseIdx]
    have hem : (⟨#[]⟩ : ByteArray) ∉ tagsOf (L.eraseIdx i) := fun hm => h.empty (hsub _ hm)
    refine ⟨⟨fun x hx => h.cred x ((List.eraseIdx_sublist _ _).subset hx), fun x hx => h.tags x (hsub x hx), hn, ?_, ?_⟩, by have := List.length_eraseIdx_of_lt hi; simp only; omega⟩
    · rcases h.last with hl | ⟨j, hj⟩
      · have h0 : nx = 0 := by rw [h.nx, hl, nxOf_none h.empty]
        have hne : sameS last t = false := by
          rw [sameS_no, hl]; intro e
          exact h.empty (by rw [e]; exact List.mem_of_getElem? hT)
        have e1 : lastOf L i last t = ⟨#[]⟩ := by unfold lastOf; rw [if_neg (by rw [hne]; simp), hl]
        simp only [e1]
        rw [nxOf_none hem, if_neg (by omega), h0]
      · have h0 : nx = j + 1 := by rw [h.nx, nxOf_some h.nodup hj]
        subst h0
        by_cases hij : i = j
        · subst hij
          have e0 : last = t := Option.some.inj (hj.symm.trans hT)
          have e1 : lastOf L i last t = if i = 0 then ⟨#[]⟩ else (L.getD (i - 1) (⟨#[]⟩, 0)).1 := by unfold lastOf; rw [if_pos (sameS_iff.2 e0)]
          simp only [e1]
          rw [if_pos (by omega)]
          by_cases hz : i = 0
          · rw [if_pos hz, nxOf_none hem]; omega
          · rw [if_neg hz]
            have e2 : (L.getD (i - 1) (⟨#[]⟩, 0)).1 = L[i - 1].1 := by rw [List.getD_eq_getElem?_getD, List.getElem?_eq_getElem (by omega)]; rfl
            rw [e2, nxOf_some (i := i - 1) hn]
            · omega
            · rw [hge, if_pos (by omega)]; unfold tagsOf; rw [List.getElem?_map, List.getElem?_eq_getElem (by omega)]; rfl
        · have hne : sameS last t = false := by
            rw [sameS_no]; intro e
            have a1 := fT_of h.nodup hj
            have a2 := fT_of h.nodup hT
            rw [e, a2] at a1
            injection a1 with a1; exact hij a1
          have e1 : lastOf L i last t = last := by unfold lastOf; rw [if_neg (by rw [hne]; simp)]
          simp only [e1]
          by_cases hlt : i < j
          · rw [if_pos (by omega), nxOf_some (i := j - 1) hn]
            · omega
            · rw [hge, if_neg (by omega), show j - 1 + 1 = j by omega]; exact hj
          · rw [if_neg (by omega), nxOf_some (i := j) hn]
            rw [hge, if_pos (by omega)]; exact hj
    · rcases h.last with hl | ⟨j, hj⟩
      · left
        have hne : sameS last t = false := by
          rw [sameS_no, hl]; intro e
          exact h.empty (by rw [e]; exact List.mem_of_getElem? hT)
        simp only [lastOf, hne, Bool.false_eq_true, if_false]; exact hl
      · by_cases hs : sameS last t = true
        · simp only [lastOf, if_pos hs]
          by_cases hz : i = 0
          · left; rw [if_pos hz]
          · right
            refine ⟨i - 1, ?_⟩
            rw [if_neg hz, hge, if_pos (by omega), List.getD_eq_getElem?_getD, List.getElem?_eq_getElem (l := L) (by omega)]
            unfold tagsOf; rw [List.getElem?_map, List.getElem?_eq_getElem (l := L) (by omega)]; rfl
        · right
          simp only [lastOf, if_neg hs]
          have hij : i ≠ j := fun e => by subst e; exact hs (sameS_iff.2 (Option.some.inj (hj.symm.trans hT)))
          by_cases hlt : i < j
          · exact ⟨j - 1, by rw [hge, if_neg (by omega), show j - 1 + 1 = j by omega]; exact hj⟩
          · exact ⟨j, by rw [hge, if_pos (by omega)]; exact hj⟩

theorem turnN_lt {L : List Sub} {nx i : Nat} {may : List ByteArray} (hn : nx ≤ L.length) (h : turnN L nx may = some i) : ∃ hi : i < L.length, serv may L[i] = true := by
  unfold turnN at h
  have h1 := List.find?_some h
  have h2 := List.mem_of_find?_eq_some h
  obtain ⟨j, hj, rfl⟩ := List.getElem_of_mem h2
  have := ordN_lt hn j hj
  exact ⟨this, by simpa [List.getElem?_eq_getElem this] using h1⟩
theorem COk.turn {L : List Sub} {nx : Nat} {last : ByteArray} {may : List ByteArray} (h : COk L nx last) : COk (turnL L nx may) (turnNx L nx may) (turnLast L nx may last) ∧ (turnL L nx may).length ≤ L.length + 1 := by
  unfold turnL turnNx turnLast
  cases hf : turnN L nx may with
  | none => exact ⟨h, Nat.le_succ _⟩
  | some i =>
    obtain ⟨hi, hs⟩ := turnN_lt h.nx_le hf
    have hc := h.cred _ (List.getElem_mem hi)
    have hpos : 0 < L[i].2 := by unfold serv at hs; simp at hs; exact hs.1
    have hm : COk (L.modify i (fun x => (x.1, spent x.2))) nx last := h.mod (fun c hc' => by
      rw [List.getElem?_eq_getElem hi] at hc'
      simp at hc'; subst hc'
      unfold spent; split <;> omega)
    have e2 : (L.getD i (⟨#[]⟩, 0)).1 = L[i].1 := by rw [List.getD_eq_getElem?_getD, List.getElem?_eq_getElem hi]; rfl
    have hTi : (tagsOf (L.modify i (fun x => (x.1, spent x.2))))[i]? = some L[i].1 := by rw [tags_modify]; unfold tagsOf; rw [List.getElem?_map, List.getElem?_eq_getElem hi]; rfl
    refine ⟨⟨hm.cred, hm.tags, hm.nodup, ?_, ?_⟩, by simp⟩
    · simp only [e2]; rw [nxOf_some hm.nodup hTi]
    · simp only [e2]; exact .inr ⟨i, hTi⟩
end Go.Proofs.Ytelebabegbkdnaa
