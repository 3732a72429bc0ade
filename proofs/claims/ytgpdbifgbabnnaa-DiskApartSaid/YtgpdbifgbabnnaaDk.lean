/- Chapter 10 in plain lists: files by rising names, what each call of a disk tells and leaves. Conditions: none. -/
import Derived.Test.YtgpdbifgbabnnaaOwn

namespace Go.Proofs.Ytgpdbifgbabnnaa
open Go.RowKit
set_option linter.unusedVariables false
set_option linter.unusedSimpArgs false

/-- A file: its name, its bytes, how many are safe. -/
structure Fl where
  n : ByteArray
  b : ByteArray
  s : Int
/-- A disk. -/
structure DS where
  L : List Fl
  room : Int
  left : Int
  off : Bool

abbrev ltN (a b : ByteArray) : Prop := a.toList < b.toList
abbrev Rises (L : List Fl) : Prop := L.Pairwise (fun f g => ltN f.n g.n)
def getF (L : List Fl) (x : ByteArray) : Option Fl := L.find? (fun f => f.n.toList == x.toList)
def usedF (L : List Fl) : Int := (L.map (fun f => (f.b.size : Int))).sum
def setF : List Fl → Fl → List Fl
  | [], f => [f]
  | g :: L, f => if g.n.toList = f.n.toList then f :: L else if ltN g.n f.n then g :: setF L f else f :: g :: L
def delF (L : List Fl) (x : ByteArray) : List Fl := L.filter (fun f => !(f.n.toList == x.toList))
def okB (c : UInt8) : Prop := 33 ≤ c.toNat ∧ c.toNat ≤ 126
instance (c : UInt8) : Decidable (okB c) := by unfold okB; infer_instance
def MayN (x : ByteArray) : Prop := 1 ≤ x.size ∧ x.size ≤ 40 ∧ ∀ c ∈ x.toList, okB c
instance (x : ByteArray) : Decidable (MayN x) := by unfold MayN; infer_instance

theorem ltN_irrefl (a : ByteArray) : ¬ ltN a a := fun h => List.lt_irrefl _ h
theorem ltN_ne {a b : ByteArray} (h : ltN a b) : a.toList ≠ b.toList := fun e => by unfold ltN at h; rw [e] at h; exact List.lt_irrefl _ h
theorem ltN_trans {a b c : ByteArray} (h : ltN a b) (k : ltN b c) : ltN a c := List.lt_trans h k
theorem ltN_of {a b : ByteArray} (h1 : a.toList ≠ b.toList) (h2 : ¬ ltN a b) : ltN b a := by
  have h3 : b.toList ≤ a.toList := h2
  rcases Classical.em (ltN b a) with h | h
  · exact h
  · exact absurd (List.le_antisymm (h : a.toList ≤ b.toList) h3) h1

theorem getF_nil (x : ByteArray) : getF [] x = none := rfl
theorem getF_cons (f : Fl) (L : List Fl) (x : ByteArray) : getF (f :: L) x = if f.n.toList = x.toList then some f else getF L x := by
  unfold getF
  rw [List.find?_cons]
  by_cases h : f.n.toList = x.toList
  · rw [if_pos h, h, beq_self_eq_true]
  · rw [if_neg h, beq_eq_false_iff_ne.2 h]
theorem getF_some {L : List Fl} {x : ByteArray} {f : Fl} (h : getF L x = some f) : f ∈ L ∧ f.n = x := by
  unfold getF at h
  refine ⟨List.mem_of_find?_eq_some h, ?_⟩
  have := List.find?_some h
  exact toList_inj (by simpa using this)
theorem getF_none {L : List Fl} {x : ByteArray} : getF L x = none ↔ ∀ f ∈ L, f.n ≠ x := by
  unfold getF
  rw [List.find?_eq_none]
  constructor
  · intro h f hf e; exact h f hf (by rw [e]; simp)
  · intro h f hf e; exact h f hf (toList_inj (by simpa using e))
theorem getF_yes : ∀ {L : List Fl} {f : Fl}, Rises L → f ∈ L → getF L f.n = some f
  | g :: L, f, hr, hf => by
    rw [getF_cons]
    rcases List.mem_cons.1 hf with rfl | hf
    · rw [if_pos rfl]
    · have := ltN_ne ((List.pairwise_cons.1 hr).1 f hf)
      rw [if_neg this]
      exact getF_yes (List.pairwise_cons.1 hr).2 hf
theorem getF_at {L : List Fl} {i : Nat} (hr : Rises L) (hi : i < L.length) : getF L L[i].n = some L[i] := getF_yes hr (List.getElem_mem hi)
theorem getF_all {L : List Fl} {x : ByteArray} (h : ∀ f ∈ L, ltN x f.n) : getF L x = none := getF_none.2 fun f hf e => by have := h f hf; rw [e] at this; exact ltN_irrefl _ this

theorem mem_setF : ∀ {L : List Fl} {f g : Fl}, g ∈ setF L f → g = f ∨ g ∈ L
  | [], f, g, h => by simpa [setF] using h
  | k :: L, f, g, h => by
    unfold setF at h
    split at h
    · rcases List.mem_cons.1 h with rfl | h
      · exact .inl rfl
      · exact .inr (List.mem_cons_of_mem _ h)
    · split at h
      · rcases List.mem_cons.1 h with rfl | h
        · exact .inr (List.mem_cons_self ..)
        · rcases mem_setF h with h | h
          · exact .inl h
          · exact .inr (List.mem_cons_of_mem _ h)
      · rcases List.mem_cons.1 h with rfl | h
        · exact .inl rfl
        · exact .inr h
theorem setF_rises : ∀ {L : List Fl} {f : Fl}, Rises L → Rises (setF L f)
  | [], f, _ => by simp [setF]
  | g :: L, f, h => by
    obtain ⟨h1, h2⟩ := List.pairwise_cons.1 h
    unfold setF
    split
    · rename_i e
      refine List.pairwise_cons.2 ⟨fun k hk => ?_, h2⟩
      have := h1 k hk; unfold ltN at *; rw [← e]; exact this
    · rename_i e
      split
      · rename_i hl
        refine List.pairwise_cons.2 ⟨fun k hk => ?_, setF_rises h2⟩
        rcases mem_setF hk with rfl | hk
        · exact hl
        · exact h1 k hk
      · rename_i hl
        have hg := ltN_of e hl
        refine List.pairwise_cons.2 ⟨fun k hk => ?_, h⟩
        rcases List.mem_cons.1 hk with rfl | hk
        · exact hg
        · exact ltN_trans hg (h1 k hk)
theorem getF_setF : ∀ {L : List Fl} {f : Fl} (x : ByteArray), Rises L → getF (setF L f) x = if f.n.toList = x.toList then some f else getF L x
  | [], f, x, _ => by simp [setF, getF_cons, getF_nil]
  | g :: L, f, x, h => by
    obtain ⟨h1, h2⟩ := List.pairwise_cons.1 h
    unfold setF
    split
    · rename_i e
      rw [getF_cons, getF_cons, e]
      by_cases q : f.n.toList = x.toList <;> simp [q]
    · rename_i e
      split
      · rw [getF_cons, getF_cons, getF_setF x h2]
        by_cases q : g.n.toList = x.toList
        · have : ¬ f.n.toList = x.toList := fun k => e (q.trans k.symm)
          rw [if_pos q, if_neg this, if_pos q]
        · rw [if_neg q, if_neg q]
      · rw [getF_cons]
theorem length_setF : ∀ (L : List Fl) (f : Fl), (setF L f).length ≤ L.length + 1
  | [], f => by simp [setF]
  | g :: L, f => by
    unfold setF
    have := length_setF L f
    split
    · simp
    · split <;> simp <;> omega
theorem length_setF_old : ∀ {L : List Fl} {f g : Fl}, Rises L → getF L f.n = some g → (setF L f).length = L.length
  | [], f, g, _, h => by cases h
  | k :: L, f, g, hr, h => by
    obtain ⟨h1, h2⟩ := List.pairwise_cons.1 hr
    rw [getF_cons] at h
    unfold setF
    split
    · simp
    · rename_i e
      rw [if_neg e] at h
      obtain ⟨hm, hn⟩ := getF_some h
      have hl : ltN k.n f.n := by rw [← hn]; exact h1 g hm
      rw [if_pos hl]
      simp [length_setF_old h2 h]
theorem length_setF_new : ∀ {L : List Fl} {f : Fl}, getF L f.n = none → (setF L f).length = L.length + 1
  | [], f, _ => by simp [setF]
  | k :: L, f, h => by
    rw [getF_cons] at h
    have e : ¬ k.n.toList = f.n.toList := fun e => by rw [if_pos e] at h; cases h
    rw [if_neg e] at h
    unfold setF
    rw [if_neg e]
    split
    · simp [length_setF_new h]
    · simp
def szF (L : List Fl) (x : ByteArray) : Int := ((getF L x).map (fun f => (f.b.size : Int))).getD 0
theorem usedF_nil : usedF [] = 0 := rfl
theorem usedF_cons (f : Fl) (L : List Fl) : usedF (f :: L) = f.b.size + usedF L := rfl
theorem usedF_nonneg : ∀ L : List Fl, 0 ≤ usedF L
  | [] => by simp [usedF_nil]
  | f :: L => by rw [usedF_cons]; have := usedF_nonneg L; omega
theorem usedF_mem : ∀ {L : List Fl} {f : Fl}, f ∈ L → (f.b.size : Int) ≤ usedF L
  | g :: L, f, h => by
    rw [usedF_cons]
    rcases List.mem_cons.1 h with rfl | h
    · have := usedF_nonneg L; omega
    · have := usedF_mem h; omega
theorem szF_le (L : List Fl) (x : ByteArray) : szF L x ≤ usedF L := by
  unfold szF
  cases h : getF L x with
  | none => simp [usedF_nonneg]
  | some f => exact usedF_mem (getF_some h).1
theorem usedF_setF : ∀ {L : List Fl} {f : Fl}, Rises L → usedF (setF L f) = usedF L - szF L f.n + f.b.size
  | [], f, _ => by simp [setF, usedF_cons, usedF_nil, szF, getF_nil]
  | g :: L, f, h => by
    obtain ⟨h1, h2⟩ := List.pairwise_cons.1 h
    have ih := usedF_setF (f := f) h2
    unfold szF at *
    rw [getF_cons]
    unfold setF
    split
    · simp only [usedF_cons, Option.map_some, Option.getD_some]; omega
    · rename_i e
      split
      · simp only [usedF_cons, ih]; omega
      · rename_i hl
        have hg := ltN_of e hl
        have : getF L f.n = none := getF_all fun k hk => ltN_trans hg (h1 k hk)
        simp only [usedF_cons, this, Option.map_none, Option.getD_none]; omega
theorem mem_delF {L : List Fl} {x : ByteArray} {g : Fl} : g ∈ delF L x ↔ g ∈ L ∧ g.n ≠ x := by
  unfold delF
  rw [List.mem_filter]
  refine and_congr_right fun _ => ?_
  simp only [Bool.not_eq_true', beq_eq_false_iff_ne, ne_eq]
  exact ⟨fun h e => h (by rw [e]), fun h e => h (toList_inj e)⟩
theorem delF_rises {L : List Fl} {x : ByteArray} (h : Rises L) : Rises (delF L x) := h.filter _
theorem delF_cons (f : Fl) (L : List Fl) (x : ByteArray) : delF (f :: L) x = if f.n.toList = x.toList then delF L x else f :: delF L x := by
  unfold delF
  rw [List.filter_cons]
  by_cases h : f.n.toList = x.toList
  · rw [if_pos h, h]; simp
  · rw [if_neg h]; simp [h]
theorem getF_delF : ∀ (L : List Fl) (x y : ByteArray), getF (delF L x) y = if x.toList = y.toList then none else getF L y
  | [], x, y => by simp [delF, getF_nil]
  | f :: L, x, y => by
    rw [delF_cons, getF_cons]
    have ih := getF_delF L x y
    split
    · rename_i e
      rw [ih, e]
      by_cases q : x.toList = y.toList <;> simp [q]
    · rename_i e
      rw [getF_cons, ih]
      by_cases q : f.n.toList = y.toList
      · have : ¬ x.toList = y.toList := fun k => e (q.trans k.symm)
        rw [if_pos q, if_neg this, if_pos q]
      · rw [if_neg q, if_neg q]
theorem delF_none : ∀ {L : List Fl} {x : ByteArray}, getF L x = none → delF L x = L
  | [], x, _ => rfl
  | f :: L, x, h => by
    rw [getF_cons] at h
    have e : ¬ f.n.toList = x.toList := fun e => by rw [if_pos e] at h; cases h
    rw [if_neg e] at h
    rw [delF_cons, if_neg e, delF_none h]
theorem length_delF : ∀ {L : List Fl} {x : ByteArray} {g : Fl}, Rises L → getF L x = some g → (delF L x).length + 1 = L.length
  | f :: L, x, g, hr, h => by
    obtain ⟨h1, h2⟩ := List.pairwise_cons.1 hr
    rw [getF_cons] at h
    rw [delF_cons]
    split
    · rename_i e
      have e' : f.n = x := toList_inj e
      rw [delF_none (getF_all fun k hk => by rw [← e']; exact h1 k hk)]; simp
    · rename_i e
      rw [if_neg e] at h
      simp [length_delF h2 h]
theorem usedF_delF : ∀ {L : List Fl} {x : ByteArray}, Rises L → usedF (delF L x) = usedF L - szF L x
  | [], x, _ => by simp [delF, usedF_nil, szF, getF_nil]
  | f :: L, x, hr => by
    obtain ⟨h1, h2⟩ := List.pairwise_cons.1 hr
    have ih := usedF_delF (x := x) h2
    unfold szF at *
    rw [getF_cons, delF_cons]
    split
    · rename_i e
      have e' : f.n = x := toList_inj e
      rw [delF_none (getF_all fun k hk => by rw [← e']; exact h1 k hk)]
      simp only [usedF_cons, Option.map_some, Option.getD_some]; omega
    · simp only [usedF_cons, ih]; omega

/-! ### the document's way: a file's place -/
/-- The row with a file put at its place. -/
theorem setF_at : ∀ {L : List Fl} {f : Fl} {i : Nat} (hr : Rises L) (hi : i < L.length), L[i].n = f.n → setF L f = L.set i f
  | g :: L, f, 0, hr, hi, h => by
    have h : g.n = f.n := h
    unfold setF
    rw [if_pos (by rw [h])]; rfl
  | g :: L, f, i + 1, hr, hi, h => by
    obtain ⟨h1, h2⟩ := List.pairwise_cons.1 hr
    have hi' : i < L.length := by simpa using hi
    have h : L[i].n = f.n := h
    have hl : ltN g.n f.n := by rw [← h]; exact h1 _ (List.getElem_mem hi')
    unfold setF
    rw [if_neg (ltN_ne hl), if_pos hl, setF_at h2 hi' h]; rfl
theorem setF_put : ∀ {L : List Fl} {f : Fl} {k : Nat} (hk : k ≤ L.length), (∀ j, ∀ h : j < k, ltN (L[j]'(by omega)).n f.n) → (∀ h : k < L.length, ¬ ltN L[k].n f.n) → getF L f.n = none → setF L f = L.take k ++ [f] ++ L.drop k
  | [], f, k, hk, _, _, _ => by simp [setF]
  | g :: L, f, 0, hk, _, h2, h3 => by
    have hl : ¬ ltN g.n f.n := h2 (by simp)
    rw [getF_cons] at h3
    have e : ¬ g.n.toList = f.n.toList := fun e => by rw [if_pos e] at h3; cases h3
    unfold setF
    rw [if_neg e, if_neg hl]; rfl
  | g :: L, f, k + 1, hk, h1, h2, h3 => by
    have hl : ltN g.n f.n := h1 0 (by omega)
    rw [getF_cons] at h3
    have e : ¬ g.n.toList = f.n.toList := ltN_ne hl
    rw [if_neg e] at h3
    unfold setF
    rw [if_neg e, if_pos hl, setF_put (k := k) (by simpa using hk) (fun j h => h1 (j + 1) (by omega)) (fun h => h2 (by simpa using h)) h3]
    simp
theorem delF_at : ∀ {L : List Fl} {x : ByteArray} {i : Nat} (hr : Rises L) (hi : i < L.length), L[i].n = x → delF L x = L.take i ++ L.drop (i + 1)
  | g :: L, x, 0, hr, hi, h => by
    obtain ⟨h1, h2⟩ := List.pairwise_cons.1 hr
    have h : g.n = x := h
    rw [delF_cons, if_pos (by rw [h]), delF_none (getF_all fun k hk => by rw [← h]; exact h1 k hk)]; rfl
  | g :: L, x, i + 1, hr, hi, h => by
    obtain ⟨h1, h2⟩ := List.pairwise_cons.1 hr
    have hi' : i < L.length := by simpa using hi
    have h : L[i].n = x := h
    have hl : ltN g.n x := by rw [← h]; exact h1 _ (List.getElem_mem hi')
    rw [delF_cons, if_neg (ltN_ne hl), delF_at h2 hi' h]; rfl

/-! ### the calls -/
def burnE (s : DS) (L : List Fl) (though : Bool) : DS × Int :=
  if s.left = 1 then ({ s with L := if though then L else s.L, left := 0, off := true }, 100)
  else ({ s with L := L, left := if 0 < s.left then s.left - 1 else s.left }, 0)
def oldB (L : List Fl) (x : ByteArray) : ByteArray := ((getF L x).map Fl.b).getD ByteArray.empty
def oldS (L : List Fl) (x : ByteArray) : Int := ((getF L x).map Fl.s).getD 0
def apD (s : DS) (x b : ByteArray) : DS × Int :=
  if s.off then (s, 100) else if ¬ MayN x then (s, 2) else if 1048576 - szF s.L x < b.size then (s, 3) else if s.room - usedF s.L < b.size then (s, 6)
  else burnE s (setF s.L ⟨x, oldB s.L x ++ b, oldS s.L x⟩) true
def syD (s : DS) (x : ByteArray) : DS × Int :=
  if s.off then (s, 100) else match getF s.L x with
  | none => (s, 7)
  | some f => burnE s (setF s.L ⟨x, f.b, f.b.size⟩) false
def cutB (b : ByteArray) (n : Int) : ByteArray := b.extract 0 n.toNat
def minI (a b : Int) : Int := if a ≤ b then a else b
def maxI (a b : Int) : Int := if a ≤ b then b else a
def cuD (s : DS) (x : ByteArray) (n : Int) : DS × Int :=
  if s.off then (s, 100) else if n < 0 then (s, 2) else match getF s.L x with
  | none => (s, 7)
  | some f => if (f.b.size : Int) < n then (s, 2) else burnE s (setF s.L ⟨x, cutB f.b n, minI f.s n⟩) false
def reD (s : DS) (x y : ByteArray) : DS × Int :=
  if s.off then (s, 100) else if ¬ MayN x ∨ ¬ MayN y then (s, 2) else match getF s.L x with
  | none => (s, 7)
  | some f => burnE s (setF (delF s.L x) ⟨y, f.b, f.s⟩) false
def rmD (s : DS) (x : ByteArray) : DS × Int :=
  if s.off then (s, 100) else match getF s.L x with
  | none => (s, 7)
  | some f => burnE s (delF s.L x) false
def rdD (s : DS) (x : ByteArray) : ByteArray × Int × Int :=
  if s.off then (ByteArray.empty, 0, 100) else match getF s.L x with
  | none => (ByteArray.empty, 0, 7)
  | some f => (f.b, f.s, 0)
def fuD (s : DS) (n : Int) : DS := if s.off then s else { s with left := maxI n 0 }
def crD (s : DS) : DS := { s with off := true, left := 0 }
def keepF (f : Fl) (k : Option Int) : Fl :=
  let n := f.s + (match k with | some v => minI (maxI v 0) (f.b.size - f.s) | none => 0)
  ⟨f.n, cutB f.b n, n⟩
def keepL : List Fl → List Int → List Fl
  | [], _ => []
  | f :: L, [] => keepF f none :: keepL L []
  | f :: L, k :: K => keepF f (some k) :: keepL L K
def waD (s : DS) (K : List Int) : DS := if s.off then { s with off := false, L := keepL s.L K } else s

/-- What is right of a disk. -/
structure DOk (s : DS) : Prop where
  rise : Rises s.L
  file : ∀ f ∈ s.L, MayN f.n ∧ 0 ≤ f.s ∧ f.s ≤ f.b.size ∧ f.b.size ≤ 1048576
  room : usedF s.L ≤ s.room ∧ s.room < 9223372036854775808
  left : 0 ≤ s.left ∧ s.left < 9223372036854775808
theorem DOk.new {n : Int} (h0 : 0 ≤ n) (h : n < 9223372036854775808) : DOk ⟨[], n, 0, false⟩ :=
  ⟨List.Pairwise.nil, fun f hf => by simp at hf, by simp [usedF_nil]; omega, by simp⟩

end Go.Proofs.Ytgpdbifgbabnnaa
