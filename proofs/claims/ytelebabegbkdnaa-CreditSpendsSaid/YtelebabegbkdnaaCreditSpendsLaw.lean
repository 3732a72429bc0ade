/- Plain facts for the law CreditSpends: credits of at most nine, served by turns. Conditions: at most ten names. -/
import Derived.Test.YtelebabegbkdnaaCreditFairLaw
namespace Go.Proofs.Ytelebabegbkdnaa
open Go.RowKit

/-- Names with these credits. -/
def crs (rem : List Int) : List Sub := (List.range rem.length).map fun i => (tg i, rem.getD i 0)
theorem crs_len (rem : List Int) : (crs rem).length = rem.length := by simp [crs]
theorem crs_get (rem : List Int) (i : Nat) (h : i < (crs rem).length) : (crs rem)[i] = (tg i, rem.getD i 0) := by simp [crs]
theorem crs_snoc (rem : List Int) (c : Int) : crs (rem ++ [c]) = crs rem ++ [(tg rem.length, c)] := by
  unfold crs
  rw [List.length_append, List.length_singleton, List.range_succ, List.map_append]
  congr 1
  · apply List.map_congr_left
    intro i hi
    simp at hi
    simp [List.getD_eq_getElem?_getD, List.getElem?_append_left hi]
  · simp [List.getD_eq_getElem?_getD]
theorem crs_set (rem : List Int) (i : Nat) (c : Int) (h : i < rem.length) : (crs rem).set i (tg i, c) = crs (rem.set i c) := by
  apply List.ext_getElem
  · simp [crs]
  · intro j h1 h2
    simp only [List.getElem_set]
    rw [crs_get]
    simp only [List.length_set, crs_len] at h1
    split
    · rename_i heq
      subst heq
      have : (rem.set i c).getD i 0 = c := by rw [List.getD_eq_getElem?_getD, List.getElem?_set_self h]; rfl
      rw [crs_get, this]
    · rename_i hne
      rw [crs_get]
      have : (rem.set i c).getD j 0 = rem.getD j 0 := by rw [List.getD_eq_getElem?_getD, List.getD_eq_getElem?_getD, List.getElem?_set_ne hne]
      rw [this]

theorem find_crs {rem : List Int} (h : rem.length < 10) (c : Int) : findS (crs rem) (tg rem.length) = none ∧ findS (crs rem ++ [(tg rem.length, c)]) (tg rem.length) = some rem.length := by
  have hno : ∀ p ∈ crs rem, sameS p.1 (tg rem.length) = false := by
    intro p hp
    simp only [crs, List.mem_map, List.mem_range] at hp
    obtain ⟨i, hi, rfl⟩ := hp
    rw [tg_same i (by omega) _ h]
    simp; omega
  have h1 : findS (crs rem) (tg rem.length) = none := by
    unfold findS; rw [List.findIdx?_eq_none_iff]; exact hno
  refine ⟨h1, ?_⟩
  unfold findS at *
  rw [List.findIdx?_append, h1]
  have : sameS (tg rem.length) (tg rem.length) = true := by rw [tg_same _ h _ h]; simp
  simp [List.findIdx?_cons, this, crs_len]

theorem serv_crs {n : Nat} (hn : n ≤ 10) {i : Nat} (hi : i < n) (c : Int) : serv (mays n) (tg i, c) = decide (0 < c) := by
  unfold serv
  have : (mays n).any (fun x => sameS (tg i) x) = true := by
    rw [List.any_eq_true]
    refine ⟨tg i, ?_, by rw [tg_same _ (by omega) _ (by omega)]; simp⟩
    simp only [mays, List.mem_map, List.mem_range]; exact ⟨i, hi, rfl⟩
  simp [this]

theorem turn_crs_some {rem : List Int} {nx : Nat} (h : rem.length ≤ 10) {i : Nat} (hi : i < rem.length) (hp : 0 < rem.getD i 0) :
    ∃ j : Fin (crs rem).length, turnOf (crs rem) nx (mays rem.length) = some j ∧ 0 < rem.getD j.1 0 := by
  have hsv : ∀ j : Fin (crs rem).length, serv (mays rem.length) (crs rem)[j] = decide (0 < rem.getD j.1 0) := by
    intro j
    have hj : j.1 < rem.length := by have := j.2; simpa [crs_len] using this
    show serv _ ((crs rem)[j.1]) = _
    rw [crs_get, serv_crs h hj]
  have hex : (turnOf (crs rem) nx (mays rem.length)).isSome = true := by
    unfold turnOf
    rw [List.find?_isSome]
    exact ⟨⟨i, by rw [crs_len]; exact hi⟩, mem_places _, by rw [hsv]; simpa using hp⟩
  obtain ⟨j, hj⟩ := Option.isSome_iff_exists.1 hex
  refine ⟨j, hj, ?_⟩
  have := List.find?_some hj
  rw [hsv] at this
  simpa using this

theorem turn_crs_none {rem : List Int} {nx : Nat} (h : rem.length ≤ 10) (hz : ∀ i, i < rem.length → rem.getD i 0 ≤ 0) : turnOf (crs rem) nx (mays rem.length) = none := by
  apply turnOf_none
  intro j
  have hj : j.1 < rem.length := by have := j.2; simpa [crs_len] using this
  show serv _ ((crs rem)[j.1]) = _
  rw [crs_get, serv_crs h hj]
  have := hz j.1 hj
  rw [decide_eq_false_iff_not]; omega

theorem crs_ok {rem : List Int} (h : ∀ c ∈ rem, 0 ≤ c ∧ c ≤ 9) : ∀ p ∈ crs rem, 0 ≤ p.2 ∧ p.2 ≤ 4294967295 := by
  intro p hp
  simp only [crs, List.mem_map, List.mem_range] at hp
  obtain ⟨i, hi, rfl⟩ := hp
  have := h _ (List.getElem_mem hi)
  simp only [List.getD_eq_getElem?_getD, List.getElem?_eq_getElem hi, Option.getD_some]
  omega

theorem tg_byte : ∀ i, i < 10 → (tg i).toList = [UInt8.ofNat (97 + i)] ∧ (UInt8.ofNat (97 + i)).toNat = 97 + i := by decide +kernel
theorem tg_one {i : Nat} (h : i < 10) : ∃ b : UInt8, tg i = ⟨#[b]⟩ ∧ (b.toNat : Int) = 97 + i := by
  obtain ⟨h1, h2⟩ := tg_byte i h
  refine ⟨UInt8.ofNat (97 + i), toList_inj ?_, by omega⟩
  rw [h1, ByteArray.toList_eq]

/-- What was served. -/
def srv (cs rem : List Int) : List Int := (List.range cs.length).map fun i => cs.getD i 0 - rem.getD i 0
theorem srv_len (cs rem : List Int) : (srv cs rem).length = cs.length := by simp [srv]
theorem srv_get (cs rem : List Int) (i : Nat) (h : i < (srv cs rem).length) : (srv cs rem)[i] = cs.getD i 0 - rem.getD i 0 := by simp [srv]
theorem srv_self (cs : List Int) : srv cs cs = List.replicate cs.length 0 := by
  apply List.ext_getElem
  · simp [srv]
  · intro i h1 h2
    rw [srv_get]; simp
theorem getD_set_self {l : List Int} {i : Nat} (h : i < l.length) (c : Int) : (l.set i c).getD i 0 = c := by rw [List.getD_eq_getElem?_getD, List.getElem?_set_self h]; rfl
theorem getD_set_other {l : List Int} {i j : Nat} (h : i ≠ j) (c : Int) : (l.set i c).getD j 0 = l.getD j 0 := by rw [List.getD_eq_getElem?_getD, List.getElem?_set_ne h, ← List.getD_eq_getElem?_getD]
theorem srv_set (cs rem : List Int) (i : Nat) (h : i < cs.length) (hr : rem.length = cs.length) : (srv cs rem).set i (cs.getD i 0 - rem.getD i 0 + 1) = srv cs (rem.set i (rem.getD i 0 - 1)) := by
  apply List.ext_getElem
  · simp [srv]
  · intro j h1 h2
    rw [List.getElem_set, srv_get]
    split
    · rename_i e; subst e
      rw [srv_get, getD_set_self (by omega)]; omega
    · rename_i e
      rw [srv_get, getD_set_other e]
/-- A sum. -/
def sumI (l : List Int) : Int := l.foldr (· + ·) 0
theorem sumI_append (a b : List Int) : sumI (a ++ b) = sumI a + sumI b := by
  induction a with
  | nil => simp [sumI]
  | cons x a ih => simp only [sumI, List.cons_append, List.foldr_cons] at *; omega
theorem sumI_pos {l : List Int} (h : ∀ c ∈ l, 0 ≤ c) (hp : 0 < sumI l) : ∃ i, i < l.length ∧ 0 < l.getD i 0 := by
  induction l with
  | nil => simp [sumI] at hp
  | cons x l ih =>
    by_cases hx : 0 < x
    · exact ⟨0, by simp, by simpa using hx⟩
    · have h0 := h x (by simp)
      have : sumI (x :: l) = x + sumI l := rfl
      obtain ⟨i, hi, hi'⟩ := ih (fun c hc => h c (by simp [hc])) (by omega)
      exact ⟨i + 1, by simpa using hi, by simpa using hi'⟩
theorem sumI_nonneg {l : List Int} (h : ∀ c ∈ l, 0 ≤ c) : 0 ≤ sumI l := by
  induction l with
  | nil => simp [sumI]
  | cons x l ih =>
    have h0 := h x (by simp)
    have := ih (fun c hc => h c (by simp [hc]))
    show 0 ≤ x + sumI l
    omega
theorem sumI_le {l : List Int} {m : Int} (h : ∀ c ∈ l, c ≤ m) : sumI l ≤ l.length * m := by
  induction l with
  | nil => simp [sumI]
  | cons x l ih =>
    have h0 := h x (by simp)
    have := ih (fun c hc => h c (by simp [hc]))
    show x + sumI l ≤ _
    simp only [List.length_cons, Int.natCast_add, Int.add_mul]
    omega
theorem sumI_set {l : List Int} {i : Nat} (h : i < l.length) (c : Int) : sumI (l.set i c) = sumI l - l.getD i 0 + c := by
  induction l generalizing i with
  | nil => simp at h
  | cons x l ih =>
    cases i with
    | zero => show c + sumI l = x + sumI l - x + c; omega
    | succ i =>
      have := ih (i := i) (by simpa using h)
      show x + sumI (l.set i c) = x + sumI l - l.getD i 0 + c
      omega
theorem sumI_zero {l : List Int} (h : ∀ c ∈ l, 0 ≤ c) (hs : sumI l = 0) : ∀ i, i < l.length → l.getD i 0 = 0 := by
  induction l with
  | nil => simp
  | cons x l ih =>
    have h0 := h x (by simp)
    have h1 := sumI_nonneg (l := l) (fun c hc => h c (by simp [hc]))
    have hx : x + sumI l = 0 := hs
    intro i hi
    cases i with
    | zero => show x = 0; omega
    | succ i => exact ih (fun c hc => h c (by simp [hc])) (by omega) i (by simpa using hi)

end Go.Proofs.Ytelebabegbkdnaa
