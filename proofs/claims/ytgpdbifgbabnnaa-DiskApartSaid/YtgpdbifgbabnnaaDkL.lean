/- Chapter 10 in plain lists, second part: what the calls leave is right. Conditions: none. -/
import Derived.Test.YtgpdbifgbabnnaaDk
namespace Go.Proofs.Ytgpdbifgbabnnaa
open Go.RowKit
set_option linter.unusedVariables false
set_option linter.unusedSimpArgs false

def FOk (f : Fl) : Prop := MayN f.n ∧ 0 ≤ f.s ∧ f.s ≤ f.b.size ∧ f.b.size ≤ 1048576
theorem burn_ok {s : DS} {L : List Fl} {though : Bool} (hs : DOk s) (hr : Rises L) (hf : ∀ f ∈ L, FOk f) (hu : usedF L ≤ s.room) : DOk (burnE s L though).1 := by
  unfold burnE
  split
  · cases though
    · exact ⟨hs.rise, hs.file, hs.room, by simp⟩
    · exact ⟨hr, hf, ⟨hu, hs.room.2⟩, by simp⟩
  · refine ⟨hr, hf, ⟨hu, hs.room.2⟩, ?_⟩
    have := hs.left
    show 0 ≤ (if 0 < s.left then s.left - 1 else s.left) ∧ (if 0 < s.left then s.left - 1 else s.left) < 9223372036854775808
    split <;> omega
theorem burn_len {s : DS} {L : List Fl} {though : Bool} {k : Nat} (h1 : s.L.length ≤ k) (h2 : L.length ≤ k) : (burnE s L though).1.L.length ≤ k := by
  unfold burnE
  split
  · cases though
    · exact h1
    · exact h2
  · exact h2
theorem set_file {L : List Fl} {f : Fl} (h : ∀ g ∈ L, FOk g) (hf : FOk f) : ∀ g ∈ setF L f, FOk g := fun g hg => by
  rcases mem_setF hg with rfl | hg
  · exact hf
  · exact h g hg
theorem cutB_size {b : ByteArray} {n : Int} (h0 : 0 ≤ n) (h : n ≤ b.size) : ((cutB b n).size : Int) = n := by
  unfold cutB
  rw [ByteArray.size_extract]
  omega
theorem minI_le (a b : Int) : minI a b ≤ a ∧ minI a b ≤ b ∧ (minI a b = a ∨ minI a b = b) := by unfold minI; split <;> omega
theorem maxI_ge (a b : Int) : a ≤ maxI a b ∧ b ≤ maxI a b ∧ (maxI a b = a ∨ maxI a b = b) := by unfold maxI; split <;> omega
theorem szF_nonneg (L : List Fl) (x : ByteArray) : 0 ≤ szF L x := by
  unfold szF
  cases getF L x <;> simp
theorem szF_old {L : List Fl} (x : ByteArray) : ((oldB L x).size : Int) = szF L x := by
  unfold oldB szF
  cases getF L x <;> simp
theorem oldS_le {L : List Fl} (h : ∀ f ∈ L, FOk f) (x : ByteArray) : 0 ≤ oldS L x ∧ oldS L x ≤ (oldB L x).size := by
  unfold oldB oldS
  cases hg : getF L x with
  | none => simp
  | some f => have := h f (getF_some hg).1; exact ⟨this.2.1, this.2.2.1⟩

theorem ap_ok {s : DS} {x b : ByteArray} (hs : DOk s) : DOk (apD s x b).1 := by
  unfold apD
  split
  · exact hs
  · split
    · exact hs
    · rename_i h1
      split
      · exact hs
      · rename_i h2
        split
        · exact hs
        · rename_i h3
          have ho := oldS_le hs.file x
          have hz := szF_old (L := s.L) x
          have e : (oldB s.L x ++ b).size = (oldB s.L x).size + b.size := ByteArray.size_append
          refine burn_ok hs (setF_rises hs.rise) (set_file hs.file ⟨Decidable.not_not.1 h1, ho.1, ?_, ?_⟩) ?_
          · show oldS s.L x ≤ ((oldB s.L x ++ b).size : Int)
            rw [e]; omega
          · show (oldB s.L x ++ b).size ≤ 1048576
            rw [e]; omega
          · rw [usedF_setF hs.rise]
            show usedF s.L - szF s.L x + ((oldB s.L x ++ b).size : Int) ≤ s.room
            rw [e]; omega
theorem ap_len {s : DS} {x b : ByteArray} {k : Nat} (h : s.L.length ≤ k) : (apD s x b).1.L.length ≤ k + 1 := by
  unfold apD
  have := length_setF s.L ⟨x, oldB s.L x ++ b, oldS s.L x⟩
  repeat' split
  all_goals first | (show s.L.length ≤ k + 1; omega) | exact burn_len (by omega) (by omega)
theorem sy_ok {s : DS} {x : ByteArray} (hs : DOk s) : DOk (syD s x).1 := by
  unfold syD
  split
  · exact hs
  · cases hg : getF s.L x with
    | none => exact hs
    | some f =>
      have hm := getF_some hg
      have hf := hs.file f hm.1
      refine burn_ok hs (setF_rises hs.rise) (set_file hs.file ⟨by rw [← hm.2]; exact hf.1, by show (0 : Int) ≤ f.b.size; omega, by simp, hf.2.2.2⟩) ?_
      rw [usedF_setF hs.rise]
      have : szF s.L x = f.b.size := by unfold szF; rw [hg]; rfl
      have := hs.room.1
      show usedF s.L - szF s.L x + (f.b.size : Int) ≤ s.room
      omega
theorem set_len {L : List Fl} {f : Fl} {x : ByteArray} {g : Fl} (hr : Rises L) (hg : getF L x = some g) (e : f.n = x) : (setF L f).length = L.length := length_setF_old hr (by rw [e]; exact hg)
theorem sy_len {s : DS} {x : ByteArray} {k : Nat} (hs : DOk s) (h : s.L.length ≤ k) : (syD s x).1.L.length ≤ k := by
  unfold syD
  split
  · exact h
  · cases hg : getF s.L x with
    | none => exact h
    | some f => exact burn_len h (by rw [set_len hs.rise hg rfl]; exact h)
theorem cu_ok {s : DS} {x : ByteArray} {n : Int} (hs : DOk s) : DOk (cuD s x n).1 := by
  unfold cuD
  split
  · exact hs
  · split
    · exact hs
    · rename_i h0
      cases hg : getF s.L x with
      | none => exact hs
      | some f =>
        show DOk (if (f.b.size : Int) < n then (s, 2) else burnE s (setF s.L ⟨x, cutB f.b n, minI f.s n⟩) false).1
        split
        · exact hs
        · rename_i h1
          have hm := getF_some hg
          have hf := hs.file f hm.1
          have e := cutB_size (b := f.b) (n := n) (by omega) (by omega)
          have hmi := minI_le f.s n
          refine burn_ok hs (setF_rises hs.rise) (set_file hs.file ⟨by rw [← hm.2]; exact hf.1, ?_, ?_, ?_⟩) ?_
          · show 0 ≤ minI f.s n
            have := hf.2.1
            omega
          · show minI f.s n ≤ ((cutB f.b n).size : Int)
            omega
          · show (cutB f.b n).size ≤ 1048576
            have := hf.2.2.2
            omega
          · rw [usedF_setF hs.rise]
            have : szF s.L x = f.b.size := by unfold szF; rw [hg]; rfl
            have := hs.room.1
            show usedF s.L - szF s.L x + ((cutB f.b n).size : Int) ≤ s.room
            omega
theorem cu_len {s : DS} {x : ByteArray} {n : Int} {k : Nat} (hs : DOk s) (h : s.L.length ≤ k) : (cuD s x n).1.L.length ≤ k := by
  unfold cuD
  split
  · exact h
  · split
    · exact h
    · cases hg : getF s.L x with
      | none => exact h
      | some f =>
        show (if (f.b.size : Int) < n then (s, 2) else burnE s (setF s.L ⟨x, cutB f.b n, minI f.s n⟩) false).1.L.length ≤ k
        split
        · exact h
        · exact burn_len h (by rw [set_len hs.rise hg rfl]; exact h)
theorem szF_get {L : List Fl} {x : ByteArray} {f : Fl} (h : getF L x = some f) : szF L x = f.b.size := by unfold szF; rw [h]; rfl
theorem rename_used {L : List Fl} {x y : ByteArray} {f : Fl} (hr : Rises L) (h : getF L x = some f) : usedF (setF (delF L x) ⟨y, f.b, f.s⟩) ≤ usedF L := by
  rw [usedF_setF (delF_rises hr), usedF_delF hr, szF_get h]
  have := szF_nonneg (delF L x) y
  show usedF L - (f.b.size : Int) - szF (delF L x) y + (f.b.size : Int) ≤ usedF L
  omega
theorem re_ok {s : DS} {x y : ByteArray} (hs : DOk s) : DOk (reD s x y).1 := by
  unfold reD
  split
  · exact hs
  · split
    · exact hs
    · rename_i h0
      cases hg : getF s.L x with
      | none => exact hs
      | some f =>
        have hm := getF_some hg
        have hf := hs.file f hm.1
        have := rename_used (y := y) hs.rise hg
        have := hs.room.1
        exact burn_ok hs (setF_rises (delF_rises hs.rise)) (set_file (fun g hg => hs.file g (mem_delF.1 hg).1) ⟨by by_cases q : MayN y; exact q; exact absurd (.inr q) h0, hf.2⟩) (by omega)
theorem re_len {s : DS} {x y : ByteArray} {k : Nat} (hs : DOk s) (h : s.L.length ≤ k) : (reD s x y).1.L.length ≤ k := by
  unfold reD
  split
  · exact h
  · split
    · exact h
    · cases hg : getF s.L x with
      | none => exact h
      | some f =>
        have h1 := length_delF hs.rise hg
        have h2 := length_setF (delF s.L x) ⟨y, f.b, f.s⟩
        exact burn_len h (by omega)
theorem rm_ok {s : DS} {x : ByteArray} (hs : DOk s) : DOk (rmD s x).1 := by
  unfold rmD
  split
  · exact hs
  · cases hg : getF s.L x with
    | none => exact hs
    | some f =>
      have := szF_nonneg s.L x
      have := hs.room.1
      exact burn_ok hs (delF_rises hs.rise) (fun g hg => hs.file g (mem_delF.1 hg).1) (by rw [usedF_delF hs.rise]; omega)
theorem rm_len {s : DS} {x : ByteArray} {k : Nat} (hs : DOk s) (h : s.L.length ≤ k) : (rmD s x).1.L.length ≤ k := by
  unfold rmD
  split
  · exact h
  · cases hg : getF s.L x with
    | none => exact h
    | some f =>
      have h1 := length_delF hs.rise hg
      exact burn_len h (by omega)
theorem fu_ok {s : DS} {n : Int} (hs : DOk s) (hn : n < 9223372036854775808) : DOk (fuD s n) := by
  unfold fuD
  split
  · exact hs
  · have := maxI_ge n 0
    exact ⟨hs.rise, hs.file, hs.room, by show 0 ≤ maxI n 0 ∧ maxI n 0 < 9223372036854775808; omega⟩
theorem cr_ok {s : DS} (hs : DOk s) : DOk (crD s) := ⟨hs.rise, hs.file, hs.room, by show (0 : Int) ≤ 0 ∧ (0 : Int) < _; omega⟩
theorem fu_len {s : DS} {n : Int} : (fuD s n).L = s.L := by unfold fuD; split <;> rfl

theorem keepF_n (f : Fl) (k : Option Int) : (keepF f k).n = f.n := rfl
theorem keepF_s {f : Fl} (hf : FOk f) (k : Option Int) : f.s ≤ (keepF f k).s ∧ (keepF f k).s ≤ f.b.size := by
  unfold keepF
  cases k with
  | none => exact ⟨by show f.s ≤ f.s + 0; omega, by show f.s + 0 ≤ _; have := hf.2.2.1; omega⟩
  | some v =>
    have h1 := maxI_ge v 0
    have h2 := minI_le (maxI v 0) (f.b.size - f.s)
    have := hf.2.2.1
    exact ⟨by show f.s ≤ f.s + minI (maxI v 0) (f.b.size - f.s); omega, by show f.s + minI (maxI v 0) (f.b.size - f.s) ≤ _; omega⟩
theorem keepF_b (f : Fl) (k : Option Int) : (keepF f k).b = cutB f.b (keepF f k).s := rfl
theorem keepF_size {f : Fl} (hf : FOk f) (k : Option Int) : ((keepF f k).b.size : Int) = (keepF f k).s := by
  have h := keepF_s hf k
  rw [keepF_b]
  exact cutB_size (by have := hf.2.1; omega) h.2
theorem keepF_ok {f : Fl} (hf : FOk f) (k : Option Int) : FOk (keepF f k) := by
  have h := keepF_s hf k
  have h2 := keepF_size hf k
  exact ⟨hf.1, by have := hf.2.1; omega, by omega, by have := hf.2.2.2; omega⟩
theorem keepL_len : ∀ (L : List Fl) (K : List Int), (keepL L K).length = L.length
  | [], _ => rfl
  | f :: L, [] => by simp [keepL, keepL_len L]
  | f :: L, k :: K => by simp [keepL, keepL_len L]
theorem keepL_at : ∀ {L : List Fl} {K : List Int} {i : Nat} (h : i < (keepL L K).length) (h' : i < L.length), (keepL L K)[i] = keepF L[i] K[i]?
  | f :: L, [], 0, _, _ => rfl
  | f :: L, k :: K, 0, _, _ => rfl
  | f :: L, [], i + 1, h, h' => by
    have := keepL_at (L := L) (K := []) (i := i) (by simpa [keepL] using h) (by simpa using h')
    simpa [keepL] using this
  | f :: L, k :: K, i + 1, h, h' => by
    have := keepL_at (L := L) (K := K) (i := i) (by simpa [keepL] using h) (by simpa using h')
    simpa [keepL] using this
theorem keepL_names : ∀ (L : List Fl) (K : List Int), (keepL L K).map Fl.n = L.map Fl.n
  | [], _ => rfl
  | f :: L, [] => by simp [keepL, keepL_names L, keepF_n]
  | f :: L, k :: K => by simp [keepL, keepL_names L, keepF_n]
theorem rises_names {L M : List Fl} (h : L.map Fl.n = M.map Fl.n) (hr : Rises L) : Rises M := by
  have h1 : (L.map Fl.n).Pairwise ltN := List.pairwise_map.2 hr
  rw [h] at h1
  exact List.pairwise_map.1 h1
theorem keepL_mem {L : List Fl} {K : List Int} {g : Fl} (h : g ∈ keepL L K) : ∃ f ∈ L, ∃ k, g = keepF f k := by
  obtain ⟨i, hi, e⟩ := List.mem_iff_getElem.1 h
  have hi' : i < L.length := by rw [← keepL_len L K]; exact hi
  exact ⟨L[i], List.getElem_mem hi', K[i]?, by rw [← e, keepL_at hi hi']⟩
theorem keepL_used : ∀ {L : List Fl} (K : List Int), (∀ f ∈ L, FOk f) → usedF (keepL L K) ≤ usedF L
  | [], _, _ => by simp [keepL]
  | f :: L, [], h => by
    have h1 := keepL_used (L := L) [] (fun g hg => h g (List.mem_cons_of_mem _ hg))
    have hf := h f (List.mem_cons_self ..)
    have h2 := keepF_s hf none
    have h3 := keepF_size hf none
    simp only [keepL, usedF_cons]; omega
  | f :: L, k :: K, h => by
    have h1 := keepL_used (L := L) K (fun g hg => h g (List.mem_cons_of_mem _ hg))
    have hf := h f (List.mem_cons_self ..)
    have h2 := keepF_s hf (some k)
    have h3 := keepF_size hf (some k)
    simp only [keepL, usedF_cons]; omega
theorem wa_ok {s : DS} {K : List Int} (hs : DOk s) : DOk (waD s K) := by
  unfold waD
  split
  · refine ⟨rises_names (keepL_names s.L K).symm hs.rise, fun g hg => ?_, ⟨?_, hs.room.2⟩, hs.left⟩
    · obtain ⟨f, hf, k, rfl⟩ := keepL_mem hg
      exact keepF_ok (hs.file f hf) k
    · have := keepL_used K hs.file
      have := hs.room.1
      show usedF (keepL s.L K) ≤ s.room
      omega
  · exact hs
theorem wa_len {s : DS} {K : List Int} : (waD s K).L.length = s.L.length := by unfold waD; split; exact keepL_len _ _; rfl

end Go.Proofs.Ytgpdbifgbabnnaa
