/- Package disk: List, Copy. Conditions: the disk is right, of less than a million files. -/
import Derived.Test.YtgpdbifgbabnnaaDkG0
import Derived.Test.YtgpdbifgbabnnaaDkLay
namespace Go.Proofs.Ytgpdbifgbabnnaa
open Go.RowKit Go.Maps
set_option linter.unusedVariables false
set_option linter.unusedSimpArgs false

/-- The keys of a map of files, sorted: the files' names as they stand. -/
theorem names_sorted {w : World} {b n : Nat} {D : DataW (ByteArray × Int)} {L : List Fl} (hown : w.ownsMap Try.prog 9 (decR decF) b n D) (hr : Rises L) (hf : ∀ f ∈ L, FOk f)
    (hD : ∀ x, okS x → Maps.has D (klS x) = (flH L x).isSome ∧ ∀ y, flH L x = some y → ∀ z, D.atKey (klS x) z = .held y) {ss : List (List UInt8)} (hs : ss.Perm (strKeys D)) :
    ss.mergeSort (fun x y => decide (x ≤ y)) = L.map (fun f => f.n.toList) := by
  have hk : Try.prog.underlying 9 = some .string := Try.underlying9
  have hso : (L.map (fun f => f.n.toList)).Pairwise (fun x y => x < y) := List.pairwise_map.2 hr
  have hnd : (L.map (fun f => f.n.toList)).Nodup := hso.imp (fun {a b} h e => by rw [e] at h; exact List.lt_irrefl _ h)
  have hC : Collected D (fun _ => false) (L.map (fun f => f.n.toList)) := by
    refine ⟨hnd, fun x => ?_⟩
    have key : ∀ y : ByteArray, okS y → (Maps.has D (.string y.toList) = true ↔ ∃ f ∈ L, f.n = y) := fun y hy => by
      rw [← klS_toList, (hD y hy).1]
      unfold flH
      cases hg : getF L y with
      | none => simp; exact fun f hfm => (getF_none.1 hg) f hfm
      | some f => simp; exact ⟨f, getF_some hg⟩
    simp only [and_true, List.mem_map]
    constructor
    · rintro ⟨f, hfm, rfl⟩
      exact (key f.n (mayN_ok (hf f hfm).1)).2 ⟨f, hfm, rfl⟩
    · intro hh
      have hx : x.length ≤ maxLen := by
        obtain ⟨es, rfl, -, -⟩ := hown.entries (string_keyed hk)
        rw [has_eq, List.any_eq_true] at hh
        obtain ⟨p, hp, hpk⟩ := hh
        have hpx : p.1 = .string x := by
          rcases Classical.em (p.1 = .string x) with e | e
          · exact e
          · rw [sameKey_ne e] at hpk; cases hpk
        refine strKeys_le hown hk x ?_
        show x ∈ es.map fun p => strOf p.1
        exact List.mem_map.2 ⟨p, hp, by rw [hpx]; rfl⟩
      have hy : (ByteArray.mk x.toArray).toList = x := ByteArray.toList_mk x
      obtain ⟨f, hfm, e⟩ := (key ⟨x.toArray⟩ (by unfold okS; show x.toArray.size ≤ maxLen; simpa using hx)).1 (by rw [hy]; exact hh)
      exact ⟨f, hfm, by rw [e, hy]⟩
  have hp := hC.perm hown (string_keyed hk) hk (fun _ => rfl)
  rw [mergeSort_of_perm (hs.trans hp.symm)]
  refine List.mergeSort_of_pairwise (hso.imp (fun {a b} h => ?_))
  simp only [leB, decide_eq_true_eq]
  exact List.le_of_lt h
theorem names_cells (L : List Fl) : (L.map (fun f => f.n.toList)).map encStr = (L.map Fl.n).flatMap strEnc := by
  induction L with
  | nil => rfl
  | cons f L ih =>
    simp only [List.map_cons, List.flatMap_cons, ih]
    have : encStr f.n.toList = .string f.n := by unfold encStr; congr 1; exact toList_inj (ByteArray.toList_mk _)
    rw [this]; rfl

set_option maxRecDepth 100000 in
set_option maxHeartbeats 1600000 in
theorem list_any : ListOk := by
  intro w d b s h ho hL
  have c0 := h.c0
  obtain ⟨D, hown, hsz, hD⟩ := h.2.1
  have hkeys := (callsIn_wide (n := 5)).1 (keys_run (some b) w)
  have hsorted := (callsIn_wide (n := 5)).1 (sorted_run b _ D (decR decF) w hown (by rw [hsz]; unfold maxLen; omega) (by rw [hsz]; omega))
  have hn := fun (ss : List (List UInt8)) (hs : ss.Perm (strKeys D)) => names_sorted hown ho.rise ho.file hD hs
  have hn' := Lib.hid hn; clear hn
  clear hown hsz hD
  go_enter Try.func14, Try.ntmps14
  go_wp2_with (first
    | (go_at_call 40; (with_reducible refine (there_ok _ d b c0).mono ?_); rintro e w1 ⟨rfl, rfl⟩)
    | (go_at_call 42; (with_reducible refine hkeys.mono ?_); clear hkeys; rintro e w1 ⟨rfl, rfl⟩)
    | (go_at_call 41; (with_reducible refine hsorted.mono ?_); clear hsorted; rintro e w2 ⟨v, ss, rfl, hS, hrow, hnil, hb⟩))
  go_ret
  have e1 : (w.alloc (.cells #[.map (some b)] 48)).heap.size = w.heap.size + 1 := by simp
  refine ⟨v, rfl, ?_, ((Below.refl _ w).alloc (Nat.le_refl _) _).trans (hb.mono (by simp))⟩
  have hl : ss.length = (s.L.map Fl.n).length := by
    have := congrArg List.length (hn'.out ss hS)
    rw [List.length_mergeSort] at this
    simpa using this
  rw [hn'.out ss hS, hl, names_cells] at hrow
  have ho2 : Own (w.heap.size + 1) 9 1 strEnc w2 v (s.L.map Fl.n) := by rw [← e1]; exact hrow
  exact ho2.rebase (fun k hk => by have := ho2.ge hk; omega)
theorem clone_any : CloneOk := by
  intro w b L h
  obtain ⟨D, hown, hsz, hD⟩ := h
  refine (AnyW.maps_Clone_owns cloneLay 9 (decR decF) b _ D w hown).mono ?_
  rintro e w' ⟨rfl, h1, h2, h3⟩
  exact ⟨rfl, ⟨D, h1, hsz, hD⟩, h3⟩
end Go.Proofs.Ytgpdbifgbabnnaa
