/- Slices that a call owns: many cells stored at once, and a slice cut at its end. Conditions: none. -/
import Derived.Test.YtcelpincmpjhkaaOwn
import Derived.Deep.RegionLaw
import Derived.Lib.SliceRun
namespace Go.Proofs.Ytcelpincmpjhkaa
open Go.RowKit

/-- A list with the values vs laid in from place o on. -/
def splice (xs : List Value) : Nat → List Value → List Value
  | _, [] => xs
  | o, v :: vs => splice (xs.set o v) (o + 1) vs

theorem splice_len : ∀ (vs : List Value) (xs : List Value) (o : Nat), (splice xs o vs).length = xs.length
  | [], _, _ => rfl
  | v :: vs, xs, o => by rw [splice, splice_len vs]; simp

theorem splice_get : ∀ (vs : List Value) (xs : List Value) (o j : Nat), j < xs.length → (splice xs o vs)[j]? = if o ≤ j ∧ j < o + vs.length then vs[j - o]? else xs[j]?
  | [], xs, o, j, _ => by rw [splice, if_neg (by simp)]
  | v :: vs, xs, o, j, hj => by
    rw [splice, splice_get vs _ _ _ (by simpa using hj)]
    by_cases h1 : o + 1 ≤ j ∧ j < o + 1 + vs.length
    · rw [if_pos h1, if_pos (by simp; omega), show j - o = (j - (o + 1)) + 1 by omega, List.getElem?_cons_succ]
    · rw [if_neg h1]
      by_cases h2 : j = o
      · subst h2; rw [if_pos (by simp), List.getElem?_set_self hj]; simp
      · rw [List.getElem?_set_ne (fun e => h2 e.symm), if_neg (by simp; omega)]

theorem stored_many {base : Nat} {e : TypeId} {m n cap g : Nat} : ∀ (vs : List Value) (o : Nat) (w : World) (xs : List Value), w.ownsRow base e m (.slice (some ⟨g, 0, none⟩) n cap) n xs →
    (w.setCells g o vs).ownsRow base e m (.slice (some ⟨g, 0, none⟩) n cap) n (splice xs o vs)
  | [], _, _, _, h => h
  | v :: vs, o, w, xs, h => by
    rw [splice]
    exact stored_many vs (o + 1) _ _ (World.ownsRow.stored h o v).1

theorem set_cells_upd {S : Nat → Prop} {g : Nat} (hg : S g) : ∀ (vs : List Value) (o : Nat) (w : World), Upd S w (w.setCells g o vs)
  | [], _, w => Upd.refl _ _
  | v :: vs, o, w => (Upd.set (S := S) (p := ⟨g, o, none⟩) hg v).trans (set_cells_upd hg vs (o + 1) _) (fun _ h _ => h)

/-- A slice of the call's own, cut to its first n' elements. -/
theorem cut_own {base : Nat} {e : TypeId} {m n n' cap g : Nat} {w : World} {xs : List Value} (h : w.ownsRow base e m (.slice (some ⟨g, 0, none⟩) n cap) n xs) (hn : n' ≤ n) :
    w.ownsRow base e m (.slice (some ⟨g, 0, none⟩) n' cap) n' (xs.take (n' * m)) := by
  obtain ⟨h1, h2⟩ := h
  have hm : n' * m ≤ n * m := Nat.mul_le_mul_right m hn
  refine ⟨by rw [List.length_take]; omega, ?_⟩
  rcases h2 with ⟨h2, _⟩ | ⟨g', cap', cur, hv, hb, hg, k1, k2, k3, k4⟩
  · simp at h2
  · simp only [Value.slice.injEq, Option.some.injEq, Addr.mk.injEq, and_true, true_and] at hv
    obtain ⟨rfl, rfl⟩ := hv
    refine .inr ⟨g, cap, cur, rfl, hb, hg, by omega, k2, k3, ?_⟩
    rw [← k4, List.take_take, Nat.min_eq_left hm]

/-- What stands when the element at i is taken out and the last cell filled. -/
theorem splice_erase (L : List Int) (enc : Int → Value) (i : Nat) (hi : i < L.length) (z : List Value) :
    (splice (splice (L.map enc) i ((L.drop (i + 1)).map enc)) (L.length - 1) z).take (L.length - 1) = (L.eraseIdx i).map enc := by
  apply List.ext_getElem?
  intro j
  rw [List.getElem?_take]
  by_cases hj : j < L.length - 1
  · rw [if_pos hj, splice_get _ _ _ _ (by rw [splice_len]; simp; omega), if_neg (by omega), splice_get _ _ _ _ (by simp; omega)]
    rw [List.getElem?_map (l := L.eraseIdx i), List.getElem?_eraseIdx]
    by_cases hji : i ≤ j
    · rw [if_pos (by simp; omega), if_neg (by omega), List.getElem?_map, List.getElem?_drop, show i + 1 + (j - i) = j + 1 by omega]
    · rw [if_neg (by omega), if_pos (by omega), List.getElem?_map]
  · rw [if_neg hj, List.getElem?_eq_none (by rw [List.length_map, List.length_eraseIdx_of_lt hi]; omega)]

end Go.Proofs.Ytcelpincmpjhkaa
