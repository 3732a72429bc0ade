/- The program's round and the document's, side by side: their state, and each call on the pair. Conditions: what 'COk' says of the state; at most a million subscriptions. -/
import Derived.Test.YtelebabegbkdnaaCreditK
namespace Go.Proofs.Ytelebabegbkdnaa
open Go.RowKit
set_option linter.unusedVariables false
variable {X X' : Nat → Prop} {w w' : World} {r p nx : Nat} {L M : List Sub} {last t : ByteArray}

/-! ### the program's calls by the document's words -/
theorem find_some_lt {L : List Sub} {t : ByteArray} {i : Nat} (h : findS L t = some i) : ∃ hi : i < L.length, sameS L[i].1 t = true := by
  unfold findS at h
  rw [List.findIdx?_eq_some_iff_getElem] at h
  exact ⟨h.1, h.2.1⟩

theorem pAdd (h : RndX X w r L nx) (hX : ∀ k, X k → k < w.heap.size) (hL : L.length ≤ 1000000) :
    Calls Try.prog 9 #[.pointer (some ⟨r, 0, none⟩), .string t] w fun e w' => e = .returned (.int .i64 (addOf L t).1) ∧ RndX X w' r (addOf L t).2 nx ∧ Kept X w w' := by
  unfold addOf
  by_cases h1 : t.size = 0 ∨ 40 < t.size
  · rw [if_pos h1]
    obtain ⟨v, hv, hs⟩ := id h
    exact (add_arg w r v L nx t hv h1).mono fun e w' ⟨he, hb⟩ => ⟨he, h.pure hb, Upd.of_below hb⟩
  · rw [if_neg h1]
    cases hf : findS L t with
    | some i => exact (addX_there h (by omega) (by omega) hf).mono fun e w' ⟨he, hb⟩ => ⟨he, h.pure hb, Upd.of_below hb⟩
    | none => exact addX h hX (by omega) (by omega) hf hL
theorem pGive {n : Int} (h : RndX X w r L nx) (hc : ∀ x ∈ L, 0 ≤ x.2 ∧ x.2 ≤ 4294967295) (n0 : 0 ≤ n) (n1 : n ≤ 4294967295) :
    Calls Try.prog 10 #[.pointer (some ⟨r, 0, none⟩), .string t, .int .u32 n] w fun e w' => e = .returned (.int .i64 (setOf L t (gave · n)).1) ∧ RndX X w' r (setOf L t (gave · n)).2 nx ∧ Kept X w w' := by
  unfold setOf
  cases hf : findS L t with
  | none =>
    obtain ⟨v, hv, hs⟩ := id h
    exact (give_none w r v L nx t n hv hf).mono fun e w' ⟨he, hb⟩ => ⟨he, h.pure hb, Upd.of_below hb⟩
  | some i =>
    have hi := findS_lt hf
    obtain ⟨k0, k1⟩ := hc _ (List.getElem_mem hi)
    simp only
    rw [show (L.modify i fun x => (x.1, gave x.2 n)) = L.set i (L[i].1, gave L[i].2 n) from modify_set hi (fun c => gave c n)]
    exact giveX h hi hf k0 k1 n0 n1
theorem pStop (h : RndX X w r L nx) :
    Calls Try.prog 15 #[.pointer (some ⟨r, 0, none⟩), .string t] w fun e w' => e = .returned (.int .i64 (setOf L t (fun _ => 0)).1) ∧ RndX X w' r (setOf L t (fun _ => 0)).2 nx ∧ Kept X w w' := by
  unfold setOf
  obtain ⟨v, hv, hs⟩ := id h
  cases hf : findS L t with
  | none => exact (stop_none w r v L nx t hv hf).mono fun e w' ⟨he, hb⟩ => ⟨he, h.pure hb, Upd.of_below hb⟩
  | some i =>
    have hi := findS_lt hf
    simp only
    rw [show (L.modify i fun x => (x.1, (0 : Int))) = L.set i (L[i].1, 0) from modify_set hi (fun c => 0)]
    exact (stop_some w r i v L nx t hv hi hf).mono fun e w' ⟨he, hv', hu⟩ => ⟨he, ⟨v, hv', hs⟩, hu.mono (fun k hk _ => hs k hk)⟩
theorem pCredit (h : RndX X w r L nx) :
    Calls Try.prog 20 #[.pointer (some ⟨r, 0, none⟩), .string t] w fun e w' => e = .returned (.tuple #[.int .u32 ((findS L t).elim 0 (fun i => (L.getD i (⟨#[]⟩, 0)).2)), .int .i64 ((findS L t).elim 7 (fun _ => 0))]) ∧ Below w.heap.size w w' := by
  obtain ⟨v, hv, hs⟩ := id h
  cases hf : findS L t with
  | none => exact credit_none w r v L nx t hv hf
  | some i =>
    have hi := findS_lt hf
    simp only [Option.elim_some, List.getD_eq_getElem?_getD, List.getElem?_eq_getElem hi, Option.getD_some]
    exact credit_some w r i v L nx t hv hi hf

/-- What Remove does. -/
def remOf (L : List Sub) (t : ByteArray) : Int × List Sub := match findS L t with | none => (7, L) | some i => (0, L.eraseIdx i)
def remNx (L : List Sub) (t : ByteArray) (nx : Nat) : Nat := match findS L t with | none => nx | some i => if i < nx then nx - 1 else nx
def remLast (L : List Sub) (t last : ByteArray) : ByteArray := match findS L t with | none => last | some i => lastOf L i last t
theorem pRemove (h : RndX X w r L nx) (hL : L.length ≤ 1000000) (hnx : nx ≤ L.length) :
    Calls Try.prog 13 #[.pointer (some ⟨r, 0, none⟩), .string t] w fun e w' => e = .returned (.int .i64 (remOf L t).1) ∧ RndX X w' r (remOf L t).2 (remNx L t nx) ∧ Kept X w w' := by
  unfold remOf remNx
  cases hf : findS L t with
  | none =>
    obtain ⟨v, hv, hs⟩ := id h
    exact (remove_none w r v L nx t hv hf).mono fun e w' ⟨he, hb⟩ => ⟨he, h.pure hb, Upd.of_below hb⟩
  | some i => exact removeX h (findS_lt hf) hf hL hnx

/-- What Turn does. -/
def turnTag (L : List Sub) (nx : Nat) (may : List ByteArray) : ByteArray × Bool := match turnN L nx may with | none => (⟨#[]⟩, false) | some i => ((L.getD i (⟨#[]⟩, 0)).1, true)
def turnL (L : List Sub) (nx : Nat) (may : List ByteArray) : List Sub := match turnN L nx may with | none => L | some i => L.modify i (fun x => (x.1, spent x.2))
def turnNx (L : List Sub) (nx : Nat) (may : List ByteArray) : Nat := match turnN L nx may with | none => nx | some i => i + 1
def turnLast (L : List Sub) (nx : Nat) (may : List ByteArray) (last : ByteArray) : ByteArray := match turnN L nx may with | none => last | some i => (L.getD i (⟨#[]⟩, 0)).1
theorem pTurn {may : List ByteArray} {mv : Value} (h : RndX X w r L nx) (hm : Slc strEnc 1 w mv may) (hnx : nx ≤ L.length) (hL : L.length ≤ 1000000) (hc : ∀ x ∈ L, 0 ≤ x.2 ∧ x.2 ≤ 4294967295) :
    Calls Try.prog 11 #[.pointer (some ⟨r, 0, none⟩), mv] w fun e w' => e = .returned (.tuple #[.string (turnTag L nx may).1, .bool (turnTag L nx may).2]) ∧ RndX X w' r (turnL L nx may) (turnNx L nx may) ∧ Kept X w w' := by
  unfold turnTag turnL turnNx
  rw [turn_same hnx]
  cases ht : turnOf L nx may with
  | none => exact (turnX_none h hm hnx hL hc ht).mono fun e w' ⟨he, hb⟩ => ⟨he, h.pure hb, Upd.of_below hb⟩
  | some i =>
    simp only [Option.map_some, List.getD_eq_getElem?_getD, List.getElem?_eq_getElem i.2, Option.getD_some]
    rw [show (L.modify i.1 fun x => (x.1, spent x.2)) = L.set i.1 (L[i.1].1, spent L[i.1].2) from modify_set i.2 (fun c => spent c)]
    exact turnX_some h hm hnx hL hc ht

/-! ### the pair -/
def PairC (X : Nat → Prop) (w : World) (r p : Nat) (L : List Sub) (nx : Nat) (M : List Sub) (last : ByteArray) : Prop :=
  ∃ v u, Rnd w r v L nx ∧ RefR w p u M last ∧ (∀ k, RndS r v k → ¬ X k) ∧ (∀ k, RefS p u k → ¬ X k) ∧ ∀ k, RndS r v k → ¬ RefS p u k
theorem Rnd.lt {v : Value} (h : Rnd w r v L nx) {k : Nat} (hk : RndS r v k) : k < w.heap.size := by
  rcases hk with rfl | hk
  · exact h.1.lt
  · exact h.2.1.lt hk
theorem PairC.pure (h : PairC X w r p L nx M last) (hb : Below w.heap.size w w') : PairC X w' r p L nx M last := by
  obtain ⟨v, u, h1, h2, h3⟩ := h; exact ⟨v, u, h1.pure hb, h2.pure hb, h3⟩
theorem PairC.drew (h : PairC X w r p L nx M last) : PairC X w.drew r p L nx M last := h
theorem PairC.more (h : PairC X w r p L nx M last) (hX : ∀ k, X' k → k < w.heap.size → X k) : PairC X' w r p L nx M last := by
  obtain ⟨v, u, h1, h2, h3, h4, h5⟩ := h
  exact ⟨v, u, h1, h2, fun k hk hx => h3 k hk (hX k hx (h1.lt hk)), fun k hk hx => h4 k hk (hX k hx (h2.lt hk)), h5⟩
theorem PairC.rnd (h : PairC X w r p L nx M last) (hX : ∀ k, X k → k < w.heap.size) : ∃ Y : Nat → Prop, RndX Y w r L nx ∧ (∀ k, Y k → k < w.heap.size) ∧ ∀ w' L' nx', RndX Y w' r L' nx' → Kept Y w w' → PairC X w' r p L' nx' M last ∧ Kept X w w' := by
  obtain ⟨v, u, h1, h2, h3, h4, h5⟩ := h
  refine ⟨fun k => X k ∨ RefS p u k, ⟨v, h1, fun k hk hx => hx.elim (h3 k hk) (h5 k hk)⟩, fun k hk => hk.elim (hX k) h2.lt, ?_⟩
  rintro w' L' nx' ⟨v', g1, g2⟩ hK
  refine ⟨⟨v', u, g1, ⟨h2.1.keep (hK.block p h2.1.lt (fun hn => hn (.inr (.inl rfl)))), h2.2.1.keep (fun k hk hl => hK.block k hl (fun hn => hn (.inr (.inr hk)))), h2.2.2⟩,
    fun k hk hx => g2 k hk (.inl hx), h4, fun k hk hx => g2 k hk (.inr hx)⟩, hK.mono (fun k hk _ hx => hk (.inl hx))⟩
theorem PairC.ref (h : PairC X w r p L nx M last) (hX : ∀ k, X k → k < w.heap.size) : ∃ u, RefR w p u M last ∧ ∀ w' M' last', RStep w w' p u M' last' → PairC X w' r p L nx M' last' ∧ Kept X w w' := by
  obtain ⟨v, u, h1, h2, h3, h4, h5⟩ := h
  refine ⟨u, h2, ?_⟩
  rintro w' M' last' ⟨u', g1, g2, g3⟩
  refine ⟨⟨v, u', h1.upd g2 h5, g1, h3, fun k hk hx => (g3 k hk).elim (fun h => h4 k h hx) (fun h => by have := hX k hx; omega), fun k hk hx => (g3 k hx).elim (h5 k hk) (fun h => by have := h1.lt hk; omega)⟩, g2.mono (fun k hk _ hx => h4 k hk hx)⟩

section
variable (h : PairC X w r p L nx M last) (hX : ∀ k, X k → k < w.heap.size)
include h hX
theorem cq_add (hL : L.length ≤ 1000000) :
    Calls Try.prog 9 #[.pointer (some ⟨r, 0, none⟩), .string t] w fun e w' => e = .returned (.int .i64 (addOf L t).1) ∧ PairC X w' r p (addOf L t).2 nx M last ∧ Kept X w w' := by
  obtain ⟨Y, h1, h2, h3⟩ := h.rnd hX
  exact (pAdd h1 h2 hL).mono fun e w' ⟨he, hq, hk⟩ => ⟨he, h3 w' _ _ hq hk⟩
theorem cq_remove (hL : L.length ≤ 1000000) (hnx : nx ≤ L.length) :
    Calls Try.prog 13 #[.pointer (some ⟨r, 0, none⟩), .string t] w fun e w' => e = .returned (.int .i64 (remOf L t).1) ∧ PairC X w' r p (remOf L t).2 (remNx L t nx) M last ∧ Kept X w w' := by
  obtain ⟨Y, h1, h2, h3⟩ := h.rnd hX
  exact (pRemove h1 hL hnx).mono fun e w' ⟨he, hq, hk⟩ => ⟨he, h3 w' _ _ hq hk⟩
theorem cq_give {n : Int} (hc : ∀ x ∈ L, 0 ≤ x.2 ∧ x.2 ≤ 4294967295) (n0 : 0 ≤ n) (n1 : n ≤ 4294967295) :
    Calls Try.prog 10 #[.pointer (some ⟨r, 0, none⟩), .string t, .int .u32 n] w fun e w' => e = .returned (.int .i64 (setOf L t (gave · n)).1) ∧ PairC X w' r p (setOf L t (gave · n)).2 nx M last ∧ Kept X w w' := by
  obtain ⟨Y, h1, h2, h3⟩ := h.rnd hX
  exact (pGive h1 hc n0 n1).mono fun e w' ⟨he, hq, hk⟩ => ⟨he, h3 w' _ _ hq hk⟩
theorem cq_stop :
    Calls Try.prog 15 #[.pointer (some ⟨r, 0, none⟩), .string t] w fun e w' => e = .returned (.int .i64 (setOf L t (fun _ => 0)).1) ∧ PairC X w' r p (setOf L t (fun _ => 0)).2 nx M last ∧ Kept X w w' := by
  obtain ⟨Y, h1, h2, h3⟩ := h.rnd hX
  exact (pStop h1).mono fun e w' ⟨he, hq, hk⟩ => ⟨he, h3 w' _ _ hq hk⟩
theorem cq_turn {may : List ByteArray} {mv : Value} (hm : Slc strEnc 1 w mv may) (hnx : nx ≤ L.length) (hL : L.length ≤ 1000000) (hc : ∀ x ∈ L, 0 ≤ x.2 ∧ x.2 ≤ 4294967295) :
    Calls Try.prog 11 #[.pointer (some ⟨r, 0, none⟩), mv] w fun e w' => e = .returned (.tuple #[.string (turnTag L nx may).1, .bool (turnTag L nx may).2]) ∧ PairC X w' r p (turnL L nx may) (turnNx L nx may) M last ∧ Kept X w w' := by
  obtain ⟨Y, h1, h2, h3⟩ := h.rnd hX
  exact (pTurn h1 hm hnx hL hc).mono fun e w' ⟨he, hq, hk⟩ => ⟨he, h3 w' _ _ hq hk⟩
theorem cr_add (hL : M.length ≤ 1000000) (ht : t.size ≤ 1000) :
    Calls Try.prog 12 #[.pointer (some ⟨p, 0, none⟩), .string t] w fun e w' => e = .returned (.int .i64 (addOf M t).1) ∧ PairC X w' r p L nx (addOf M t).2 last ∧ Kept X w w' := by
  obtain ⟨u, h1, h2⟩ := h.ref hX
  exact (ref_add w p u M last t h1 hL ht).mono fun e w' ⟨he, hq⟩ => ⟨he, h2 w' _ _ hq⟩
theorem cr_remove (hL : M.length ≤ 1000000) :
    Calls Try.prog 14 #[.pointer (some ⟨p, 0, none⟩), .string t] w fun e w' => e = .returned (.int .i64 (remOf M t).1) ∧ PairC X w' r p L nx (remOf M t).2 (remLast M t last) ∧ Kept X w w' := by
  obtain ⟨u, h1, h2⟩ := h.ref hX
  refine (ref_remove w p u M last t h1 hL).mono ?_
  rintro e w' (⟨hf, he, hq⟩ | ⟨i, hf, he, hq⟩)
  · unfold remOf remLast; rw [hf]; exact ⟨he, h2 w' _ _ hq⟩
  · unfold remOf remLast; rw [hf]; exact ⟨he, h2 w' _ _ hq⟩
theorem cr_give {n : Int} (hL : M.length ≤ 1000000) (hc : ∀ x ∈ M, 0 ≤ x.2 ∧ x.2 ≤ 4294967295) (n0 : 0 ≤ n) (n1 : n ≤ 4294967295) :
    Calls Try.prog 18 #[.pointer (some ⟨p, 0, none⟩), .string t, .int .u32 n] w fun e w' => e = .returned (.int .i64 (setOf M t (gave · n)).1) ∧ PairC X w' r p L nx (setOf M t (gave · n)).2 last ∧ Kept X w w' := by
  obtain ⟨u, h1, h2⟩ := h.ref hX
  exact (ref_give w p u M last t n h1 hL hc n0 n1).mono fun e w' ⟨he, hq⟩ => ⟨he, h2 w' _ _ hq⟩
theorem cr_stop (hL : M.length ≤ 1000000) :
    Calls Try.prog 16 #[.pointer (some ⟨p, 0, none⟩), .string t] w fun e w' => e = .returned (.int .i64 (setOf M t (fun _ => 0)).1) ∧ PairC X w' r p L nx (setOf M t (fun _ => 0)).2 last ∧ Kept X w w' := by
  obtain ⟨u, h1, h2⟩ := h.ref hX
  exact (ref_stop w p u M last t h1 hL).mono fun e w' ⟨he, hq⟩ => ⟨he, h2 w' _ _ hq⟩
theorem cr_turn {may : List ByteArray} {mv : Value} (hm : Slc strEnc 1 w mv may) (hL : M.length ≤ 1000000) (hc : ∀ x ∈ M, 0 ≤ x.2 ∧ x.2 ≤ 4294967295) :
    Calls Try.prog 17 #[.pointer (some ⟨p, 0, none⟩), mv] w fun e w' => e = .returned (.tuple #[.string (turnTag M (nxOf M last) may).1, .bool (turnTag M (nxOf M last) may).2]) ∧ PairC X w' r p L nx (turnL M (nxOf M last) may) (turnLast M (nxOf M last) may last) ∧ Kept X w w' := by
  obtain ⟨u, h1, h2⟩ := h.ref hX
  refine (ref_turn w p u mv M last may h1 hm hL hc).mono ?_
  unfold turnTag turnL turnLast
  rintro e w' (⟨hf, he, hq⟩ | ⟨i, hf, hi, he, hq⟩)
  · rw [hf]; exact ⟨he, h2 w' _ _ hq⟩
  · rw [hf]
    simp only [List.getD_eq_getElem?_getD, List.getElem?_eq_getElem hi, Option.getD_some]
    rw [show (M.modify i fun x => (x.1, spent x.2)) = M.set i (M[i].1, spent M[i].2) from modify_set hi (fun c => spent c)]
    exact ⟨he, h2 w' _ _ hq⟩
end
theorem cq_tags (h : PairC X w r p L nx M last) (hL : L.length ≤ 1000000) :
    Calls Try.prog 19 #[.pointer (some ⟨r, 0, none⟩)] w fun e w' => ∃ u, e = .returned u ∧ Slc strEnc 1 w' u (L.map (·.1)) ∧ Below w.heap.size w w' := by
  obtain ⟨v, u, h1, _⟩ := h
  exact (tags_any w r v L nx h1 hL).mono fun e w' ⟨u, he, hO, hB⟩ => ⟨u, he, hO.slc strEnc_len, hB⟩
theorem cq_credit (h : PairC X w r p L nx M last) :
    Calls Try.prog 20 #[.pointer (some ⟨r, 0, none⟩), .string t] w fun e w' => e = .returned (.tuple #[.int .u32 ((findS L t).elim 0 (fun i => (L.getD i (⟨#[]⟩, 0)).2)), .int .i64 ((findS L t).elim 7 (fun _ => 0))]) ∧ Below w.heap.size w w' := by
  obtain ⟨v, u, h1, _⟩ := h
  exact pCredit (X := fun _ => False) ⟨v, h1, fun _ _ h => h⟩
theorem cr_find (h : PairC X w r p L nx M last) :
    Calls Try.prog 21 #[.pointer (some ⟨p, 0, none⟩), .string t] w fun e w' => e = .returned (.int .i64 (idxOf (findS M t))) ∧ w = w' := by
  obtain ⟨v, u, _, h1, _⟩ := h
  exact ref_find w p u M last t h1
end Go.Proofs.Ytelebabegbkdnaa
